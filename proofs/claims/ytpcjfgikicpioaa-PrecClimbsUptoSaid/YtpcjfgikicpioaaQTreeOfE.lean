/- The reference's TreeOf: what it returns, its leaf, a call's result stored. -/
import Derived.Test.YtpcjfgikicpioaaQp1
import Derived.Test.YtpcjfgikicpioaaQClimbO
import Derived.Test.YtpcjfgikicpioaaQClimbR
namespace Go.Proofs.Ytpcjfgikicpioaa
open Go.RowKit
set_option linter.unusedVariables false

/-- A tree that is returned: its value and what lies behind it. -/
def TrO (w : World) (lo : Nat) (x : Tree) (A : Option Addr) (c : Nat) : Prop := I64 x.rule ∧ I64 x.term ∧ x.kids.length ≤ c ∧ c ≤ 9223372036854775807 ∧ Els w (fun b => lo ≤ b ∧ b < w.heap.size) x.kids A
def TrA (t : Table) (k : Nat) (l : List Int) (b : Bool) (x : Tree) : Prop := (b = true → Lv t k x l) ∧ (b = false → ∀ y, ¬ Lv t k y l)
def trV (x : Tree) (A : Option Addr) (c : Nat) : Value := .agg #[.int .i64 x.rule, .int .i64 x.term, .slice A x.kids.length c]
def RetTr (t : Table) (k : Nat) (l : List Int) (w : World) (e : Ending) (w' : World) : Prop := ∃ b x A c, e = .returned (.tuple #[.agg #[.int .i64 x.rule, .int .i64 x.term, .slice A x.kids.length c], .bool b]) ∧ TrO w' w.heap.size x A c ∧ TrA t k l b x ∧ Below w.heap.size w w'
/-- A call's result, stored in a block of its own. -/
def Got (t : Table) (k : Nat) (l : List Int) (ws : World) (p v : Value) (wx : World) : Prop := ∃ b x A c g, p = .pointer (some ⟨g, 0, none⟩) ∧ v = .bool b ∧ ws.heap.size ≤ g ∧ Blk' wx g 28 #[.int .i64 x.rule, .int .i64 x.term, .slice A x.kids.length c] ∧ TrO wx ws.heap.size x A c ∧ TrA t k l b x ∧ Below ws.heap.size ws wx
theorem TrO.kept {X : Nat → Prop} {w w' : World} {lo lo' : Nat} {x : Tree} {A : Option Addr} {c : Nat} (h : TrO w lo x A c) (k : Kept X w w') (hx : ∀ b, X b → b < lo ∨ w.heap.size ≤ b) (hl : lo' ≤ lo) : TrO w' lo' x A c :=
  ⟨h.1, h.2.1, h.2.2.1, h.2.2.2.1, (h.2.2.2.2.kept k (fun b hb hX => by have := hx b hX; omega)).keep (fun _ _ _ => rfl) (fun b hb => ⟨by omega, by have := k.size; omega⟩)⟩
theorem TrO.below {w w' : World} {lo lo' : Nat} {x : Tree} {A : Option Addr} {c : Nat} (h : TrO w lo x A c) (k : Below w.heap.size w w') (hl : lo' ≤ lo) : TrO w' lo' x A c := h.kept (Kept.of_below (fun _ => False) k) (fun b hb => hb.elim) hl
/-- The call first, then the block. -/
theorem got_a {t : Table} {k : Nat} {l : List Int} {ws w6 wx : World} {b : Bool} {x : Tree} {A : Option Addr} {c : Nat} (ho : TrO w6 ws.heap.size x A c) (ha : TrA t k l b x) (hb : Below ws.heap.size ws w6) (hx : wx = w6.alloc (.cells #[.int .i64 x.rule, .int .i64 x.term, .slice A x.kids.length c] 28)) : Got t k l ws (.pointer (some ⟨w6.heap.size, 0, none⟩)) (.bool b) wx := by
  subst hx
  have hz : Below w6.heap.size w6 (w6.alloc (.cells #[.int .i64 x.rule, .int .i64 x.term, .slice A x.kids.length c] 28)) := (Below.refl _ _).alloc (Nat.le_refl _) _
  exact ⟨b, x, A, c, w6.heap.size, rfl, rfl, hb.size, Blk'.new _ _ _, ho.below hz (Nat.le_refl _), ha, bthen hb hz hb.size⟩
/-- The block first, then the call. -/
theorem got_b {t : Table} {k : Nat} {l : List Int} {ws w5 w6 wx : World} {b : Bool} {x : Tree} {A : Option Addr} {c : Nat} (hz : w5.heap.size = ws.heap.size + 1) (h5b : Blk' w5 ws.heap.size 28 #[.int .i64 0, .int .i64 0, .slice none 0 0]) (hB5 : Below ws.heap.size ws w5) (ho : TrO w6 w5.heap.size x A c) (ha : TrA t k l b x) (hb : Below w5.heap.size w5 w6)
    (hx : wx = ((w6.setCell ⟨ws.heap.size, 0, none⟩ (.int .i64 x.rule)).setCell ⟨ws.heap.size, 1, none⟩ (.int .i64 x.term)).setCell ⟨ws.heap.size, 2, none⟩ (.slice A x.kids.length c)) : Got t k l ws (.pointer (some ⟨ws.heap.size, 0, none⟩)) (.bool b) wx := by
  have h6b := h5b.below hb (by omega)
  have hK : Kept (fun b => b = ws.heap.size) w6 wx := by
    rw [hx]
    exact (((Kept.refl (fun b => b = ws.heap.size) w6).setCell (p := ⟨ws.heap.size, 0, none⟩) (.inl rfl) _).setCell (p := ⟨ws.heap.size, 1, none⟩) (.inl rfl) _).setCell (p := ⟨ws.heap.size, 2, none⟩) (.inl rfl) _
  refine ⟨b, x, A, c, ws.heap.size, rfl, rfl, Nat.le_refl _, by rw [hx]; exact ((h6b.set_ 0 _).set_ 1 _).set_ 2 _, ho.kept hK (fun b hb => by have : b = ws.heap.size := hb; omega) (by omega), ha, ?_⟩
  have h6 : Below ws.heap.size ws w6 := bthen hB5 hb (by omega)
  exact h6.trans (hK.to_below (fun b hb => by have : b = ws.heap.size := hb; omega) h6.size)
theorem alloc_size (w : World) (o : Obj) : (w.alloc o).heap.size = w.heap.size + 1 := by simp
theorem got_c {t : Table} {k : Nat} {l : List Int} {ws w6 wx : World} {b : Bool} {x : Tree} {A : Option Addr} {c : Nat} (ho : TrO w6 (ws.drew.alloc (.cells #[.int .i64 0, .int .i64 0, .slice none 0 0] 28)).heap.size x A c) (ha : TrA t k l b x) (hb : Below (ws.drew.alloc (.cells #[.int .i64 0, .int .i64 0, .slice none 0 0] 28)).heap.size (ws.drew.alloc (.cells #[.int .i64 0, .int .i64 0, .slice none 0 0] 28)) w6)
    (hx : wx = ((w6.setCell ⟨ws.heap.size, 0, none⟩ (.int .i64 x.rule)).setCell ⟨ws.heap.size, 1, none⟩ (.int .i64 x.term)).setCell ⟨ws.heap.size, 2, none⟩ (.slice A x.kids.length c)) : Got t k l ws (.pointer (some ⟨ws.heap.size, 0, none⟩)) (.bool b) wx :=
  got_b (alloc_size ws.drew _) (Blk'.new ws.drew _ _) ((below_drew ws).alloc (Nat.le_refl _) _) ho ha hb hx
theorem TrO.rd {X : Nat → Prop} {w w' : World} {lo n : Nat} {x : Tree} {A : Option Addr} {c : Nat} (h : TrO w lo x A c) (k : Kept X w w') (hx : ∀ b, X b → b < lo ∨ w.heap.size ≤ b) (hl : n ≤ lo) : Dat.rd w' (fun b => n ≤ b ∧ b < w'.heap.size) x [.int .i64 x.rule, .int .i64 x.term, .slice A x.kids.length c] := by
  have h := h.kept k hx hl
  exact rd_node h.1 h.2.1 h.2.2.1 h.2.2.2.1 h.2.2.2.2
theorem dropI {w : World} {S : Nat → Prop} {l : List Int} {b o : Nat} (h : Els w S l (some ⟨b, o, none⟩)) (n : Nat) : Els w S (l.drop n) (some ⟨b, o + n, none⟩) := by
  have h := h.dropS n
  rwa [show o + n * Dat.size Int = o + n from by show o + n * 1 = o + n; omega] at h
/-- A node is returned: the kids' new block, the result's variable R. -/
theorem tr_fin {w wz wF : World} {R n : Nat} {rule : Int} {cs : Array Value} {a0 a1 a2 : Value} (hb : Below w.heap.size w wz) (hR : Blk' wz R 28 #[a0, a1, a2]) (hRw : w.heap.size ≤ R)
    (hF : wF = (((wz.setCell ⟨R, 0, none⟩ (.int .i64 rule)).setCell ⟨R, 1, none⟩ (.int .i64 0)).setCell ⟨R, 2, none⟩ (.slice (some ⟨wz.heap.size, 0, none⟩) n n)).alloc (.cells cs 28)) :
    (wF.cell? ⟨R, 0, none⟩ = some (.int .i64 rule) ∧ wF.cell? ⟨R, 1, none⟩ = some (.int .i64 0) ∧ wF.cell? ⟨R, 2, none⟩ = some (.slice (some ⟨wz.heap.size, 0, none⟩) n n)) ∧ Blk' wF wz.heap.size 28 cs ∧ wF.heap.size = wz.heap.size + 1 ∧ Kept (fun b => b = R) wz wF ∧ Below w.heap.size w wF := by
  have hKF : Kept (fun b => b = R) wz wF := by
    rw [hF]
    exact ((((Kept.refl (fun b => b = R) wz).setCell (p := ⟨R, 0, none⟩) (.inl rfl) _).setCell (p := ⟨R, 1, none⟩) (.inl rfl) _).setCell (p := ⟨R, 2, none⟩) (.inl rfl) _).alloc _
  have hRF : Blk' wF R 28 #[.int .i64 rule, .int .i64 0, .slice (some ⟨wz.heap.size, 0, none⟩) n n] := by
    rw [hF]
    exact (((hR.set_ 0 _).set_ 1 _).set_ 2 _).alloc _
  have hz : wF.heap.size = wz.heap.size + 1 := by rw [hF]; simp [World.setCell]
  refine ⟨⟨hRF.cell 0, hRF.cell 1, hRF.cell 2⟩, ?_, hz, hKF, hb.trans (hKF.to_below (fun b hb => by have : b = R := hb; omega) hb.size)⟩
  rw [hF]
  exact Blk'.new' _ _ _ (by simp [World.setCell])
set_option maxRecDepth 100000 in
theorem leafOf_any (x : Int) (w : World) : Calls Try.prog 53 #[.int .i64 x] w fun e w' => e = .returned (.agg #[.int .i64 (-1), .int .i64 x, .slice none 0 0]) ∧ Below w.heap.size w w' := by
  go_enter Try.func53, Try.ntmps53
  go_wp2
  refine bodyPost_ret (v := .agg #[.int .i64 (-1), .int .i64 x, .slice none 0 0]) (by simp [results, Try.results53, go_sem]) rfl ?_
  exact ⟨rfl, (Below.refl _ _).alloc (Nat.le_refl _) _⟩
end Go.Proofs.Ytpcjfgikicpioaa
