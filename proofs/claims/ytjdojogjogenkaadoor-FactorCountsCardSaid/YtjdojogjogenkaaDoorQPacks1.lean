/- Contract: core.Packs$1, the ways of a list of symbols from a place on. -/
import Derived.Test.YtjdojogjogenkaaDoorQp1
import Derived.Test.YtjdojogjogenkaaDoorQw1
import Derived.Test.YtjdojogjogenkaaDoorQReach
import Derived.Test.YtjdojogjogenkaaDoorQMCheck
import Derived.Test.YtjdojogjogenkaaDoorQp2
import Derived.Deep.DeepCutAuto
namespace Go.Proofs.YtjdojogjogenkaaDoor
open Go.RowKit
set_option linter.unusedVariables false
def partW (w : List Int) (T : List (List Nat)) (s : Sym) (ss : List Sym) (f t m : Nat) : List (List NKey) :=
 (List.range m).flatMap fun m => if (hopM w T s f).testBit m = true ∧ m ≤ t then (waysL w T ss m t).map (fun l => ⟨s, f, m⟩ :: l) else []
theorem partW_succ (w : List Int) (T : List (List Nat)) (s : Sym) (ss : List Sym) (f t m : Nat) : partW w T s ss f t (m + 1) = partW w T s ss f t m ++ (if (hopM w T s f).testBit m = true ∧ m ≤ t then (waysL w T ss m t).map (fun l => ⟨s, f, m⟩ :: l) else []) := by
 unfold partW
 rw [List.range_succ, List.flatMap_append]
 simp
theorem partW_skip (w : List Int) (T : List (List Nat)) (s : Sym) (ss : List Sym) (f t a : Nat) : ∀ d, (∀ m, a ≤ m → m < a + d → ¬ ((hopM w T s f).testBit m = true ∧ m ≤ t)) → partW w T s ss f t (a + d) = partW w T s ss f t a
 | 0, _ => rfl
 | d + 1, h => by
  rw [← Nat.add_assoc, partW_succ, partW_skip w T s ss f t a d (fun m h1 h2 => h m h1 (by omega)), if_neg (h (a + d) (by omega) (by omega)), List.append_nil]
theorem ways_part (w : List Int) (T : List (List Nat)) (s : Sym) (ss : List Sym) (f t : Nat) : waysL w T (s :: ss) f t = partW w T s ss f t (t + 1) := by
 have key : ∀ m, m ≤ t + 1 → partW w T s ss f t m = (List.range m).flatMap fun m => if (hopM w T s f).testBit m = true then (waysL w T ss m t).map (fun l => ⟨s, f, m⟩ :: l) else [] := by
  intro m
  induction m with
  | zero => intro _; rfl
  | succ m ih =>
   intro hm
   rw [partW_succ, ih (by omega), List.range_succ, List.flatMap_append]
   congr 1
   by_cases hb : (hopM w T s f).testBit m = true
   ·rw [if_pos ⟨hb, by omega⟩]; simp [hb]
   ·rw [if_neg (fun h => hb h.1)]; simp [hb]
 rw [key (t + 1) (Nat.le_refl _)]
 rfl
theorem ways_no {w : List Int} {T : List (List Nat)} {ss : List Sym} {f t : Nat} (h : ¬ Way w T ss f t) : waysL w T ss f t = [] := by
 cases hl : waysL w T ss f t with
 | nil => rfl
 | cons a l => exact absurd (IsWay.way _ _ _ _ ((mem_ways _ _ _ a).1 (by rw [hl]; simp))) h
theorem low_min {x : Nat} (h0 : x ≠ 0) (h : x < 2 ^ 32) : ∀ j, x.testBit j = true → Lib.ctz 32 x ≤ j := by
 obtain ⟨m, hm, hk⟩ := Lib.ctzFrom_spec 32 x (by omega) h
 have e : Lib.ctz 32 x = Lib.ctzFrom 32 x := by simp [Lib.ctz, h0]
 rw [e]
 generalize Lib.ctzFrom 32 x = k at hm hk
 intro j hj
 rw [hm, testBit_low, Bool.and_eq_true] at hj
 simpa using hj.1
theorem part_len (w : List Int) (T : List (List Nat)) (s : Sym) (ss : List Sym) (f t m : Nat) (ht : t ≤ 12) : (partW w T s ss f t m).length ≤ 13 ^ (ss.length + 1) := by
 rcases Nat.le_total m (t + 1) with h | h
 ·unfold partW
  refine Nat.le_trans (flatB_len _ (13 ^ ss.length) _ (fun m _ => ?_)) ?_
  ·split
   ·rw [List.length_map]; exact ways_len w T ss _ t ht
   ·exact Nat.zero_le _
  ·rw [List.length_range, Nat.pow_succ, Nat.mul_comm (13 ^ ss.length)]
   exact Nat.mul_le_mul_right _ (by omega)
 ·obtain ⟨d, rfl⟩ : ∃ d, m = (t + 1) + d := ⟨m - (t + 1), by omega⟩
  rw [partW_skip w T s ss f t (t + 1) d (fun m h1 _ h2 => by omega), ← ways_part]
  exact ways_len w T (s :: ss) f t ht
structure PkS (KB OB IB WB EB VB bf : Nat) (k : NKey) (i : Nat) (ws : List Int) (B : Option Addr) (cw n : Nat) (T : List (List Nat)) (bs : List Nat) (Sw : Nat → Prop) (Y : Nat → Prop) (w : World) : Prop where
 kb : Blk' w KB 194 #[.bool k.sym.term, .int .i64 k.sym.n, .int .i64 k.fr, .int .i64 k.to]
 ib : Blk' w IB 3 #[.int .i64 (i : Int)]
 wb : Blk' w WB 33 #[.slice B ws.length cw]
 eb : Blk' w EB 158 #[.slice (some ⟨bf, 0, none⟩) n n]
 vb : Blk' w VB 231 #[.func (.func 152) #[] #[.pointer (some ⟨KB, 0, none⟩), .pointer (some ⟨OB, 0, none⟩), .pointer (some ⟨IB, 0, none⟩), .pointer (some ⟨WB, 0, none⟩), .pointer (some ⟨EB, 0, none⟩), .pointer (some ⟨VB, 0, none⟩)]]
 rows : RowsU w bf bs (ws.length + 1) n n T
 word : Els w Sw ws B
 tab : Tab32 w
 far : ∀ b, b = KB ∨ b = IB ∨ b = WB ∨ b = EB ∨ b = VB ∨ b ∈ bf :: bs ∨ Sw b ∨ b = 0 → ¬ Y b
theorem PkS.kept {KB OB IB WB EB VB bf : Nat} {k : NKey} {i : Nat} {ws : List Int} {B : Option Addr} {cw n : Nat} {T : List (List Nat)} {bs : List Nat} {Sw X Y : Nat → Prop} {w w' : World} (h : PkS KB OB IB WB EB VB bf k i ws B cw n T bs Sw Y w) (q : Kept X w w') (hx : ∀ b, X b → Y b) : PkS KB OB IB WB EB VB bf k i ws B cw n T bs Sw Y w' := by
 have key : ∀ b, ¬ Y b → ¬ X b := fun b hb hX => hb (hx b hX)
 refine ⟨h.kb.kept q (key _ (h.far _ (.inl rfl))), h.ib.kept q (key _ (h.far _ (.inr (.inl rfl)))), h.wb.kept q (key _ (h.far _ (.inr (.inr (.inl rfl))))), h.eb.kept q (key _ (h.far _ (.inr (.inr (.inr (.inl rfl)))))), h.vb.kept q (key _ (h.far _ (.inr (.inr (.inr (.inr (.inl rfl))))))), h.rows.kept q (fun b hb => key b (h.far b (.inr (.inr (.inr (.inr (.inr (.inl hb)))))))), h.word.kept q (fun b hb => key b (h.far b (.inr (.inr (.inr (.inr (.inr (.inr (.inl hb))))))))), ?_, h.far⟩
 have ht := key _ (h.far _ (.inr (.inr (.inr (.inr (.inr (.inr (.inr rfl))))))))
 exact ⟨Nat.lt_of_lt_of_le h.tab.1 q.size, fun j hj => (q.cell (p := ⟨0, j, none⟩) h.tab.1 ht).trans (h.tab.2 j hj)⟩
theorem PkS.below {KB OB IB WB EB VB bf : Nat} {k : NKey} {i : Nat} {ws : List Int} {B : Option Addr} {cw n : Nat} {T : List (List Nat)} {bs : List Nat} {Sw Y : Nat → Prop} {w w' : World} (h : PkS KB OB IB WB EB VB bf k i ws B cw n T bs Sw Y w) (q : Below w.heap.size w w') : PkS KB OB IB WB EB VB bf k i ws B cw n T bs Sw Y w' :=
 h.kept (Kept.of_below (fun _ => False) q) (fun _ h => h.elim)
def PkOut (i : Nat) (kids : List NKey) (L : List (List NKey)) : List KPack := L.map fun l => ⟨i, kids ++ l⟩
def RetPk (OB Bo : Nat) (v : Value) (res : List KPack) (w : World) (e : Ending) (w' : World) : Prop :=
 e = .returned (.tuple #[]) ∧ ∃ v', Blk' w' OB 200 #[v'] ∧ Own w' (fun _ => False) Bo 203 v' res ∧ Kept (fun b => b = OB ∨ v.ownBlock = some b) w w' ∧ (v'.ownBlock = v.ownBlock ∨ ∃ q, v'.ownBlock = some q ∧ w.heap.size ≤ q)
theorem drop1_els {α : Type} [Dat α] {w : World} {S : Nat → Prop} {s : α} {rest : List α} {b o c : Nat} (h : Els w S (s :: rest) (some ⟨b, o, none⟩)) (hc : rest.length + 1 ≤ c) {A1 : Option Addr} (hA : A1 = if c = 1 then some ⟨b, o, none⟩ else some ⟨b, o + Dat.size α, none⟩) : Els w S rest A1 := by
 subst hA
 split
 ·have : rest = [] := List.eq_nil_of_length_eq_zero (by omega)
  subst this
  exact Els.nilS
 ·have h2 := h.dropS 1
  rw [Nat.one_mul] at h2
  exact h2
set_option maxRecDepth 100000 in
set_option maxHeartbeats 8000000 in
theorem packs1_any (KB OB IB WB EB VB bf : Nat) (k : NKey) (i : Nat) (ws : List Int) (B : Option Addr) (cw n : Nat) (T : List (List Nat)) (bs : List Nat) (Sw : Nat → Prop) (Bo Z : Nat) (Y : Nat → Prop) (hob : OB < Bo) (hyo : Y OB) (hyz : ∀ b, Z ≤ b → Y b) (hm : ws.length ≤ 12) (hT : MskS ws.length n T) (hn : n ≤ 1000) (hk : k.to ≤ 12) (hi : i ≤ 1000) :
  ∀ (l : List Sym) (w : World) (A : Option Addr) (c : Nat) (Sl : Nat → Prop) (f : Nat) (kids : List NKey) (Ak : Option Addr) (ck : Nat) (Sk : Nat → Prop) (v : Value) (outs : List KPack),
   PkS KB OB IB WB EB VB bf k i ws B cw n T bs Sw Y w → Blk' w OB 200 #[v] → Own w (fun _ => False) Bo 203 v outs → (∀ b, v.ownBlock = some b → Y b) → l.length ≤ c → c ≤ 9223372036854775807 → Els w Sl l A → (∀ b, Sl b → ¬ Y b) → (∀ s ∈ l, 0 ≤ s.n ∧ (s.term = false → s.n < (n : Int))) → f ≤ ws.length →
   Els w Sk kids Ak → (∀ b, Sk b → b ≠ OB ∧ v.ownBlock ≠ some b ∧ b < w.heap.size) → kids.length ≤ ck → ck ≤ 9223372036854775807 → kids.length + l.length ≤ 4 → outs.length + 2 * 13 ^ l.length ≤ 100000000 → Bo ≤ w.heap.size ∧ Z ≤ w.heap.size →
   Calls Tryd.prog 152 #[.slice A l.length c, .int .i64 (f : Int), .slice Ak kids.length ck, .pointer (some ⟨KB, 0, none⟩), .pointer (some ⟨OB, 0, none⟩), .pointer (some ⟨IB, 0, none⟩), .pointer (some ⟨WB, 0, none⟩), .pointer (some ⟨EB, 0, none⟩), .pointer (some ⟨VB, 0, none⟩)] w (RetPk OB Bo v (outs ++ PkOut i kids (waysL ws T l f k.to)) w) := by
 intro l
 induction l with
 | nil =>
  intro w A c Sl f kids Ak ck Sk v outs hP hO hOw hvy hlc hc hA hSl hsy hf hAk hSk hkc hck h4 hlen hBo
  have HP := Lib.hid hP
  have HO := Lib.hid hO
  have HOw := Lib.hid hOw
  have HVY := Lib.hid hvy
  have HA := Lib.hid hA
  have HSl := Lib.hid hSl
  have HSy := Lib.hid hsy
  have HAk := Lib.hid hAk
  have HSk := Lib.hid hSk
  have HLn := Lib.hid (And.intro hlc (And.intro hc (And.intro hkc (And.intro hck (And.intro h4 (And.intro hlen hBo))))))
  clear hP hO hOw hvy hA hSl hsy hAk hSk hlc hc hkc hck h4 hlen
  have k3 : w.cell? ⟨KB, 3, none⟩ = some (.int .i64 (k.to : Int)) := HP.out.kb.cell 3
  have HLo : Hid (outs.length + 2 ≤ 100000000) := Lib.hid (by have h := HLn.out.2.2.2.2.2.1; simpa using h)
  have zK : KB < w.heap.size := HP.out.kb.lt
  by_cases hft : f = k.to
  ·have hq : ((f : Int) == (k.to : Int)) = true := by simp [hft]
   have HW : Hid (waysL ws T [] f k.to = [[]]) := Lib.hid (by unfold waysL; rw [if_pos hft])
   have o0 : w.cell? ⟨OB, 0, none⟩ = some v := HO.out.cell 0
   have i0 : w.cell? ⟨IB, 0, none⟩ = some (.int .i64 (i : Int)) := HP.out.ib.cell 0
   have zO : OB < w.heap.size := HO.out.lt
   have zI : IB < w.heap.size := HP.out.ib.lt
   clear hft
   go_enter Tryd.func152, Tryd.ntmps152
   go_upto_region 2 with (fail)
   clear k3 zK
   refine wp_region_noPanic ?_
   refine stage_start (S := (fun w' => w'.cell? ⟨OB, 0, none⟩ = some v ∧ w'.cell? ⟨IB, 0, none⟩ = some (.int .i64 (i : Int)))) 7 (by kernel_rfl) ?ha (fun hHeld => ?ba)
   case ha => ((try dsimp only); go_keep)
   refine sl 0 rfl (by intro w h; (try dsimp only at h); go_simp; try with_reducible rfl) ?_
   try simp only [Act.put, sA, sB, sC]
   refine sl 1 rfl (by intro w h; (try dsimp only at h); go_simp; try with_reducible rfl) ?_
   try simp only [Act.put, sA, sB, sC]
   refine sk 2 rfl (by intro w; go_simp; try with_reducible rfl) ?_
   try simp only [Act.put, sA, sB, sC]
   refine st_one (i := 3) rfl (by kernel_rfl) (by rfl) (fun Kq hK => ?_)
   go_simp
   go_at_call 153
   refine (cloneKey_any kids Ak ck kids.length Sk w.drew rfl (by have := HLn.out; omega) (HAk.out.below (Below.refl _ _).drew) (fun b hb => (HSk.out b hb).2.2)).mono ?_
   rintro e w3 ⟨A3, c3, rfl, h31, h32, hO3, hb3⟩
   replace hb3 : Below w.heap.size w w3 := bundrew hb3
   have HK3 := Lib.hid (And.intro h31 (And.intro h32 hO3.vl.els.2.2.2))
   have HB3 := Lib.hid hb3
   have o0b : w3.cell? ⟨OB, 0, none⟩ = some v := (hb3.cell (p := ⟨OB, 0, none⟩) zO).trans o0
   have i0b : w3.cell? ⟨IB, 0, none⟩ = some (.int .i64 (i : Int)) := (hb3.cell (p := ⟨IB, 0, none⟩) zI).trans i0
   have zOb : OB < w3.heap.size := Nat.lt_of_lt_of_le zO hb3.size
   have zIb : IB < w3.heap.size := Nat.lt_of_lt_of_le zI hb3.size
   clear hb3 hO3 h31 h32
   refine hK.out _ _ ?ha3 (fun hHeld => ?ra3)
   case ha3 => ((try dsimp only); go_keep)
   clear hK Kq
   try simp only [Act.put, sA, sB, sC]
   refine sk 4 rfl (by intro w; go_simp; try with_reducible rfl) ?_
   try simp only [Act.put, sA, sB, sC]
   refine st_one (i := 5) rfl (by kernel_rfl) (by rfl) (fun Kq hK => ?_)
   go_simp
   obtain ⟨G4, hG4⟩ : ∃ b, b = w3.heap.size := ⟨_, rfl⟩
   obtain ⟨w4, hw4⟩ : ∃ w4 : World, w4 = w3.alloc (.cells #[.int .i64 (i : Int), .slice A3 kids.length c3] 203) := ⟨_, rfl⟩
   rw [← hw4, ← hG4]
   have hb4 : Below w3.heap.size w3 w4 := by rw [hw4]; exact (Below.refl _ _).alloc (Nat.le_refl _) _
   have HAt4 : Hid (At w4 G4 0 [.int .i64 (i : Int), .slice A3 kids.length c3]) := Lib.hid (by rw [hw4, hG4]; exact At.new w3 [.int .i64 (i : Int), .slice A3 kids.length c3] 203)
   have HOw4 := Lib.hid ((HOw.out.below HB3.out (Nat.le_refl _)).below hb4 (Nat.le_refl _))
   have HB4 := Lib.hid (bthen HB3.out hb4 HB3.out.size)
   have HRd4 : Hid (Dat.rd w4 (OwnT (fun _ => False) Bo v w4) (⟨i, kids⟩ : KPack) [.int .i64 (i : Int), .slice A3 kids.length c3]) := Lib.hid (by
    have h1 := HK3.out.2.2.below hb4
    have hsz := HB3.out.size
    refine ⟨_, rfl, (show I64 (i : Int) from by unfold I64; omega), Vl.of_slice rfl HK3.out.1 HK3.out.2.1 (h1.keep (fun _ _ _ => rfl) (fun b hb => ⟨.inr ?_, fun h => ?_, Nat.lt_of_lt_of_le hb.2 hb4.size⟩))⟩
    ·have h2 : w.heap.size ≤ b := hb.1.resolve_left id
     have := HLn.out; omega
    ·have h3 := (HOw.out.block b h).2
     have h2 : w.heap.size ≤ b := hb.1.resolve_left id
     omega)
   have o0c : w4.cell? ⟨OB, 0, none⟩ = some v := (hb4.cell (p := ⟨OB, 0, none⟩) zOb).trans o0b
   have i0c : w4.cell? ⟨IB, 0, none⟩ = some (.int .i64 (i : Int)) := (hb4.cell (p := ⟨IB, 0, none⟩) zIb).trans i0b
   have zOc : OB < w4.heap.size := Nat.lt_of_lt_of_le zOb hb4.size
   have zIc : IB < w4.heap.size := Nat.lt_of_lt_of_le zIb hb4.size
   clear hw4 hG4 hb4
   refine hK.out _ _ ?ha5 (fun hHeld => ?ra5)
   case ha5 => ((try dsimp only); go_keep)
   clear hK Kq
   try simp only [Act.put, sA, sB, sC]
   refine st_one (i := 6) rfl (by kernel_rfl) (by rfl) (fun Kq hK => ?_)
   refine wp_own1 _ _ _ elemKPack rfl rfl HOw4.out (⟨i, kids⟩ : KPack) [.int .i64 (i : Int), .slice A3 kids.length c3] rfl HAt4.out HRd4.out (by have := HLo.out; omega) (by have := HLo.out; omega) (by have := HB4.out.size; omega) ?_
   intro v' w5 hO5 hg5 ha5
   have HOw5 : Hid (Own w5 (fun _ => False) Bo 203 v' (outs ++ PkOut i kids [[]])) := Lib.hid (by simpa [PkOut] using hO5)
   obtain ⟨A5, c5, hv5, _, _, _⟩ := HOw5.out.form
   obtain ⟨n5, hn5⟩ : ∃ q, q = (outs ++ PkOut i kids [[]]).length := ⟨_, rfl⟩
   rw [← hn5] at hv5
   subst hv5
   clear hn5
   have hnb : v.ownBlock ≠ some OB := fun h => by have := (HOw4.out.block OB h).1; omega
   have hni : v.ownBlock ≠ some IB := fun h => HP.out.far IB (.inr (.inl rfl)) (HVY.out _ h)
   have HOb5 := Lib.hid (((HO.out.below HB4.out HO.out.lt)).grown hg5 (fun h => hnb h.symm))
   have HK5 : Hid (Kept (fun b => b = OB ∨ v.ownBlock = some b) w w5) := Lib.hid ((Kept.of_below _ HB4.out).grown hg5 (fun q hq => .inl (.inr hq)))
   have HAt5 : Hid ((Value.slice A5 n5 c5).ownBlock = v.ownBlock ∨ ∃ q, (Value.slice A5 n5 c5).ownBlock = some q ∧ w.heap.size ≤ q) := Lib.hid (ha5.imp id (fun h => ⟨_, h, HB4.out.size⟩))
   have o0d : w5.cell? ⟨OB, 0, none⟩ = some v := HOb5.out.cell 0
   have i0d : w5.cell? ⟨IB, 0, none⟩ = some (.int .i64 (i : Int)) := ((HP.out.ib.below HB4.out HP.out.ib.lt).grown hg5 (fun h => hni h.symm)).cell 0
   have f0 := HOb5.out.frozen 0
   have zOd : OB < w5.heap.size := HOb5.out.lt
   clear hO5 hg5 ha5 hnb hni
   refine hK.out _ _ ?ha6 (fun hHeld => ?ra6)
   case ha6 => ((try dsimp only); go_keep)
   clear hK Kq
   try simp only [Act.put, sA, sB, sC]
   refine st_late (i := 7) rfl (by kernel_rfl) (by rfl) (by kernel_rfl) (fun Kq hK => ?_)
   go_simp
   refine hK.out _ _ ?_
   clear hK Kq
   try simp only [Act.put, sA, sB, sC]
   refine wpAnyD_done (by kernel_rfl) ?_ _
   refine NoPanic.normal ?_
   go_wp2_with fail
   generalize hwF : World.setCell _ _ _ = wF
   have hOF : Blk' wF OB 200 #[.slice A5 n5 c5] := by rw [← hwF]; exact HOb5.out.set_ 0 _
   have kF : Kept (fun b => b = OB) w5 wF := by rw [← hwF]; exact (Kept.refl (fun b => b = OB) w5).setCell (p := ⟨OB, 0, none⟩) (.inl rfl) _
   go_end0
   rw [HW.out]
   have hbo := hob
   exact ⟨rfl, _, hOF, HOw5.out.kept kF (fun b hb h => by have h1 : b = OB := hb; have h2 : Bo ≤ b := h.resolve_left id; omega), (HK5.out.trans (kF.mono (fun b _ h => .inl h))), HAt5.out⟩
  ·have hq : ((f : Int) == (k.to : Int)) = false := by simp; omega
   have HW : Hid (waysL ws T [] f k.to = []) := Lib.hid (by unfold waysL; rw [if_neg hft])
   clear hft
   go_enter Tryd.func152, Tryd.ntmps152
   go_wp2
   go_end0
   rw [HW.out]
   exact ⟨rfl, v, HO.out, by simpa [PkOut] using HOw.out, Kept.refl _ _, .inl rfl⟩
 | cons s rest ih =>
  have HIH := Lib.hid ih
  clear ih
  intro w A c Sl f kids Ak ck Sk v outs hP hO hOw hvy hlc hc hA hSl hsy hf hAk hSk hkc hck h4 hlen hBo
  have HP := Lib.hid hP
  have HO := Lib.hid hO
  have HOw := Lib.hid hOw
  have HVY := Lib.hid hvy
  have HA := Lib.hid hA
  have HSl := Lib.hid hSl
  have HSy := Lib.hid hsy
  have HAk := Lib.hid hAk
  have HSk := Lib.hid hSk
  have HLn := Lib.hid (And.intro hlc (And.intro hc (And.intro hkc (And.intro hck (And.intro h4 (And.intro hlen hBo))))))
  clear hP hO hOw hvy hA hSl hsy hAk hSk hlc hc hkc hck h4 hlen
  obtain ⟨ba, oa, eA, hSa, zba, hsi, a0, a1⟩ := HA.out.sym (k := 0) (x := s) rfl
  subst eA
  simp only [Nat.zero_mul, Nat.add_zero] at a0 a1
  have HSa := Lib.hid hSa
  have hcl : rest.length + 1 ≤ c := HLn.out.1
  obtain ⟨A1, hA1⟩ : ∃ A1, A1 = (if c = 1 then some ⟨ba, oa, none⟩ else some ⟨ba, oa + 2, none⟩ : Option Addr) := ⟨_, rfl⟩
  have HE1 := Lib.hid (drop1_els (c := c) HA.out hcl (A1 := A1) hA1)
  have hsl : ∀ W, (Instr.slice 58 (.slice (some ⟨ba, oa, none⟩) (rest.length + 1) c) (some (.int .i64 1)) none none).run Tryd.prog W = .ok (.slice A1 rest.length (c - 1)) W := fun W => by
   have h1 : (1 : Int) ≤ ((rest.length + 1 : Nat) : Int) := by omega
   rw [hA1]
   go_simp
   by_cases hc1 : c = 1
   ·simp [hc1]
    intro h; omega
   ·simp [hc1]
    intro h; omega
  have hc0 : (c = 0) = False := by simp; omega
  have hc1 : (1 : Int) ≤ (c : Int) := by omega
  have hl0 : ((rest.length : Int) + 1 == 0) = false := by simp; omega
  have HS64 := Lib.hid hsi
  have hss := HSy.out s (by simp)
  have HSs := Lib.hid hss
  have HN : Hid (rest.length ≤ 3 ∧ outs.length + 2 * 13 ^ (rest.length + 1) ≤ 100000000) := Lib.hid ⟨by have h := HLn.out.2.2.2.2.1; simp at h; omega, HLn.out.2.2.2.2.2.1⟩
  obtain ⟨st, sn⟩ := s
  dsimp only at a0 a1 hsi hss
  have w0 : w.cell? ⟨WB, 0, none⟩ = some (.slice B ws.length cw) := HP.out.wb.cell 0
  have e0 : w.cell? ⟨EB, 0, none⟩ = some (.slice (some ⟨bf, 0, none⟩) n n) := HP.out.eb.cell 0
  have k3 : w.cell? ⟨KB, 3, none⟩ = some (.int .i64 (k.to : Int)) := HP.out.kb.cell 3
  have zW : WB < w.heap.size := HP.out.wb.lt
  have zE : EB < w.heap.size := HP.out.eb.lt
  have zK : KB < w.heap.size := HP.out.kb.lt
  have hk0 : (0 : Int) ≤ (k.to : Int) := by omega
  simp only [List.length_cons]
  clear hA1 hSa hsi hss hcl
  go_enter Tryd.func152, Tryd.ntmps152
  go_upto_region 3 with (fail)
  refine wp_region_noPanic ?_
  refine wp_region_held_drew (S := (fun w' => w'.cell? ⟨WB, 0, none⟩ = some (.slice B ws.length cw) ∧ w'.cell? ⟨EB, 0, none⟩ = some (.slice (some ⟨bf, 0, none⟩) n n) ∧ w'.cell? ⟨KB, 3, none⟩ = some (.int .i64 (k.to : Int)))) (by kernel_rfl) ?hb (fun hHeld => ?bb)
  case hb => ((try dsimp only); go_keep)
  refine tk 0 rfl (by intro w h; (try dsimp only at h); go_simp; try with_reducible rfl) ?_
  try simp only [Act.put, sA, sB, sC]
  refine tk 1 rfl (by intro w h; (try dsimp only at h); go_simp; try with_reducible rfl) ?_
  try simp only [Act.put, sA, sB, sC]
  refine tk 2 rfl (by intro w h; (try dsimp only at h); go_simp; try with_reducible rfl) ?_
  try simp only [Act.put, sA, sB, sC]
  refine tk 3 rfl (by intro w h; (try dsimp only at h); go_simp; try with_reducible rfl) ?_
  try simp only [Act.put, sA, sB, sC]
  refine tk 5 rfl (by intro w h; (try dsimp only at h); go_simp; try with_reducible rfl) ?_
  try simp only [Act.put, sA, sB, sC]
  refine tk 6 rfl (by intro w h; (try dsimp only at h); go_simp; try with_reducible rfl) ?_
  try simp only [Act.put, sA, sB, sC]
  refine take_call (i := 4) rfl (by kernel_rfl) (by rfl) (fun Kq hK => ?_)
  go_simp
  go_at_call 136
  refine (reach_any ws T (⟨st, sn⟩ :: rest) n f bf bs (some ⟨ba, oa, none⟩) B c cw Sl Sw w.drew hm (HP.out.rows.below (Below.refl w.heap.size w).drew) hT hn (by have := HN.out.1; simp; omega) (HA.out.below (Below.refl w.heap.size w).drew) (HP.out.word.below (Below.refl w.heap.size w).drew) HSy.out hf (HP.out.tab.drew)).mono ?_
  rintro e w1 ⟨x, rfl, hx, hbit, hb1⟩
  replace hb1 : Below w.heap.size w w1 := bundrew hb1
  have HX := Lib.hid (And.intro hx hbit)
  have HB1 := Lib.hid hb1
  have w0b : w1.cell? ⟨WB, 0, none⟩ = some (.slice B ws.length cw) := (hb1.cell (p := ⟨WB, 0, none⟩) zW).trans w0
  have e0b : w1.cell? ⟨EB, 0, none⟩ = some (.slice (some ⟨bf, 0, none⟩) n n) := (hb1.cell (p := ⟨EB, 0, none⟩) zE).trans e0
  have k3b : w1.cell? ⟨KB, 3, none⟩ = some (.int .i64 (k.to : Int)) := (hb1.cell (p := ⟨KB, 3, none⟩) zK).trans k3
  have zEb : EB < w1.heap.size := Nat.lt_of_lt_of_le zE hb1.size
  have zKb : KB < w1.heap.size := Nat.lt_of_lt_of_le zK hb1.size
  have zWb : WB < w1.heap.size := Nat.lt_of_lt_of_le zW hb1.size
  clear hx hbit hb1
  refine hK.out _ _ ?hb4 (fun hHeld => ?rb4)
  case hb4 => ((try dsimp only); go_keep)
  clear hK Kq
  try simp only [Act.put, sA, sB, sC]
  refine tk 7 rfl (by intro w h; (try dsimp only at h); go_simp; try with_reducible rfl) ?_
  try simp only [Act.put, sA, sB, sC]
  refine tk 8 rfl (by intro w h; (try dsimp only at h); go_simp; try with_reducible rfl) ?_
  try simp only [Act.put, sA, sB, sC]
  refine tk 9 rfl (by intro w h; (try dsimp only at h); go_simp; try with_reducible rfl) ?_
  try simp only [Act.put, sA, sB, sC]
  refine wpAnyH_done (by kernel_rfl) ?_ _
  refine NoPanic.normal ?_
  have hxs : (x : Int) / 2 ^ k.to = ((x / 2 ^ k.to : Nat) : Int) := by push_cast; rfl
  have hxd : x / 2 ^ k.to ≤ x := Nat.div_le_self _ _
  have hpm : 2 ^ (ws.length + 1) ≤ 8192 := pow13 (by omega)
  have hx13 := HX.out.1
  have han : bits .and .u32 ((x : Int) / 2 ^ k.to) 1 = if x.testBit k.to = true then 1 else 0 := by
   rw [hxs, show (1 : Int) = ((1 : Nat) : Int) from rfl, u32_and_nat _ 1 (by omega) (by omega), shr_bit]
   split <;> rfl
  by_cases hway : x.testBit k.to = true
  rotate_left
  ·have hq : (bits .and .u32 ((x : Int) / 2 ^ k.to) 1 == 0) = true := by rw [han, if_neg hway]; rfl
   have HW : Hid (waysL ws T (⟨st, sn⟩ :: rest) f k.to = []) := Lib.hid (ways_no (fun h => hway ((HX.out.2 _).2 h)))
   have hq2 : bits .and .u32 ((x : Int) / 2 ^ k.to) 1 = 0 := by rw [han, if_neg hway]
   clear han hway hxs hxd hpm hx13 hsl
   go_wp2
   go_end0
   rw [HW.out]
   exact ⟨rfl, v, HO.out.below HB1.out HO.out.lt, by simpa [PkOut] using HOw.out.below HB1.out (Nat.le_refl _), Kept.of_below _ HB1.out, .inl rfl⟩
  have hq2 : bits .and .u32 ((x : Int) / 2 ^ k.to) 1 = 1 := by rw [han, if_pos hway]
  clear han hway hxs hxd hx13
  have HP1 := Lib.hid (HP.out.below HB1.out)
  have HA1 := Lib.hid (HA.out.below HB1.out)
  clear w0 e0 k3 zW zE zK
  have w0 : w1.cell? ⟨WB, 0, none⟩ = some (.slice B ws.length cw) := HP1.out.wb.cell 0
  have e0 : w1.cell? ⟨EB, 0, none⟩ = some (.slice (some ⟨bf, 0, none⟩) n n) := HP1.out.eb.cell 0
  have zW : WB < w1.heap.size := HP1.out.wb.lt
  have zE : EB < w1.heap.size := HP1.out.eb.lt
  go_upto_region 4 with (fail)
  clear hq2 hl0
  refine wp_region_noPanic ?_
  refine wp_region_held_drew (S := (fun w' => w'.cell? ⟨WB, 0, none⟩ = some (.slice B ws.length cw) ∧ w'.cell? ⟨EB, 0, none⟩ = some (.slice (some ⟨bf, 0, none⟩) n n))) (by kernel_rfl) ?hc (fun hHeld => ?bc)
  case hc => ((try dsimp only); go_keep)
  refine tk 0 rfl (by intro w h; (try dsimp only at h); go_simp; try with_reducible rfl) ?_
  try simp only [Act.put, sA, sB, sC]
  refine tk 1 rfl (by intro w h; (try dsimp only at h); go_simp; try with_reducible rfl) ?_
  try simp only [Act.put, sA, sB, sC]
  refine tk 2 rfl (by intro w h; (try dsimp only at h); go_simp; try with_reducible rfl) ?_
  try simp only [Act.put, sA, sB, sC]
  refine tk 3 rfl (by intro w h; (try dsimp only at h); go_simp; try with_reducible rfl) ?_
  try simp only [Act.put, sA, sB, sC]
  refine tk 4 rfl (by intro w h; (try dsimp only at h); go_simp; try with_reducible rfl) ?_
  try simp only [Act.put, sA, sB, sC]
  refine take_call (i := 5) rfl (by kernel_rfl) (by rfl) (fun Kq hK => ?_)
  go_simp
  go_at_call 136
  refine (reach_any ws T [⟨st, sn⟩] n f bf bs (some ⟨ba, oa, none⟩) B c cw Sl Sw w1.drew hm (HP1.out.rows.below (Below.refl w1.heap.size w1).drew) hT hn (by simp) ((HA1.out.takeS 1).below (Below.refl w1.heap.size w1).drew) (HP1.out.word.below (Below.refl w1.heap.size w1).drew) (fun s hs => by rw [List.mem_singleton] at hs; subst hs; exact HSs.out) hf (HP1.out.tab.drew)).mono ?_
  rintro e w2 ⟨y, rfl, hy, hbit, hb2⟩
  replace hb2 : Below w1.heap.size w1 w2 := bundrew hb2
  have HY := Lib.hid (And.intro hy hbit)
  have HB2 : Hid (Below w.heap.size w w2) := Lib.hid (bthen HB1.out hb2 HB1.out.size)
  have w0c : w2.cell? ⟨WB, 0, none⟩ = some (.slice B ws.length cw) := (hb2.cell (p := ⟨WB, 0, none⟩) zW).trans w0
  have e0c : w2.cell? ⟨EB, 0, none⟩ = some (.slice (some ⟨bf, 0, none⟩) n n) := (hb2.cell (p := ⟨EB, 0, none⟩) zE).trans e0
  have zEc : EB < w2.heap.size := Nat.lt_of_lt_of_le zE hb2.size
  have zWc : WB < w2.heap.size := Nat.lt_of_lt_of_le zW hb2.size
  clear hy hbit hb2
  refine hK.out _ _ ?hc5 (fun hHeld => ?rc5)
  case hc5 => ((try dsimp only); go_keep)
  clear hK Kq
  try simp only [Act.put, sA, sB, sC]
  refine tk 6 rfl (by intro w h; (try dsimp only at h); go_simp; try with_reducible rfl) ?_
  try simp only [Act.put, sA, sB, sC]
  refine wpAnyH_done (by kernel_rfl) ?_ _
  refine NoPanic.normal ?_
  have HBit : Hid (∀ j, y.testBit j = true ↔ (hopM ws T ⟨st, sn⟩ f).testBit j = true) := Lib.hid (fun j => by
   rw [HY.out.2 j]
   constructor
   ·rintro ⟨j', h1, h2⟩
    have h2 : j' = j := h2
    subst h2
    exact h1
   ·intro h
    exact ⟨j, h, rfl⟩)
  clear w0 e0 zW zE a0 a1 zba hc0 hc1
  have HPM := Lib.hid hpm
  clear hpm
  go_wp2_with fail
  go_loopw [12] (fun xv wr => ∃ (z m0 : Nat) (v1 : Value), xv = .int .u32 (z : Int) ∧ z < 2 ^ (ws.length + 1) ∧ (∀ j, z.testBit j = true ↔ ((hopM ws T ⟨st, sn⟩ f).testBit j = true ∧ m0 ≤ j)) ∧ Blk' wr OB 200 #[v1] ∧ Own wr (fun _ => False) Bo 203 v1 (outs ++ PkOut i kids (partW ws T ⟨st, sn⟩ rest f k.to m0)) ∧ Kept (fun b => b = OB ∨ v.ownBlock = some b) w wr ∧ (v1.ownBlock = v.ownBlock ∨ ∃ q, v1.ownBlock = some q ∧ w.heap.size ≤ q)) (fun xv _ => (intOf xv).toNat)
  case atStart => exact ⟨y, 0, v, rfl, HY.out.1, fun j => by rw [HBit.out j]; simp, HO.out.below HB2.out HO.out.lt, by simpa [PkOut, partW] using HOw.out.below HB2.out (Nat.le_refl _), Kept.of_below _ HB2.out, .inl rfl⟩
  case round =>
   obtain ⟨wq, hwq⟩ : ∃ wq : World, wq = wr := ⟨_, rfl⟩
   subst hwq
   obtain ⟨z, m0, v1, rfl, hz, hzb, hO1, hOw1, hK1, hat1⟩ := hrel
   have HZ := Lib.hid (And.intro hz hzb)
   have HO1 := Lib.hid hO1
   have HOw1 := Lib.hid hOw1
   have HK1 := Lib.hid hK1
   have HAt1 := Lib.hid hat1
   have hXB : ∀ b, (b = OB ∨ v.ownBlock = some b) → Y b := fun b hb => hb.elim (fun h => by rw [h]; exact hyo) (HVY.out b)
   have HVY1 : Hid (∀ b, v1.ownBlock = some b → Y b) := Lib.hid (fun b hb => by
    rcases hat1 with h | ⟨q, h, h2⟩
    ·exact HVY.out b (by rw [← h]; exact hb)
    ·rw [h] at hb; injection hb with hb; subst hb; exact hyz _ (by have := HLn.out; omega))
   have HPq := Lib.hid (HP.out.kept hK1 hXB)
   have HEq := Lib.hid (HE1.out.kept hK1 (fun b hb hX => HSl.out b hb (hXB b hX)))
   have HAq := Lib.hid (HA.out.kept hK1 (fun b hb hX => HSl.out b hb (hXB b hX)))
   have HAkq := Lib.hid (HAk.out.kept hK1 (fun b hb hX => by have h1 := HSk.out b hb; rcases hX with h | h; exact h1.1 h; exact h1.2.1 h))
   have hsq : w.heap.size ≤ wq.heap.size := hK1.size
   have hz13 : z < 8192 := by have := HPM.out; omega
   clear hz hzb hO1 hOw1 hK1 hat1 hXB
   by_cases hz0 : z = 0
   ·have HW : Hid (waysL ws T (⟨st, sn⟩ :: rest) f k.to = partW ws T ⟨st, sn⟩ rest f k.to m0) := Lib.hid (by
     have hno : ∀ j, m0 ≤ j → ¬ (hopM ws T ⟨st, sn⟩ f).testBit j = true := fun j h1 h2 => by
      have h3 := (HZ.out.2 j).2 ⟨h2, h1⟩
      rw [hz0] at h3
      simp at h3
     rw [ways_part]
     rcases Nat.le_total m0 (k.to + 1) with h | h
     ·obtain ⟨d, hd⟩ : ∃ d, k.to + 1 = m0 + d := ⟨k.to + 1 - m0, by omega⟩
      rw [hd]
      exact partW_skip _ _ _ _ _ _ _ _ (fun j h1 _ h2 => hno j h1 h2.1)
     ·obtain ⟨d, hd⟩ : ∃ d, m0 = (k.to + 1) + d := ⟨m0 - (k.to + 1), by omega⟩
      rw [hd]
      exact (partW_skip _ _ _ _ _ _ _ _ (fun j h1 _ h2 => by omega)).symm)
    subst hz0
    clear hsl
    go_wp2
    go_end0
    rw [HW.out]
    exact ⟨rfl, v1, HO1.out, HOw1.out, HK1.out, HAt1.out⟩
   ·obtain ⟨p, hp⟩ : ∃ p, p = Lib.ctz 32 z := ⟨_, rfl⟩
    obtain ⟨q1, q2, q3⟩ := low_bit hz0 (show z < 2 ^ 32 by omega)
    have q4 := low_min hz0 (show z < 2 ^ 32 by omega)
    rw [← hp] at q1 q2 q4
    have hpm : p ≤ ws.length := bit_le HZ.out.1 q1
    have hph := ((HZ.out.2 p).1 q1)
    obtain ⟨u, hu⟩ : ∃ u, u = z &&& (z - 1) := ⟨_, rfl⟩
    rw [← hu] at q2 q3
    have hz0i : ¬ (z : Int) = 0 := by omega
    have hsub : ((z : Int) - 1) % 4294967296 = ((z - 1 : Nat) : Int) := by omega
    have hand : bits .and .u32 (z : Int) ((z : Int) - 1) = (u : Int) := by rw [show (z : Int) - 1 = ((z - 1 : Nat) : Int) by omega, u32_and_nat z (z - 1) (by omega) (by omega), hu]
    have HU : Hid (u < 2 ^ (ws.length + 1) ∧ (∀ j, u.testBit j = true ↔ ((hopM ws T ⟨st, sn⟩ f).testBit j = true ∧ p + 1 ≤ j)) ∧ u < z) := Lib.hid ⟨Nat.lt_trans q3 HZ.out.1, fun j => by
     rw [q2, Bool.and_eq_true, HZ.out.2 j]
     constructor
     ·rintro ⟨⟨h1, h2⟩, h3⟩
      have h4 := q4 j ((HZ.out.2 j).2 ⟨h1, h2⟩)
      have h5 : j ≠ p := by simpa using h3
      exact ⟨h1, by omega⟩
     ·rintro ⟨h1, h2⟩
      exact ⟨⟨h1, by omega⟩, by simp; omega⟩, q3⟩
    have HNo : Hid (∀ j, m0 ≤ j → j < p → ¬ (hopM ws T ⟨st, sn⟩ f).testBit j = true) := Lib.hid (fun j h1 h2 h3 => by
     have := q4 j ((HZ.out.2 j).2 ⟨h3, h1⟩); omega)
    have HPh := Lib.hid hph
    have HPz := Lib.hid (And.intro hp hpm)
    have hp12 : p ≤ 12 := by omega
    clear q1 q2 q3 q4 hu hp hpm hph
    go_wp2_with fail
    refine (tz_any z (by omega) hz0 wq HPq.out.tab).mono ?_
    rintro e w' ⟨rfl, rfl⟩
    rw [← HPz.out.1]
    clear hz0
    have k3 : wq.cell? ⟨KB, 3, none⟩ = some (.int .i64 (k.to : Int)) := HPq.out.kb.cell 3
    have zK : KB < wq.heap.size := HPq.out.kb.lt
    obtain ⟨d, hd⟩ : ∃ d, p = m0 + d := ⟨p - m0, by have := HPh.out.2; omega⟩
    have HD := Lib.hid hd
    clear hd
    by_cases hpt : p ≤ k.to
    rotate_left
    ·have hptI : ¬ (p : Int) ≤ (k.to : Int) := by omega
     have dpt : decide (p ≤ k.to) = false := decide_eq_false hpt
     have HWn : Hid (partW ws T ⟨st, sn⟩ rest f k.to (p + 1) = partW ws T ⟨st, sn⟩ rest f k.to m0) := Lib.hid (by
      rw [partW_succ, if_neg (fun h => hpt h.2), List.append_nil, HD.out]
      exact partW_skip _ _ _ _ _ _ _ _ (fun j h1 h2 h3 => HNo.out j h1 (by have := HD.out; omega) h3.1))
     clear hpt hsl
     go_wp2
     go_roundw
     case rel => exact ⟨u, p + 1, v1, rfl, HU.out.1, HU.out.2.1, HO1.out, by rw [HWn.out]; exact HOw1.out, HK1.out, HAt1.out⟩
     case measure => have := HU.out.2.2; simp [intOf]; omega
    ·have hptI : (p : Int) ≤ (k.to : Int) := by omega
     have dpt : decide (p ≤ k.to) = true := decide_eq_true hpt
     have HWn : Hid (outs ++ PkOut i kids (partW ws T ⟨st, sn⟩ rest f k.to (p + 1)) = (outs ++ PkOut i kids (partW ws T ⟨st, sn⟩ rest f k.to m0)) ++ PkOut i (kids ++ [⟨⟨st, sn⟩, f, p⟩]) (waysL ws T rest p k.to)) := Lib.hid (by
      rw [partW_succ, if_pos ⟨HPh.out.1, hpt⟩]
      rw [show partW ws T ⟨st, sn⟩ rest f k.to p = partW ws T ⟨st, sn⟩ rest f k.to m0 from by rw [HD.out]; exact partW_skip _ _ _ _ _ _ _ _ (fun j h1 h2 h3 => HNo.out j h1 (by have := HD.out; omega) h3.1)]
      unfold PkOut
      rw [List.map_append, List.map_map, List.append_assoc]
      congr 2
      apply List.map_congr_left
      intro l _
      simp)
     have HLq : Hid ((outs ++ PkOut i kids (partW ws T ⟨st, sn⟩ rest f k.to m0)).length + 2 * 13 ^ rest.length ≤ 100000000 ∧ kids.length + 1 + rest.length ≤ 4) := Lib.hid (by
      have h1 := part_len ws T ⟨st, sn⟩ rest f k.to m0 hk
      have h3 := HLn.out
      simp only [List.length_append, PkOut, List.length_map, List.length_cons] at h3 ⊢
      refine ⟨?_, by omega⟩
      have h4 := (by rw [Nat.pow_succ] : 13 ^ (rest.length + 1) = 13 ^ rest.length * 13)
      omega)
     clear hpt
     go_upto_region 9 with (fail)
     obtain ⟨ba', oa', eA', _, zba, _, a0, a1⟩ := HAq.out.sym (k := 0) (x := ⟨st, sn⟩) rfl
     injection eA' with eA'
     injection eA' with e1 e2 _
     subst e1
     subst e2
     simp only [Nat.zero_mul, Nat.add_zero] at a0 a1
     (try dsimp only at a0 a1)
     have v0 : wq.cell? ⟨VB, 0, none⟩ = some (.func (.func 152) #[] #[.pointer (some ⟨KB, 0, none⟩), .pointer (some ⟨OB, 0, none⟩), .pointer (some ⟨IB, 0, none⟩), .pointer (some ⟨WB, 0, none⟩), .pointer (some ⟨EB, 0, none⟩), .pointer (some ⟨VB, 0, none⟩)]) := HPq.out.vb.cell 0
     have zV : VB < wq.heap.size := HPq.out.vb.lt
     have hr1 : (0 : Int) < (rest.length : Int) + 1 := by omega
     clear k3 zK
     have HKo : Hid (KeyOk (⟨⟨st, sn⟩, f, p⟩ : NKey)) := Lib.hid ⟨HS64.out, by show f ≤ _; omega, by show p ≤ _; omega⟩
     refine wp_region_noPanic ?_
     refine wp_region_held_drew (S := (fun w' => w'.cell? ⟨VB, 0, none⟩ = some (.func (.func 152) #[] #[.pointer (some ⟨KB, 0, none⟩), .pointer (some ⟨OB, 0, none⟩), .pointer (some ⟨IB, 0, none⟩), .pointer (some ⟨WB, 0, none⟩), .pointer (some ⟨EB, 0, none⟩), .pointer (some ⟨VB, 0, none⟩)]) ∧ w'.cell? ⟨ba, oa, none⟩ = some (.bool st) ∧ w'.cell? ⟨ba, oa + 1, none⟩ = some (.int .i64 sn))) (by kernel_rfl) ?hd (fun hHeld => ?bd)
     case hd => ((try dsimp only); go_keep)
     refine tk 0 rfl (by intro w h; (try dsimp only at h); go_simp; try with_reducible rfl) ?_
     try simp only [Act.put, sA, sB, sC]
     refine tk 1 rfl (by intro w h; (try dsimp only at h); go_simp; try with_reducible rfl) ?_
     try simp only [Act.put, sA, sB, sC]
     refine tk 2 rfl (by intro w h; (try dsimp only at h); go_simp; try with_reducible rfl) ?_
     try simp only [Act.put, sA, sB, sC]
     refine tk 3 rfl (by intro w h; (try dsimp only at h); go_simp; try with_reducible rfl) ?_
     try simp only [Act.put, sA, sB, sC]
     refine tk 4 rfl (by intro w h; (try dsimp only at h); go_simp; try with_reducible rfl) ?_
     try simp only [Act.put, sA, sB, sC]
     refine tk 6 rfl (by intro w h; (try dsimp only at h); go_simp; try with_reducible rfl) ?_
     try simp only [Act.put, sA, sB, sC]
     refine tk 7 rfl (by intro w h; (try dsimp only at h); go_simp; try with_reducible rfl) ?_
     try simp only [Act.put, sA, sB, sC]
     refine tk 8 rfl (by intro w h; (try dsimp only at h); go_simp; try with_reducible rfl) ?_
     try simp only [Act.put, sA, sB, sC]
     refine tk 9 rfl (by intro w h; (try dsimp only at h); go_simp; try with_reducible rfl) ?_
     try simp only [Act.put, sA, sB, sC]
     refine tk 10 rfl (by intro w h; (try dsimp only at h); go_simp; try with_reducible rfl) ?_
     try simp only [Act.put, sA, sB, sC]
     refine tk 11 rfl (by intro w h; (try dsimp only at h); go_simp; try with_reducible rfl) ?_
     try simp only [Act.put, sA, sB, sC]
     refine take_two (i := 5) (j := 12) rfl rfl (by kernel_rfl) (by rfl) (by rfl) (fun Kq hK => ?oned5) (fun Kq hK => ?twod5)
     case oned5 =>
      go_simp
      go_at_call 153
      refine (cloneKey_any kids Ak ck kids.length Sk wq.drew rfl (by have := HLn.out; omega) (HAkq.out.below (Below.refl wq.heap.size wq).drew) (fun b hb => by have h1 := (HSk.out b hb).2.2; exact Nat.lt_of_lt_of_le h1 hsq)).mono ?_
      rintro e wa1 ⟨A3, c3, rfl, h31, h32, hO3, hb3⟩
      replace hb3 : Below wq.heap.size wq wa1 := bundrew hb3
      have HO3 : Hid (Own wa1 (fun _ => False) wq.heap.size 194 (.slice A3 kids.length c3) kids) := Lib.hid (hO3.base (Nat.le_refl _))
      have HBz_wa1 : Hid (Below wq.heap.size wq wa1) := Lib.hid (hb3)
      have v0x : wa1.cell? ⟨VB, 0, none⟩ = some (.func (.func 152) #[] #[.pointer (some ⟨KB, 0, none⟩), .pointer (some ⟨OB, 0, none⟩), .pointer (some ⟨IB, 0, none⟩), .pointer (some ⟨WB, 0, none⟩), .pointer (some ⟨EB, 0, none⟩), .pointer (some ⟨VB, 0, none⟩)]) := (hb3.cell (p := ⟨VB, 0, none⟩) zV).trans v0
      have a0x : wa1.cell? ⟨ba, oa, none⟩ = some (.bool st) := (hb3.cell (p := ⟨ba, oa, none⟩) zba).trans a0
      have a1x : wa1.cell? ⟨ba, oa + 1, none⟩ = some (.int .i64 sn) := (hb3.cell (p := ⟨ba, oa + 1, none⟩) zba).trans a1
      have zVx : VB < wa1.heap.size := Nat.lt_of_lt_of_le zV hb3.size
      have zbax : ba < wa1.heap.size := Nat.lt_of_lt_of_le zba hb3.size
      clear hb3 hO3 h31 h32
      refine hK.out _ _ ?hda5 (fun hHeld => ?rda5)
      case hda5 => ((try dsimp only); go_keep)
      clear hK Kq
      try simp only [Act.put, sA, sB, sC]
      refine take_call (i := 12) rfl (by kernel_rfl) (by rfl) (fun Kq hK => ?_)
      go_simp
      obtain ⟨G4, hG4⟩ : ∃ b, b = wa1.heap.size := ⟨_, rfl⟩
      obtain ⟨wa2, hwn⟩ : ∃ w4 : World, w4 = (wa1.alloc (.cells #[.bool st, .int .i64 sn, .int .i64 (f : Int), .int .i64 (p : Int)] 194)) := ⟨_, rfl⟩
      rw [← hwn, ← hG4]
      have hb4 : Below wa1.heap.size wa1 wa2 := by rw [hwn]; exact ((Below.refl _ _).alloc (Nat.le_refl _) _)
      have HAt4 : Hid (At wa2 G4 0 [.bool st, .int .i64 sn, .int .i64 (f : Int), .int .i64 (p : Int)] ∧ wq.heap.size ≤ G4) := Lib.hid ⟨by rw [hwn, hG4]; exact At.new wa1 [.bool st, .int .i64 sn, .int .i64 (f : Int), .int .i64 (p : Int)] 194, by rw [hG4]; exact HBz_wa1.out.size⟩
      have HBz_wa2 : Hid (Below wq.heap.size wq wa2) := Lib.hid (bthen HBz_wa1.out hb4 HBz_wa1.out.size)
      have HO3 := Lib.hid (HO3.out.below hb4 (Nat.le_refl _))
      have v0y : wa2.cell? ⟨VB, 0, none⟩ = some (.func (.func 152) #[] #[.pointer (some ⟨KB, 0, none⟩), .pointer (some ⟨OB, 0, none⟩), .pointer (some ⟨IB, 0, none⟩), .pointer (some ⟨WB, 0, none⟩), .pointer (some ⟨EB, 0, none⟩), .pointer (some ⟨VB, 0, none⟩)]) := (hb4.cell (p := ⟨VB, 0, none⟩) zVx).trans v0x
      have a0y : wa2.cell? ⟨ba, oa, none⟩ = some (.bool st) := (hb4.cell (p := ⟨ba, oa, none⟩) zbax).trans a0x
      have a1y : wa2.cell? ⟨ba, oa + 1, none⟩ = some (.int .i64 sn) := (hb4.cell (p := ⟨ba, oa + 1, none⟩) zbax).trans a1x
      have zVy : VB < wa2.heap.size := Nat.lt_of_lt_of_le zVx hb4.size
      have zbay : ba < wa2.heap.size := Nat.lt_of_lt_of_le zbax hb4.size
      clear hwn hG4 hb4
      refine hK.out _ _ ?hda12 (fun hHeld => ?rda12)
      case hda12 => ((try dsimp only); go_keep)
      clear hK Kq
      try simp only [Act.put, sA, sB, sC]
      refine take_call (i := 13) rfl (by kernel_rfl) (by rfl) (fun Kq hK => ?_)
      refine wp_own1 _ _ _ elemNKey rfl rfl HO3.out (⟨⟨st, sn⟩, f, p⟩ : NKey) [.bool st, .int .i64 sn, .int .i64 (f : Int), .int .i64 (p : Int)] rfl HAt4.out.1 ⟨rfl, HKo.out⟩ (by have := HLq.out; omega) (by have := HLq.out; omega) HBz_wa2.out.size ?_
      intro v5 wa3 hO5 hg5 ha5
      obtain ⟨A5, c5, hv5, h51, h52, _⟩ := hO5.form
      rw [snoc_len] at hv5
      subst hv5
      have HO5 := Lib.hid hO5
      have HN5 : Hid (kids.length + 1 ≤ c5 ∧ c5 ≤ 9223372036854775807) := Lib.hid ⟨by rw [snoc_len] at h51; exact h51, h52⟩
      have hb5 : Below wq.heap.size wq wa3 := bgrown HBz_wa2.out hg5 HO3.out (Nat.le_refl _) HBz_wa2.out.size
      have HB5 := Lib.hid hb5
      have v0z : wa3.cell? ⟨VB, 0, none⟩ = some (.func (.func 152) #[] #[.pointer (some ⟨KB, 0, none⟩), .pointer (some ⟨OB, 0, none⟩), .pointer (some ⟨IB, 0, none⟩), .pointer (some ⟨WB, 0, none⟩), .pointer (some ⟨EB, 0, none⟩), .pointer (some ⟨VB, 0, none⟩)]) := (hb5.cell (p := ⟨VB, 0, none⟩) zV).trans v0
      have a0z : wa3.cell? ⟨ba, oa, none⟩ = some (.bool st) := (hb5.cell (p := ⟨ba, oa, none⟩) zba).trans a0
      have a1z : wa3.cell? ⟨ba, oa + 1, none⟩ = some (.int .i64 sn) := (hb5.cell (p := ⟨ba, oa + 1, none⟩) zba).trans a1
      have zVz : VB < wa3.heap.size := Nat.lt_of_lt_of_le zV hb5.size
      have zbaz : ba < wa3.heap.size := Nat.lt_of_lt_of_le zba hb5.size
      clear hO5 hg5 ha5 h51 h52 hb5
      refine hK.out _ _ ?hda13 (fun hHeld => ?rda13)
      case hda13 => ((try dsimp only); go_keep)
      clear hK Kq
      try simp only [Act.put, sA, sB, sC]
      refine take_call (i := 14) rfl (by kernel_rfl) (by rfl) (fun Kq hK => ?_)
      go_simp
      go_at_call 152
      have hbl := HB5.out
      have hels := HO5.out.vl.els.2.2.2
      have hBoq : Bo ≤ wq.heap.size ∧ Z ≤ wq.heap.size := by have := HLn.out; omega
      have hobo := hob
      have hcall := HIH.out wa3 A1 (c - 1) Sl p (kids ++ [(⟨⟨st, sn⟩, f, p⟩ : NKey)]) A5 c5 (fun b => wq.heap.size ≤ b ∧ b < wa3.heap.size) v1 (outs ++ PkOut i kids (partW ws T ⟨st, sn⟩ rest f k.to m0)) (HPq.out.kept (Kept.of_below (fun _ => False) (hbl)) (fun _ h => h.elim)) (HO1.out.below hbl HO1.out.lt) (HOw1.out.below hbl (Nat.le_refl _)) HVY1.out (by have := HLn.out.1; simp at this; omega) (by have := HLn.out.2.1; omega) (HEq.out.below hbl) HSl.out (fun s hs => HSy.out s (by simp [hs])) HPz.out.2 (hels.keep (fun _ _ _ => rfl) (fun b hb => ⟨hb.1.resolve_left id, hb.2⟩)) (fun b hb => ⟨by omega, fun h => by have := (HOw1.out.block b h).2; omega, hb.2⟩) (by rw [snoc_len]; exact HN5.out.1) HN5.out.2 (by rw [snoc_len]; exact HLq.out.2) HLq.out.1 (by have := hbl.size; omega)
      rw [snoc_len] at hcall
      refine hcall.mono ?_
      rintro e w6 ⟨rfl, v6, hO6, hOw6, hK6, hat6⟩
      rw [← HWn.out] at hOw6
      have HO6 := Lib.hid hO6
      have HOw6 := Lib.hid hOw6
      have HAt6 : Hid (v6.ownBlock = v.ownBlock ∨ ∃ q, v6.ownBlock = some q ∧ w.heap.size ≤ q) := Lib.hid (by
       rcases hat6 with h | ⟨q, h, h2⟩
       ·rw [h]; exact HAt1.out
       ·exact .inr ⟨q, h, by have := hbl.size; omega⟩)
      have HK6 : Hid (Kept (fun b => b = OB ∨ v.ownBlock = some b) w w6) := Lib.hid ((HK1.out.below hbl).later hK6 (fun b hb => by
       rcases hb with h | h
       ·exact .inl (.inl h)
       ·rcases HAt1.out with h2 | ⟨q, h2, h3⟩
        ·exact .inl (.inr (by rw [← h2]; exact h))
        ·rw [h2] at h; injection h with h; exact .inr (by omega)))
      have hnX : ∀ b, ¬ Y b → ¬ (b = OB ∨ v1.ownBlock = some b) := fun b h1 h2 => h1 (h2.elim (fun h => by rw [h]; exact hyo) (HVY1.out b))
      have v0k : w6.cell? ⟨VB, 0, none⟩ = some (.func (.func 152) #[] #[.pointer (some ⟨KB, 0, none⟩), .pointer (some ⟨OB, 0, none⟩), .pointer (some ⟨IB, 0, none⟩), .pointer (some ⟨WB, 0, none⟩), .pointer (some ⟨EB, 0, none⟩), .pointer (some ⟨VB, 0, none⟩)]) := (hK6.cell (p := ⟨VB, 0, none⟩) zVz (hnX _ (HP.out.far VB (.inr (.inr (.inr (.inr (.inl rfl)))))))).trans v0z
      have a0k : w6.cell? ⟨ba, oa, none⟩ = some (.bool st) := (hK6.cell (p := ⟨ba, oa, none⟩) zbaz (hnX _ (HSl.out ba HSa.out))).trans a0z
      have a1k : w6.cell? ⟨ba, oa + 1, none⟩ = some (.int .i64 sn) := (hK6.cell (p := ⟨ba, oa + 1, none⟩) zbaz (hnX _ (HSl.out ba HSa.out))).trans a1z
      have zVk : VB < w6.heap.size := Nat.lt_of_lt_of_le zVz hK6.size
      have zbak : ba < w6.heap.size := Nat.lt_of_lt_of_le zbaz hK6.size
      clear hnX hbl hels hBoq hobo hcall hO6 hOw6 hK6 hat6
      refine hK.out _ _ ?hda14 (fun hHeld => ?rda14)
      case hda14 => ((try dsimp only); go_keep)
      clear hK Kq
      try simp only [Act.put, sA, sB, sC]
      refine wpAnyH_done (by kernel_rfl) ?_ _
      refine NoPanic.normal ?_
      clear hsl v0 a0 a1 zV zba
      go_wp2_with fail
      go_roundw
      case rel => exact ⟨u, p + 1, v6, rfl, HU.out.1, HU.out.2.1, HO6.out, HOw6.out, HK6.out, HAt6.out⟩
      case measure => have := HU.out.2.2; simp [intOf]; omega
     case twod5 =>
      go_simp
      obtain ⟨G4, hG4⟩ : ∃ b, b = wq.heap.size := ⟨_, rfl⟩
      obtain ⟨wb1, hwn⟩ : ∃ w4 : World, w4 = (wq.alloc (.cells #[.bool st, .int .i64 sn, .int .i64 (f : Int), .int .i64 (p : Int)] 194)).drew := ⟨_, rfl⟩
      rw [← hwn, ← hG4]
      have hb4 : Below wq.heap.size wq wb1 := by rw [hwn]; exact ((Below.refl _ _).alloc (Nat.le_refl _) _).drew
      have HAt4 : Hid (At wb1 G4 0 [.bool st, .int .i64 sn, .int .i64 (f : Int), .int .i64 (p : Int)] ∧ wq.heap.size ≤ G4) := Lib.hid ⟨by rw [hwn, hG4]; exact At.new wq [.bool st, .int .i64 sn, .int .i64 (f : Int), .int .i64 (p : Int)] 194, by rw [hG4]; exact Nat.le_refl _⟩
      have HBz_wb1 : Hid (Below wq.heap.size wq wb1) := Lib.hid (hb4)
      have v0x : wb1.cell? ⟨VB, 0, none⟩ = some (.func (.func 152) #[] #[.pointer (some ⟨KB, 0, none⟩), .pointer (some ⟨OB, 0, none⟩), .pointer (some ⟨IB, 0, none⟩), .pointer (some ⟨WB, 0, none⟩), .pointer (some ⟨EB, 0, none⟩), .pointer (some ⟨VB, 0, none⟩)]) := (hb4.cell (p := ⟨VB, 0, none⟩) zV).trans v0
      have a0x : wb1.cell? ⟨ba, oa, none⟩ = some (.bool st) := (hb4.cell (p := ⟨ba, oa, none⟩) zba).trans a0
      have a1x : wb1.cell? ⟨ba, oa + 1, none⟩ = some (.int .i64 sn) := (hb4.cell (p := ⟨ba, oa + 1, none⟩) zba).trans a1
      have zVx : VB < wb1.heap.size := Nat.lt_of_lt_of_le zV hb4.size
      have zbax : ba < wb1.heap.size := Nat.lt_of_lt_of_le zba hb4.size
      clear hwn hG4 hb4
      refine hK.out _ _ ?hdb12 (fun hHeld => ?rdb12)
      case hdb12 => ((try dsimp only); go_keep)
      clear hK Kq
      try simp only [Act.put, sA, sB, sC]
      refine take_call (i := 5) rfl (by kernel_rfl) (by rfl) (fun Kq hK => ?_)
      go_simp
      go_at_call 153
      refine (cloneKey_any kids Ak ck kids.length Sk wb1 rfl (by have := HLn.out; omega) (HAkq.out.below HBz_wb1.out) (fun b hb => by have h1 := (HSk.out b hb).2.2; have := HBz_wb1.out.size; omega)).mono ?_
      rintro e wb2 ⟨A3, c3, rfl, h31, h32, hO3, hb3⟩
      have HO3 : Hid (Own wb2 (fun _ => False) wq.heap.size 194 (.slice A3 kids.length c3) kids) := Lib.hid (hO3.base HBz_wb1.out.size)
      have HBz_wb2 : Hid (Below wq.heap.size wq wb2) := Lib.hid (bthen HBz_wb1.out hb3 HBz_wb1.out.size)
      have HAt4 : Hid (At wb2 G4 0 [.bool st, .int .i64 sn, .int .i64 (f : Int), .int .i64 (p : Int)] ∧ wq.heap.size ≤ G4) := Lib.hid ⟨HAt4.out.1.keep (fun q hq => hb3.cell (p := q) (by rw [hq]; exact HAt4.out.1.lt (by simp))), HAt4.out.2⟩
      have v0y : wb2.cell? ⟨VB, 0, none⟩ = some (.func (.func 152) #[] #[.pointer (some ⟨KB, 0, none⟩), .pointer (some ⟨OB, 0, none⟩), .pointer (some ⟨IB, 0, none⟩), .pointer (some ⟨WB, 0, none⟩), .pointer (some ⟨EB, 0, none⟩), .pointer (some ⟨VB, 0, none⟩)]) := (hb3.cell (p := ⟨VB, 0, none⟩) zVx).trans v0x
      have a0y : wb2.cell? ⟨ba, oa, none⟩ = some (.bool st) := (hb3.cell (p := ⟨ba, oa, none⟩) zbax).trans a0x
      have a1y : wb2.cell? ⟨ba, oa + 1, none⟩ = some (.int .i64 sn) := (hb3.cell (p := ⟨ba, oa + 1, none⟩) zbax).trans a1x
      have zVy : VB < wb2.heap.size := Nat.lt_of_lt_of_le zVx hb3.size
      have zbay : ba < wb2.heap.size := Nat.lt_of_lt_of_le zbax hb3.size
      clear hb3 hO3 h31 h32
      refine hK.out _ _ ?hdb5 (fun hHeld => ?rdb5)
      case hdb5 => ((try dsimp only); go_keep)
      clear hK Kq
      try simp only [Act.put, sA, sB, sC]
      refine take_call (i := 13) rfl (by kernel_rfl) (by rfl) (fun Kq hK => ?_)
      refine wp_own1 _ _ _ elemNKey rfl rfl HO3.out (⟨⟨st, sn⟩, f, p⟩ : NKey) [.bool st, .int .i64 sn, .int .i64 (f : Int), .int .i64 (p : Int)] rfl HAt4.out.1 ⟨rfl, HKo.out⟩ (by have := HLq.out; omega) (by have := HLq.out; omega) HBz_wb2.out.size ?_
      intro v5 wb3 hO5 hg5 ha5
      obtain ⟨A5, c5, hv5, h51, h52, _⟩ := hO5.form
      rw [snoc_len] at hv5
      subst hv5
      have HO5 := Lib.hid hO5
      have HN5 : Hid (kids.length + 1 ≤ c5 ∧ c5 ≤ 9223372036854775807) := Lib.hid ⟨by rw [snoc_len] at h51; exact h51, h52⟩
      have hb5 : Below wq.heap.size wq wb3 := bgrown HBz_wb2.out hg5 HO3.out (Nat.le_refl _) HBz_wb2.out.size
      have HB5 := Lib.hid hb5
      have v0z : wb3.cell? ⟨VB, 0, none⟩ = some (.func (.func 152) #[] #[.pointer (some ⟨KB, 0, none⟩), .pointer (some ⟨OB, 0, none⟩), .pointer (some ⟨IB, 0, none⟩), .pointer (some ⟨WB, 0, none⟩), .pointer (some ⟨EB, 0, none⟩), .pointer (some ⟨VB, 0, none⟩)]) := (hb5.cell (p := ⟨VB, 0, none⟩) zV).trans v0
      have a0z : wb3.cell? ⟨ba, oa, none⟩ = some (.bool st) := (hb5.cell (p := ⟨ba, oa, none⟩) zba).trans a0
      have a1z : wb3.cell? ⟨ba, oa + 1, none⟩ = some (.int .i64 sn) := (hb5.cell (p := ⟨ba, oa + 1, none⟩) zba).trans a1
      have zVz : VB < wb3.heap.size := Nat.lt_of_lt_of_le zV hb5.size
      have zbaz : ba < wb3.heap.size := Nat.lt_of_lt_of_le zba hb5.size
      clear hO5 hg5 ha5 h51 h52 hb5
      refine hK.out _ _ ?hdb13 (fun hHeld => ?rdb13)
      case hdb13 => ((try dsimp only); go_keep)
      clear hK Kq
      try simp only [Act.put, sA, sB, sC]
      refine take_call (i := 14) rfl (by kernel_rfl) (by rfl) (fun Kq hK => ?_)
      go_simp
      go_at_call 152
      have hbl := HB5.out
      have hels := HO5.out.vl.els.2.2.2
      have hBoq : Bo ≤ wq.heap.size ∧ Z ≤ wq.heap.size := by have := HLn.out; omega
      have hobo := hob
      have hcall := HIH.out wb3 A1 (c - 1) Sl p (kids ++ [(⟨⟨st, sn⟩, f, p⟩ : NKey)]) A5 c5 (fun b => wq.heap.size ≤ b ∧ b < wb3.heap.size) v1 (outs ++ PkOut i kids (partW ws T ⟨st, sn⟩ rest f k.to m0)) (HPq.out.kept (Kept.of_below (fun _ => False) (hbl)) (fun _ h => h.elim)) (HO1.out.below hbl HO1.out.lt) (HOw1.out.below hbl (Nat.le_refl _)) HVY1.out (by have := HLn.out.1; simp at this; omega) (by have := HLn.out.2.1; omega) (HEq.out.below hbl) HSl.out (fun s hs => HSy.out s (by simp [hs])) HPz.out.2 (hels.keep (fun _ _ _ => rfl) (fun b hb => ⟨hb.1.resolve_left id, hb.2⟩)) (fun b hb => ⟨by omega, fun h => by have := (HOw1.out.block b h).2; omega, hb.2⟩) (by rw [snoc_len]; exact HN5.out.1) HN5.out.2 (by rw [snoc_len]; exact HLq.out.2) HLq.out.1 (by have := hbl.size; omega)
      rw [snoc_len] at hcall
      refine hcall.mono ?_
      rintro e w6 ⟨rfl, v6, hO6, hOw6, hK6, hat6⟩
      rw [← HWn.out] at hOw6
      have HO6 := Lib.hid hO6
      have HOw6 := Lib.hid hOw6
      have HAt6 : Hid (v6.ownBlock = v.ownBlock ∨ ∃ q, v6.ownBlock = some q ∧ w.heap.size ≤ q) := Lib.hid (by
       rcases hat6 with h | ⟨q, h, h2⟩
       ·rw [h]; exact HAt1.out
       ·exact .inr ⟨q, h, by have := hbl.size; omega⟩)
      have HK6 : Hid (Kept (fun b => b = OB ∨ v.ownBlock = some b) w w6) := Lib.hid ((HK1.out.below hbl).later hK6 (fun b hb => by
       rcases hb with h | h
       ·exact .inl (.inl h)
       ·rcases HAt1.out with h2 | ⟨q, h2, h3⟩
        ·exact .inl (.inr (by rw [← h2]; exact h))
        ·rw [h2] at h; injection h with h; exact .inr (by omega)))
      have hnX : ∀ b, ¬ Y b → ¬ (b = OB ∨ v1.ownBlock = some b) := fun b h1 h2 => h1 (h2.elim (fun h => by rw [h]; exact hyo) (HVY1.out b))
      have v0k : w6.cell? ⟨VB, 0, none⟩ = some (.func (.func 152) #[] #[.pointer (some ⟨KB, 0, none⟩), .pointer (some ⟨OB, 0, none⟩), .pointer (some ⟨IB, 0, none⟩), .pointer (some ⟨WB, 0, none⟩), .pointer (some ⟨EB, 0, none⟩), .pointer (some ⟨VB, 0, none⟩)]) := (hK6.cell (p := ⟨VB, 0, none⟩) zVz (hnX _ (HP.out.far VB (.inr (.inr (.inr (.inr (.inl rfl)))))))).trans v0z
      have a0k : w6.cell? ⟨ba, oa, none⟩ = some (.bool st) := (hK6.cell (p := ⟨ba, oa, none⟩) zbaz (hnX _ (HSl.out ba HSa.out))).trans a0z
      have a1k : w6.cell? ⟨ba, oa + 1, none⟩ = some (.int .i64 sn) := (hK6.cell (p := ⟨ba, oa + 1, none⟩) zbaz (hnX _ (HSl.out ba HSa.out))).trans a1z
      have zVk : VB < w6.heap.size := Nat.lt_of_lt_of_le zVz hK6.size
      have zbak : ba < w6.heap.size := Nat.lt_of_lt_of_le zbaz hK6.size
      clear hnX hbl hels hBoq hobo hcall hO6 hOw6 hK6 hat6
      refine hK.out _ _ ?hdb14 (fun hHeld => ?rdb14)
      case hdb14 => ((try dsimp only); go_keep)
      clear hK Kq
      try simp only [Act.put, sA, sB, sC]
      refine wpAnyH_done (by kernel_rfl) ?_ _
      refine NoPanic.normal ?_
      clear hsl v0 a0 a1 zV zba
      go_wp2_with fail
      go_roundw
      case rel => exact ⟨u, p + 1, v6, rfl, HU.out.1, HU.out.2.1, HO6.out, HOw6.out, HK6.out, HAt6.out⟩
      case measure => have := HU.out.2.2; simp [intOf]; omega
end Go.Proofs.YtjdojogjogenkaaDoor
