/- Contract: gram.Yield. -/
import Derived.Test.YtnlpeiffbnlncaaDoorQp2
import Derived.Test.YtnlpeiffbnlncaaDoorQp1
import Derived.Laws.EntriesVeiled
namespace Go.Proofs.YtnlpeiffbnlncaaDoor
open Go.RowKit
set_option linter.unusedVariables false

/-- The state of Yield: O holds the word, V the closure. -/
def YS (B O V : Nat) (out : List Int) (w : World) : Prop :=
  ∃ v, Blk' w O 22 #[v] ∧ Own w (fun _ => False) B 3 v out ∧ Blk' w V 86 #[.func (.func 43) #[] #[.pointer (some ⟨O, 0, none⟩), .pointer (some ⟨V, 0, none⟩)]] ∧ O < V ∧ V < B ∧ B ≤ w.heap.size
theorem YS.below {B O V : Nat} {out : List Int} {w w' : World} (h : YS B O V out w) (hb : Below w.heap.size w w') : YS B O V out w' := by
  obtain ⟨v, h1, h2, h3, h4, h5, h6⟩ := h
  exact ⟨v, h1.below hb h1.lt, h2.below hb (Nat.le_refl _), h3.below hb h3.lt, h4, h5, Nat.le_trans h6 hb.size⟩

def YLoop (B O V : Nat) (out : List Int) (ks : List Tree) (w : World) (G : Nat) (cells : Array Value) (i : Value) (wr : World) : Prop :=
  ∃ m : Nat, m ≤ ks.length ∧ i = .int .i64 m ∧ YS B O V (out ++ yields (ks.take m)) wr ∧ Below O w wr

set_option maxRecDepth 100000 in
set_option maxHeartbeats 1000000 in
theorem visit_any (B O V : Nat) (S : Nat → Prop) (hS : ∀ b, S b → b < O) : ∀ (t : Tree) (A : Option Addr) (c : Nat) (out : List Int) (w : World), I64 t.rule → I64 t.term → t.kids.length ≤ c → c ≤ 9223372036854775807 → Els w S t.kids A → YS B O V out w → out.length + (yieldT t).length ≤ 1000000 →
    Calls Tryd.prog 43 #[.agg #[.int .i64 t.rule, .int .i64 t.term, .slice A t.kids.length c], .pointer (some ⟨O, 0, none⟩), .pointer (some ⟨V, 0, none⟩)] w
      fun e w' => e = .returned (.tuple #[]) ∧ YS B O V (out ++ yieldT t) w' ∧ Below O w w' := by
  refine Tree.ind ?_
  intro r t ks ih A c out w hr ht hlc hc hA hst hlen
  have IH := Lib.hid ih
  have HS := Lib.hid hS
  have hr' : I64 r := hr
  have ht' : I64 t := ht
  dsimp only [Tree.rule, Tree.term, Tree.kids] at *
  have HA := Lib.hid hA
  have hba : Below w.heap.size w (w.alloc (.cells #[.int .i64 r, .int .i64 t, .slice A ks.length c] 39)) := (Below.refl _ _).alloc (Nat.le_refl _) _
  have hs1 := hst.below hba
  have hO : O < w.heap.size := by obtain ⟨v, h1, _⟩ := hst; exact h1.lt
  by_cases h0 : r < 0
  · have E := Lib.hid (show yieldT ⟨r, t, ks⟩ = [t] by unfold yieldT; rw [if_pos h0])
    obtain ⟨v, h1, h2, h3, h4, h5, h6⟩ := hs1
    have hlen2 : out.length + 1 ≤ 1000000 := by have h := hlen; rw [E.out] at h; simpa using h
    have hcap1 : (out.length + 1) * 8 ≤ 140737488355328 := by omega
    have hcap2 : out.length + 1 ≤ 9223372036854775807 := by omega
    have g0 : (w.alloc (.cells #[.int .i64 r, .int .i64 t, .slice A ks.length c] 39)).cell? ⟨O, 0, none⟩ = some v := h1.cell 0
    have gO : w.cell? ⟨O, 0, none⟩ = some v := by
      have h := hba.cell (p := ⟨O, 0, none⟩) hO
      rw [← h]; exact g0
    have H2 := Lib.hid (h2.alloc (.cells #[.int .i64 t] 3))
    have H1 := Lib.hid (And.intro (h1.alloc (.cells #[.int .i64 t] 3)) (h3.alloc (.cells #[.int .i64 t] 3)))
    have H4 := Lib.hid (And.intro h4 (And.intro h5 h6))
    have HT := Lib.hid ht'
    obtain ⟨Ao, co, e1, _⟩ := h2.form
    subst e1
    have HN : Hid (some O ≠ (Value.slice Ao out.length co).ownBlock ∧ some V ≠ (Value.slice Ao out.length co).ownBlock) := Lib.hid ⟨fun e => by have := (h2.block _ e.symm).1; omega, fun e => by have := (h2.block _ e.symm).1; omega⟩
    have hBw : B ≤ w.heap.size + 1 := by simp at h6; omega
    have HBa := Lib.hid (((Below.refl O w).alloc (by omega) (.cells #[.int .i64 r, .int .i64 t, .slice A ks.length c] 39)).alloc (by simp; omega) (.cells #[.int .i64 t] 3))
    clear hst hba h1 h2 h3 h4 h5 h6 hlen hlen2 ih hr ht hA g0
    go_enter Tryd.func43, Tryd.ntmps43
    go_wp2_with (at_builtin; refine wpList_own1 _ rfl _ _ elemInt rfl rfl H2.out t [.int .i64 t] rfl (by have h := At.new (w.alloc (.cells #[.int .i64 r, .int .i64 t, .slice A ks.length c] 39)) [.int .i64 t] 3; rwa [show (w.alloc (.cells #[.int .i64 r, .int .i64 t, .slice A ks.length c] 39)).heap.size = w.heap.size + 1 from by simp] at h) ⟨rfl, HT.out⟩ hcap1 hcap2 (by simp; omega) ?_; intro v' w3 hown3 hg3 hat3; obtain ⟨A3, k3, hv3, _⟩ := hown3.form; rw [snoc_len] at hv3; subst hv3; have hb3 := H1.out.1.grown hg3 HN.out.1; have c3 := hb3.cell 0; have f3 := hb3.frozen 0; have H3 := Lib.hid (And.intro hown3 (And.intro hg3 (And.intro hb3 (H1.out.2.grown hg3 HN.out.2)))); clear hown3 hg3 hat3 hb3; simp at c3)
    refine bodyPost_ret (v := .tuple #[]) (by simp [results, Tryd.results43, go_sem]) rfl ?_
    refine ⟨rfl, ⟨_, H3.out.2.2.1.set_ 0 _, ?_, H3.out.2.2.2.far (by have := H4.out.1; show V ≠ O; omega) _, H4.out.1, H4.out.2.1, ?_⟩, ?_⟩
    · rw [E.out]
      exact H3.out.1.setCell (fun e => by have := (H3.out.1.block _ e).1; have := H4.out; dsimp only at *; omega) (by have := H4.out; simp; omega) _
    · have := H3.out.2.1.size; simp [World.setCell] at *; omega
    · exact (HBa.out.grown H3.out.2.1 (by simp; omega) (fun k hk => by have := (H2.out.block k hk).1; have := H4.out; omega)).setCell (Nat.le_refl _) _
  · have E := Lib.hid (show yieldT ⟨r, t, ks⟩ = yields ks by unfold yieldT; rw [if_neg h0])
    have HB0 := Lib.hid ((Below.refl O w).alloc (by omega) (.cells #[.int .i64 r, .int .i64 t, .slice A ks.length c] 39))
    have HS1 := Lib.hid hs1
    have HLn := Lib.hid hlen
    clear hst hs1 hba hlen ih hr ht hA
    go_enter Tryd.func43, Tryd.ntmps43
    go_wp2_with fail
    go_loopw [17] (fun i wr => YLoop B O V out ks w w.heap.size #[.int .i64 r, .int .i64 t, .slice A ks.length c] i wr) (fun i _ => ks.length - (intOf i).toNat)
    case atStart => exact ⟨0, Nat.zero_le _, rfl, by simpa [yields] using HS1.out, HB0.out⟩
    case round =>
      obtain ⟨wo, hwo⟩ : ∃ wo : World, wo = wr := ⟨_, rfl⟩
      subst hwo
      obtain ⟨m, hm, rfl, hY, hb⟩ := hrel
      have HY := Lib.hid hY
      have HB := Lib.hid hb
      clear hY hb
      by_cases hlt : m < ks.length
      · obtain ⟨x, hx⟩ := get_some hlt
        obtain ⟨b, o, Ax, cx, rfl, hSb, hbs, hi, hi2, hx1, hx2, hEx, hc0, hc1, hc2⟩ := (HA.out.belowB HB.out HS.out).tree hx
        have hm0 : (0 : Int) ≤ (m : Int) := by omega
        have HM := Lib.hid (List.mem_of_getElem? hx)
        have HE := Lib.hid (yields_take hx)
        have hbo : Below wo.heap.size wo (wo.alloc (.cells #[.int .i64 x.rule, .int .i64 x.term, .slice Ax x.kids.length cx] 39)) := (Below.refl _ _).alloc (Nat.le_refl _) _
        have HY2 := Lib.hid (HY.out.below hbo)
        have HEx := Lib.hid (hEx.below hbo)
        have HI := Lib.hid (And.intro hi hi2)
        have hl2 : Hid ((out ++ yields (ks.take m)).length + (yieldT x).length ≤ 1000000) := Lib.hid (by
          have h := HLn.out
          rw [E.out, yields_drop ks (m + 1), HE.out] at h
          simp only [List.length_append] at h ⊢
          omega)
        obtain ⟨v, q1, q2, q3, q4⟩ := HY.out
        have gv : wo.cell? ⟨V, 0, none⟩ = some (.func (.func 43) #[] #[.pointer (some ⟨O, 0, none⟩), .pointer (some ⟨V, 0, none⟩)]) := q3.cell 0
        have hV : V < wo.heap.size := q3.lt
        have hOw : O ≤ wo.heap.size := Nat.le_of_lt q1.lt
        clear q1 q2 q3 q4 hx hEx hbo hi hi2
        go_wp2_with fail
        refine (IH.out x HM.out Ax cx _ _ HI.out.1 HI.out.2 hx1 hx2 HEx.out HY2.out hl2.out).mono ?_
        rintro e w2 ⟨rfl, hy2, hb2⟩
        have HZ := Lib.hid (And.intro hy2 ((HB.out.alloc hOw _).trans hb2))
        clear hy2 hb2
        go_wp2
        go_roundw
        case rel => exact ⟨m + 1, hlt, by go_num, by rw [HE.out, ← List.append_assoc]; exact HZ.out.1, HZ.out.2⟩
        case measure => simp [intOf]; omega
      · go_wp2
        go_end0
        refine ⟨rfl, ?_, HB.out⟩
        have h := HY.out
        rw [List.take_of_length_le (by omega)] at h
        rw [E.out]
        exact h

set_option maxRecDepth 100000 in
set_option maxHeartbeats 1000000 in
theorem yield_any (t : Tree) (A : Option Addr) (c : Nat) (S : Nat → Prop) (w : World) (hS : ∀ b, S b → b < w.heap.size) (hr : I64 t.rule) (ht : I64 t.term) (hlc : t.kids.length ≤ c) (hc : c ≤ 9223372036854775807) (hA : Els w S t.kids A) (hlen : (yieldT t).length ≤ 1000000) :
    Calls Tryd.prog 16 #[.agg #[.int .i64 t.rule, .int .i64 t.term, .slice A t.kids.length c]] w (RetOwn w (fun _ => False) 3 (yieldT t)) := by
  have HA := Lib.hid hA
  have HI := Lib.hid (And.intro hr ht)
  have HL := Lib.hid hlen
  have HS : Hid (∀ b, S b → b < w.heap.size + 1) := Lib.hid (fun b hb => by have := hS b hb; omega)
  clear hA hr ht hlen
  go_enter Tryd.func16, Tryd.ntmps16
  go_wp2_with fail
  have hb0 : Below w.heap.size w (((w.alloc (.cells #[.int .i64 t.rule, .int .i64 t.term, .slice A t.kids.length c] 39)).alloc (.cells #[.slice none 0 0] 22)).alloc (.cells #[.func (.func 43) #[] #[.pointer (some ⟨w.heap.size + 1, 0, none⟩), .pointer (some ⟨w.heap.size + 1 + 1, 0, none⟩)]] 86)) := (((Below.refl _ _).alloc (Nat.le_refl _) _).alloc (by simp) _).alloc (by simp; omega) _
  have hY : YS (w.heap.size + 1 + 1 + 1) (w.heap.size + 1) (w.heap.size + 1 + 1) [] (((w.alloc (.cells #[.int .i64 t.rule, .int .i64 t.term, .slice A t.kids.length c] 39)).alloc (.cells #[.slice none 0 0] 22)).alloc (.cells #[.func (.func 43) #[] #[.pointer (some ⟨w.heap.size + 1, 0, none⟩), .pointer (some ⟨w.heap.size + 1 + 1, 0, none⟩)]] 86)) :=
    ⟨_, (Blk'.new' _ _ _ (by simp)).alloc _, Own.nil _ _ _ _, Blk'.new' _ _ _ (by simp), by omega, by omega, by simp⟩
  have HB := Lib.hid hb0
  refine (visit_any (w.heap.size + 1 + 1 + 1) (w.heap.size + 1) (w.heap.size + 1 + 1) S HS.out t A c [] _ HI.out.1 HI.out.2 hlc hc (HA.out.below hb0) hY (by simpa using HL.out)).mono ?_
  rintro e w2 ⟨rfl, hy2, hb2⟩
  obtain ⟨v, q1, q2, q3, q4⟩ := hy2
  have g0 : w2.cell? ⟨w.heap.size + 1, 0, none⟩ = some v := q1.cell 0
  obtain ⟨A3, n3, k3, rfl⟩ : ∃ A n c, v = Value.slice A n c := by obtain ⟨A, c, e, _⟩ := q2.form; exact ⟨_, _, _, e⟩
  have HZ := Lib.hid (And.intro q2 (HB.out.trans (hb2.mono (by omega))))
  clear hb0 hY q1 q2 q3 q4 hb2
  go_wp2
  go_ret
  exact ⟨_, rfl, by have h := HZ.out.1.base (show w.heap.size ≤ w.heap.size + 1 + 1 + 1 by omega); simpa using h, HZ.out.2⟩
end Go.Proofs.YtnlpeiffbnlncaaDoor
