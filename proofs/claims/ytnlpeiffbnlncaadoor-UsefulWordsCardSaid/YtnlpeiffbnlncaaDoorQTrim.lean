/- Contract: useful.Trim, of a valid grammar. -/
import Derived.Test.YtnlpeiffbnlncaaDoorQUsefulUse
import Derived.Test.YtnlpeiffbnlncaaDoorQUsefulRea
import Derived.Test.YtnlpeiffbnlncaaDoorQRulesIn
import Derived.Test.YtnlpeiffbnlncaaDoorQUsefulLen
import Derived.Test.YtnlpeiffbnlncaaDoorQValid
import Derived.Test.YtnlpeiffbnlncaaDoorQWhereP
import Derived.Test.YtnlpeiffbnlncaaDoorQp1
namespace Go.Proofs.YtnlpeiffbnlncaaDoor
open Go.RowKit
set_option linter.unusedVariables false

/-- The numbers of the true places. -/
def trueFrom : Nat → List Bool → List Int
  | _, [] => []
  | k, b :: bs => if b then (k : Int) :: trueFrom (k + 1) bs else trueFrom (k + 1) bs
theorem trueFrom_len : ∀ (k : Nat) (s : List Bool), (trueFrom k s).length = s.count true
  | _, [] => rfl
  | k, true :: s => by simp [trueFrom, trueFrom_len (k + 1) s]
  | k, false :: s => by simp [trueFrom, trueFrom_len (k + 1) s]
/-- The table of new numbers, up to a place. -/
def toL (s : List Bool) (k : Nat) : List Int := (List.range s.length).map fun i => if i < k then (toV s i : Int) else 0
theorem toL_len (s : List Bool) (k : Nat) : (toL s k).length = s.length := by simp [toL]
theorem toL_get {s : List Bool} {k i : Nat} (h : i < s.length) : (toL s k)[i]? = some (if i < k then (toV s i : Int) else 0) := by
  simp [toL, List.getElem?_range h]
theorem toL_zero (s : List Bool) : toL s 0 = List.replicate s.length 0 := by
  apply List.ext_getElem?
  intro i
  rw [List.getElem?_replicate]
  split
  · rename_i h; rw [toL_get h]; simp
  · rename_i h; exact List.getElem?_eq_none (by rw [toL_len]; omega)
theorem toL_true {s : List Bool} {k : Nat} (h : s[k]? = some true) : toL s (k + 1) = (toL s k).set k ((s.take k).count true : Int) := by
  have hl := (List.getElem?_eq_some_iff.1 h).1
  apply List.ext_getElem?
  intro i
  rw [List.getElem?_set]
  by_cases hi : i < s.length
  · rw [toL_get hi, toL_get hi]
    by_cases e : k = i
    · subst e
      rw [if_pos (by omega), if_pos rfl, if_pos (by rw [toL_len]; exact hl)]
      unfold toV
      rw [List.getD_eq_getElem?_getD, h]
      simp
    · rw [if_neg e]
      by_cases h2 : i < k
      · rw [if_pos h2, if_pos (by omega)]
      · rw [if_neg h2, if_neg (by omega)]
  · rw [List.getElem?_eq_none (by rw [toL_len]; omega), if_neg (by omega), List.getElem?_eq_none (by rw [toL_len]; omega)]
theorem toL_false {s : List Bool} {k : Nat} (h : s[k]? = some false) : toL s (k + 1) = toL s k := by
  apply List.ext_getElem?
  intro i
  by_cases hi : i < s.length
  · rw [toL_get hi, toL_get hi]
    by_cases e : i = k
    · subst e
      rw [if_pos (by omega), if_neg (by omega)]
      unfold toV
      rw [List.getD_eq_getElem?_getD, h]
      simp
    · by_cases h2 : i < k
      · rw [if_pos h2, if_pos (by omega)]
      · rw [if_neg h2, if_neg (by omega)]
  · rw [List.getElem?_eq_none (by rw [toL_len]; omega), List.getElem?_eq_none (by rw [toL_len]; omega)]
theorem trueFrom_cons {s : List Bool} {k : Nat} {b : Bool} (h : s[k]? = some b) : trueFrom k (s.drop k) = if b then (k : Int) :: trueFrom (k + 1) (s.drop (k + 1)) else trueFrom (k + 1) (s.drop (k + 1)) := by
  rw [drop_cons h, trueFrom]
theorem count_snoc {s : List Bool} {k : Nat} {b : Bool} (h : s[k]? = some b) : (s.take (k + 1)).count true = (s.take k).count true + if b then 1 else 0 := by
  rw [take_snoc h, List.count_append]
  cases b <;> simp

theorem Own.kept_int {X : Nat → Prop} {w w' : World} {S S' : Nat → Prop} {base : Nat} {e : TypeId} {v : Value} {xs : List Int} (h : Own w S base e v xs) (k : Kept X w w') (hx : ∀ b, v.ownBlock = some b → ¬ X b) : Own w' S' base e v xs := by
  obtain ⟨css, h1, h2, h3⟩ := h
  refine ⟨css, ⟨h1.1, ?_⟩, h2, fun i x cs hi hc => h3 i x cs hi hc⟩
  rcases h1.2 with q | ⟨g, cap, cur, q1, q2, q3, q4⟩
  · exact .inl q
  · have hg : v.ownBlock = some g := by rw [q1]; rfl
    exact .inr ⟨g, cap, cur, q1, q2, (k.block g (h1.lt g hg).2 (hx g hg)).trans q3, q4⟩

/-- What Trim returns of a grammar with a word, and of one without. -/
def RetTrim (g : Gram) (n : Nat) (w : World) (e : Ending) (w' : World) : Prop :=
  (∃ l s vg vn vr, TrimS g n l s ∧ e = .returned (.tuple #[vg, vn, vr, .int .i64 0]) ∧ Vl w' (fun b => w.heap.size ≤ b ∧ b < w'.heap.size) (trimG g l s) vg ∧ Own w' (fun _ => False) w.heap.size 3 vn (trueFrom 0 s) ∧ Own w' (fun _ => False) w.heap.size 3 vr (whereFrom (stayB l s) 0 g.rules) ∧ Below w.heap.size w w') ∨
  (∃ l, LFix g n l ∧ l.getD g.start.toNat 0 < 0 ∧ e = .returned (.tuple #[.agg #[.int .i64 0, .int .i64 0, .int .i64 0, .slice none 0 0], .slice none 0 0, .slice none 0 0, .int .i64 5]) ∧ Below w.heap.size w w')
def TrL1 (s : List Bool) (n T B : Nat) (w4 : World) (v i : Value) (wr : World) : Prop :=
  ∃ (k : Nat) (out : List Int), k ≤ n ∧ i = .int .i64 k ∧ trueFrom 0 s = out ++ trueFrom k (s.drop k) ∧ out.length = (s.take k).count true ∧ Own wr (fun _ => False) B 3 v out ∧ Blk' wr T 3 (icells (toL s k)) ∧ Kept (fun b => b = T) w4 wr
def TrL2 (g : Gram) (l : List Int) (s : List Bool) (wo : World) (vr i : Value) (wr : World) : Prop :=
  ∃ (k : Nat) (nums : List Int) (rs' : List Rule) (vs : Value), k ≤ g.rules.length ∧ i = .int .i64 k ∧ nums.length ≤ k ∧ rs'.length ≤ k ∧ whereFrom (stayB l s) 0 g.rules = nums ++ whereFrom (stayB l s) k (g.rules.drop k) ∧ (trimG g l s).rules = rs' ++ ((g.rules.drop k).filter (stayB l s)).map (trimRule s) ∧
    Two wr (fun _ => False) (wo.heap.size + 1) 57 3 vs vr rs' nums ∧ Blk' wr wo.heap.size 25 #[.int .i64 g.terms, .int .i64 (s.count true : Nat), .int .i64 (toV s g.start.toNat : Nat), vs] ∧ Below wo.heap.size wo wr
def TrL3 (s : List Bool) (right : List Sym) (tv : Int) (wx : World) (i : Value) (wr : World) : Prop :=
  ∃ (m : Nat) (vx : Value), m ≤ right.length ∧ i = .int .i64 m ∧ Below wx.heap.size wx wr ∧ Blk' wr wx.heap.size 57 #[.int .i64 tv, vx] ∧ Own wr (fun _ => False) (wx.heap.size + 1) 69 vx ((right.take m).map (renSym s))

set_option maxRecDepth 100000 in
set_option maxHeartbeats 4000000 in
theorem trim_any (g : Gram) (n : Nat) (A : Option Addr) (c : Nat) (S : Nat → Prop) (w : World) (hgn : g.nons = (n : Int)) (hck : checkI g = 0) (hlc : g.rules.length ≤ c) (hc : c ≤ 9223372036854775807) (hA : Els w S g.rules A) (hS : ∀ b, S b → b < w.heap.size) :
    Calls Tryd.prog 19 #[.agg #[.int .i64 g.terms, .int .i64 g.nons, .int .i64 g.start, .slice A g.rules.length c]] w (RetTrim g n w) := by
  have hv := validG_of hck
  have hri := hv.rulesIn hgn
  obtain ⟨gt, gn, gs, rs⟩ := g
  dsimp only at *
  subst hgn
  obtain ⟨s0, rfl⟩ : ∃ s0 : Nat, gs = (s0 : Int) := ⟨gs.toNat, by have := hv.s0; dsimp only at this; omega⟩
  have hs0 : s0 < n := by have := hv.s1; dsimp only at this; omega
  have hn1 : 1 ≤ n := by omega
  have hn10 : n ≤ 10 := by have := hv.n10; dsimp only at this; omega
  have hrl : rs.length ≤ 32 := hv.len
  have HV := Lib.hid hv
  have HRI := Lib.hid hri
  have HA := Lib.hid hA
  have HS := Lib.hid hS
  have HC := Lib.hid hck
  obtain ⟨w0, hw0⟩ : ∃ w0 : World, w0 = (w.alloc (.cells #[.int .i64 gt, .int .i64 (n : Int), .int .i64 (s0 : Int), .slice A rs.length c] 25)).alloc (.cells #[.int .i64 0, .int .i64 0, .int .i64 0, .slice none 0 0] 25) := ⟨_, rfl⟩
  have HB0 : Hid (Below w.heap.size w w0) := Lib.hid (by rw [hw0]; exact ((Below.refl _ _).alloc (Nat.le_refl _) _).alloc (by simp) _)
  have HG0 : Hid (Blk' w0 w.heap.size 25 #[.int .i64 gt, .int .i64 (n : Int), .int .i64 (s0 : Int), .slice A rs.length c]) := Lib.hid (by rw [hw0]; exact (Blk'.new _ _ _).alloc _)
  have HR0 : Hid (Blk' w0 (w.heap.size + 1) 25 #[.int .i64 0, .int .i64 0, .int .i64 0, .slice none 0 0]) := Lib.hid (by rw [hw0]; exact Blk'.new' _ _ _ (by simp))
  have HW0 := Lib.hid hw0
  clear hv hri hA hS hck hw0
  go_enter Tryd.func19, Tryd.ntmps19
  go_wp2_with fail
  rw [← HW0.out]
  refine (check_any ⟨gt, (n : Int), (s0 : Int), rs⟩ A c S _ hlc hc (HA.out.below HB0.out)).mono ?_
  rintro e w1 ⟨rfl, hb1⟩
  rw [HC.out]
  have HB1 := Lib.hid (bthen HB0.out hb1 HB0.out.size)
  have hG1 := HG0.out.below hb1 HG0.out.lt
  have HG1 := Lib.hid hG1
  have HR1 := Lib.hid (HR0.out.below hb1 HR0.out.lt)
  have g0 : w1.cell? ⟨w.heap.size, 0, none⟩ = some (.int .i64 gt) := hG1.cell 0
  have g1 : w1.cell? ⟨w.heap.size, 1, none⟩ = some (.int .i64 (n : Int)) := hG1.cell 1
  have g2 : w1.cell? ⟨w.heap.size, 2, none⟩ = some (.int .i64 (s0 : Int)) := hG1.cell 2
  have g3 : w1.cell? ⟨w.heap.size, 3, none⟩ = some (.slice A rs.length c) := hG1.cell 3
  clear hb1 hG1 HG0 HR0 HB0 HW0
  go_wp2_with fail
  refine (lengths_any ⟨gt, (n : Int), (s0 : Int), rs⟩ n A c S _ rfl ⟨hn1, hn10⟩ hlc hc (HA.out.below HB1.out) (fun b hb => by have := HS.out b hb; have := HB1.out.size; omega) (by show rs.length ≤ 1000; omega) HRI.out).mono ?_
  rintro e w2 ⟨L, l, rfl, hfix, hL, hLge, hb2⟩
  have HFix := Lib.hid hfix
  have hll : l.length = n := hfix.shape.len
  have HLl := Lib.hid hll
  obtain ⟨ls, hls⟩ := get_some (show s0 < l.length by omega)
  have HLs := Lib.hid (show l.getD s0 0 = ls by rw [List.getD_eq_getElem?_getD, hls]; rfl)
  have HB2 := Lib.hid (bthen HB1.out hb2 HB1.out.size)
  have hG2 := HG1.out.below hb2 HG1.out.lt
  have HG2 := Lib.hid hG2
  have HR2 := Lib.hid (HR1.out.below hb2 HR1.out.lt)
  have HL2 := Lib.hid hL
  have k2 : w2.cell? ⟨w.heap.size, 2, none⟩ = some (.int .i64 (s0 : Int)) := hG2.cell 2
  have k0 : w2.cell? ⟨w.heap.size, 0, none⟩ = some (.int .i64 gt) := hG2.cell 0
  have k1 : w2.cell? ⟨w.heap.size, 1, none⟩ = some (.int .i64 (n : Int)) := hG2.cell 1
  have k3 : w2.cell? ⟨w.heap.size, 3, none⟩ = some (.slice A rs.length c) := hG2.cell 3
  have c0 : w2.cell? ⟨L, s0, none⟩ = some (.int .i64 ls) := (hL.cell _).trans (icells_get hls)
  have hLlt : L < w2.heap.size := hL.lt
  have hGlt : w.heap.size < w2.heap.size := hG2.lt
  have hRlt : w.heap.size + 1 < w2.heap.size := HR2.out.lt
  have hs9 : (s0 : Int) < (n : Int) := by omega
  have hwL : w.heap.size + 1 < L := by have := HR1.out.lt; omega
  have hwL1 : w1.heap.size ≤ L := hLge
  clear hfix hL hb2 hG2 HG1 HR1 HB1 g0 g1 g2 g3 hll hls
  by_cases hneg : ls < 0
  · have r0 := HR2.out.frozen 0
    have r1 := HR2.out.frozen 1
    have r2 := HR2.out.frozen 2
    have r3 := HR2.out.frozen 3
    have q0 : w2.cell? ⟨w.heap.size + 1, 0, none⟩ = some (.int .i64 0) := HR2.out.cell 0
    have q1 : w2.cell? ⟨w.heap.size + 1, 1, none⟩ = some (.int .i64 0) := HR2.out.cell 1
    have q2 : w2.cell? ⟨w.heap.size + 1, 2, none⟩ = some (.int .i64 0) := HR2.out.cell 2
    have q3 : w2.cell? ⟨w.heap.size + 1, 3, none⟩ = some (.slice none 0 0) := HR2.out.cell 3
    have hz := ((((HR2.out.set_ 0 (.int .i64 0)).set_ 1 (.int .i64 0)).set_ 2 (.int .i64 0)).set_ 3 (.slice none 0 0)).alloc (.cells #[.slice (some ⟨L, 0, none⟩) n n] 22)
    have z0 := hz.cell 0
    have z1 := hz.cell 1
    have z2 := hz.cell 2
    have z3 := hz.cell 3
    simp at z0 z1 z2 z3
    have HBz := Lib.hid (((((HB2.out.setCell (p := ⟨w.heap.size + 1, 0, none⟩) (by simp) (.int .i64 0)).setCell (p := ⟨w.heap.size + 1, 1, none⟩) (by simp) (.int .i64 0)).setCell (p := ⟨w.heap.size + 1, 2, none⟩) (by simp) (.int .i64 0)).setCell (p := ⟨w.heap.size + 1, 3, none⟩) (by simp) (.slice none 0 0)).alloc (by simp [World.setCell]; omega) (.cells #[.slice (some ⟨L, 0, none⟩) n n] 22))
    clear hz
    go_wp2
    refine bodyPost_ret (v := .tuple #[.agg #[.int .i64 0, .int .i64 0, .int .i64 0, .slice none 0 0], .slice none 0 0, .slice none 0 0, .int .i64 5]) (by simp [results, Tryd.results19, go_sem, z0, z1, z2, z3]) rfl (.inr ⟨l, HFix.out, by show l.getD s0 0 < 0; rw [HLs.out]; exact hneg, rfl, HBz.out⟩)
  · have hba : Below w2.heap.size w2 (w2.alloc (.cells #[.slice (some ⟨L, 0, none⟩) n n] 22)) := (Below.refl _ _).alloc (Nat.le_refl _) _
    have HBx := Lib.hid (Blk'.new w2 22 #[.slice (some ⟨L, 0, none⟩) n n])
    have HLB := Lib.hid (show LBox (w2.alloc (.cells #[.slice (some ⟨L, 0, none⟩) n n] 22)) w2.heap.size L n l from ⟨HBx.out, HL2.out.below hba HL2.out.lt, HLl.out⟩)
    have HB2a := Lib.hid (bthen HB2.out hba HB2.out.size)
    have HG2a := Lib.hid (HG2.out.below hba HG2.out.lt)
    have HR2a := Lib.hid (HR2.out.below hba HR2.out.lt)
    have HS2 : Hid (∀ b, S b → b < (w2.alloc (.cells #[.slice (some ⟨L, 0, none⟩) n n] 22)).heap.size) := Lib.hid (fun b hb => by have := HS.out b hb; simp; omega)
    clear hba HBx
    go_wp2_with fail
    refine (reached_any ⟨gt, (n : Int), (s0 : Int), rs⟩ (useB l) _ #[.pointer (some ⟨w2.heap.size, 0, none⟩)] n A c S _ rfl (by omega) ⟨by show (0 : Int) ≤ (s0 : Int); omega, by show ((s0 : Int)).toNat < n; omega⟩ hlc hc (HA.out.below HB2a.out) HS2.out HRI.out (isGo_of Tryd.func49 (by kernel_rfl) (by kernel_rfl))
      (fun x W hx hW A' c' h1 h2 h3 => use_any w2.heap.size L n l x A' c' S W (HLB.out.below hW) (by omega) (HRI.out x hx).2.2.2 h1 h2 h3)).mono ?_
    rintro e w3 ⟨SB, s, rfl, hrf, hSB, hSBge, hb3⟩
    have HB3 := Lib.hid (bthen HB2a.out hb3 HB2a.out.size)
    have HTS := Lib.hid (show TrimS ⟨gt, (n : Int), (s0 : Int), rs⟩ n l s from ⟨HFix.out, hrf, HRI.out, by show 0 ≤ l.getD s0 0; rw [HLs.out]; omega⟩)
    have hG3 := HG2a.out.below hb3 HG2a.out.lt
    have HG3 := Lib.hid hG3
    have HR3 := Lib.hid (HR2a.out.below hb3 HR2a.out.lt)
    have HLB3 := Lib.hid (HLB.out.below hb3)
    have HS3 := Lib.hid hSB
    have m0 : w3.cell? ⟨w.heap.size, 0, none⟩ = some (.int .i64 gt) := hG3.cell 0
    have m1 : w3.cell? ⟨w.heap.size, 1, none⟩ = some (.int .i64 (n : Int)) := hG3.cell 1
    have m2 : w3.cell? ⟨w.heap.size, 2, none⟩ = some (.int .i64 (s0 : Int)) := hG3.cell 2
    have m3 : w3.cell? ⟨w.heap.size, 3, none⟩ = some (.slice A rs.length c) := hG3.cell 3
    have hsl : s.length = n := hrf.len
    have HSl := Lib.hid hsl
    have hz3 : w2.heap.size < w3.heap.size := by have := hb3.size; simp at this; omega
    have hSlt : SB < w3.heap.size := hSB.lt
    have hSBge : w2.heap.size < SB := by simp at hSBge; omega
    have hmk := mkInts n (by omega)
    have HT4 := Lib.hid (Blk'.new w3 3 (icells (List.replicate n 0)))
    have HB4 := Lib.hid (HB3.out.alloc HB3.out.size (.cells (icells (List.replicate n 0)) 3))
    have hn9 : n ≤ 9223372036854775807 := by omega
    clear hrf hSB hb3 hG3 hsl HB2 HB2a HG2a HR2a HS2 HLB HR2 HG2 HL2 c0 k0 k1 k2 k3
    go_wp2_with fail
    go_loopw [10, 45] (fun v i wr => TrL1 s n w3.heap.size (w3.heap.size + 1) (w3.alloc (.cells (icells (List.replicate n 0)) 3)) v i wr) (fun _ i _ => n - (intOf i).toNat)
    case atStart => exact ⟨0, [], Nat.zero_le _, rfl, by simp, by simp, Own.nil _ _ _ _, by rw [toL_zero, HSl.out]; exact HT4.out, Kept.refl _ _⟩
    case round =>
      obtain ⟨wo, hwo⟩ : ∃ wo : World, wo = wr := ⟨_, rfl⟩
      subst hwo
      obtain ⟨k, out, hk, rfl, htf, hol, hown, hT, hkp⟩ := hrel
      have HTf := Lib.hid htf
      have HOl := Lib.hid hol
      have HO := Lib.hid hown
      have HT := Lib.hid hT
      have HK := Lib.hid hkp
      have hzo : w3.heap.size + 1 ≤ wo.heap.size := by have := hkp.size; simpa using this
      have hSo := HS3.out.kept (((Kept.refl (fun b => b = w3.heap.size) w3).alloc (.cells (icells (List.replicate n 0)) 3)).trans (hkp.mono (fun b _ h => h))) (by omega)
      have HSo := Lib.hid hSo
      have holn : out.length ≤ n := by have := List.count_le_length (a := true) (l := s.take k); rw [List.length_take, HSl.out] at this; omega
      clear htf hol hown hT hkp
      by_cases hlt : k < n
      · obtain ⟨b, hb⟩ := get_some (show k < s.length by rw [HSl.out]; exact hlt)
        have cb : wo.cell? ⟨SB, k, none⟩ = some (.bool b) := (hSo.cell _).trans (bcells_get hb)
        have HBk := Lib.hid hb
        have hk0 : (0 : Int) ≤ (k : Int) := by omega
        have hk1 : (k : Int) < (n : Int) := by omega
        have hSl2 : SB < wo.heap.size := by omega
        clear hb hSo
        cases b
        · have E1 := Lib.hid (show trueFrom 0 s = out ++ trueFrom (k + 1) (s.drop (k + 1)) by rw [HTf.out, trueFrom_cons HBk.out]; rfl)
          have E2 := Lib.hid (show out.length = (s.take (k + 1)).count true by rw [count_snoc HBk.out, HOl.out]; rfl)
          go_wp2
          go_roundw
          case rel => exact ⟨k + 1, out, hlt, by go_num, E1.out, E2.out, HO.out, by rw [toL_false HBk.out]; exact HT.out, HK.out⟩
          case measure => simp [intOf]; omega
        · have E1 := Lib.hid (show trueFrom 0 s = (out ++ [(k : Int)]) ++ trueFrom (k + 1) (s.drop (k + 1)) by rw [HTf.out, trueFrom_cons HBk.out]; simp)
          have E2 := Lib.hid (show (out ++ [(k : Int)]).length = (s.take (k + 1)).count true by rw [count_snoc HBk.out, List.length_append, HOl.out]; rfl)
          obtain ⟨tv, htv⟩ := get_some (show k < (toL s k).length by rw [toL_len, HSl.out]; exact hlt)
          have ct : wo.cell? ⟨w3.heap.size, k, none⟩ = some (.int .i64 tv) := (HT.out.cell _).trans (icells_get htv)
          have ft := HT.out.frozen k
          have hTlt : w3.heap.size < wo.heap.size := by omega
          obtain ⟨Av, cv, e1, _, _, _⟩ := HO.out.form
          subst e1
          have hcap1 : (out.length + 1) * 8 ≤ 140737488355328 := by omega
          have hcap2 : out.length + 1 ≤ 9223372036854775807 := by omega
          have HI : Hid (I64 (k : Int)) := Lib.hid ⟨by omega, by omega⟩
          have HO2 := Lib.hid ((HO.out.setCell (p := ⟨w3.heap.size, k, none⟩) (fun e => by have := (HO.out.block _ e).1; simp at this; omega) (by simp) (.int .i64 (out.length : Int))).alloc (.cells #[.int .i64 (k : Int)] 3))
          have HT2 : Hid (Blk' ((wo.setCell ⟨w3.heap.size, k, none⟩ (.int .i64 (out.length : Int))).alloc (.cells #[.int .i64 (k : Int)] 3)) w3.heap.size 3 (icells (toL s (k + 1)))) := Lib.hid (by
            have h := HT.out.set_ k (.int .i64 (out.length : Int))
            rw [icells_set] at h
            rw [toL_true HBk.out, ← HOl.out]
            exact h.alloc _)
          have HK2 := Lib.hid ((HK.out.setCell (p := ⟨w3.heap.size, k, none⟩) (.inl rfl) (.int .i64 (out.length : Int))).alloc (.cells #[.int .i64 (k : Int)] 3))
          clear htv
          go_wp2_with (at_builtin; refine wpList_own1 _ rfl _ _ elemInt rfl rfl HO2.out (k : Int) [.int .i64 (k : Int)] rfl (by have h := At.new (wo.setCell ⟨w3.heap.size, k, none⟩ (.int .i64 (out.length : Int))) [.int .i64 (k : Int)] 3; simpa [World.setCell] using h) ⟨rfl, HI.out⟩ hcap1 hcap2 (by simp [World.setCell]; omega) ?_; intro v' w5 hown5 hg5 hat5; have H5 := Lib.hid (And.intro hown5 hg5); clear hown5 hg5 hat5)
          go_roundw
          case rel => exact ⟨k + 1, out ++ [(k : Int)], hlt, by go_num, E1.out, E2.out, H5.out.1, HT2.out.grown H5.out.2 (fun e => by have := (HO.out.block _ e.symm).1; omega), HK2.out.grown H5.out.2 (fun b hb => .inr (by have := (HO.out.block _ hb).1; simp; omega))⟩
          case measure => simp [intOf]; omega
      · have hkn : k = n := by omega
        subst hkn
        obtain ⟨Av, cv, e1, _, _, _⟩ := HO.out.form
        subst e1
        have E1 := Lib.hid (show trueFrom 0 s = out by rw [HTf.out, List.drop_of_length_le (by rw [HSl.out]; omega), trueFrom, List.append_nil])
        have E2 := Lib.hid (show out.length = s.count true by rw [HOl.out, List.take_of_length_le (by rw [HSl.out]; omega)])
        have hkp2 : Kept (fun b => b = w3.heap.size) w3 wo := ((Kept.refl (fun b => b = w3.heap.size) w3).alloc (.cells (icells (List.replicate k 0)) 3)).trans (HK.out.mono (fun b _ h => h))
        have HBo := Lib.hid (show Below w.heap.size w wo from HB3.out.trans (hkp2.to_below (fun b hb => by omega) HB3.out.size))
        have hGo := HG3.out.kept hkp2 (by omega)
        have HGo := Lib.hid hGo
        have HRo := Lib.hid (HR3.out.kept hkp2 (by have := HR3.out.lt; omega))
        have HLBo := Lib.hid (HLB3.out.kept hkp2 (by omega) (by omega))
        have n0 : wo.cell? ⟨w.heap.size, 0, none⟩ = some (.int .i64 gt) := hGo.cell 0
        have n2 : wo.cell? ⟨w.heap.size, 2, none⟩ = some (.int .i64 (s0 : Int)) := hGo.cell 2
        have n3 : wo.cell? ⟨w.heap.size, 3, none⟩ = some (.slice A rs.length c) := hGo.cell 3
        have HToL : Hid (∀ i, i < k → (toL s k)[i]? = some (toV s i : Int)) := Lib.hid (fun i hi => by rw [toL_get (by rw [HSl.out]; exact hi), if_pos hi])
        have ct : wo.cell? ⟨w3.heap.size, s0, none⟩ = some (.int .i64 (toV s s0 : Int)) := (HT.out.cell _).trans (icells_get (HToL.out s0 hs0))
        have hGlo : w.heap.size < wo.heap.size := by omega
        have hGlo2 : w.heap.size < wo.heap.size + 1 := by omega
        have hTlo : w3.heap.size < wo.heap.size := by omega
        have hTlo2 : w3.heap.size < wo.heap.size + 1 := by omega
        have htvb : Hid (∀ i, toV s i ≤ k) := Lib.hid (fun i => by unfold toV; split; (have := List.count_le_length (a := true) (l := s.take i); rw [List.length_take, HSl.out] at this; omega); omega)
        have hrl9 : rs.length ≤ 9223372036854775807 := by omega
        have HTw0 := Lib.hid (Two.nil (α := Rule) (β := Int) (wo.alloc (.cells #[.int .i64 gt, .int .i64 ((s.count true : Nat) : Int), .int .i64 ((toV s s0 : Nat) : Int), .slice none 0 0] 25)).drew (fun _ => False) (wo.heap.size + 1) 57 3)
        have HOB0 := Lib.hid ((Blk'.new wo 25 #[.int .i64 gt, .int .i64 ((s.count true : Nat) : Int), .int .i64 ((toV s s0 : Nat) : Int), .slice none 0 0]).drew)
        have HBb0 := Lib.hid (((Below.refl wo.heap.size wo).alloc (Nat.le_refl _) (.cells #[.int .i64 gt, .int .i64 ((s.count true : Nat) : Int), .int .i64 ((toV s s0 : Nat) : Int), .slice none 0 0] 25)).drew)
        clear hkp2 hGo HG3 HR3 HLB3 HB3 HB4 HT4 hmk m0 m1 m2 m3 hSo HTf HOl
        go_wp2_with fail
        go_region
        all_goals
          go_wp2_with fail
          rw [E2.out]
          go_loopw [11, 74] (fun v i wr => TrL2 ⟨gt, (k : Int), (s0 : Int), rs⟩ l s wo v i wr) (fun _ i _ => rs.length - (intOf i).toNat)
          case atStart => exact ⟨0, [], [], .slice none 0 0, Nat.zero_le _, rfl, by simp, by simp, by simp, rfl, HTw0.out, HOB0.out, HBb0.out⟩
          case round =>
            obtain ⟨wp, hwp⟩ : ∃ wp : World, wp = wr := ⟨_, rfl⟩
            subst hwp
            obtain ⟨j, nums, rs', vs, hj, rfl, hnl, hrl', hwh, hfl, htw, hOB, hbp⟩ := hrel
            dsimp only at hj hwh hfl hOB
            rw [show ((s0 : Int)).toNat = s0 from by omega] at hOB
            have HWh := Lib.hid hwh
            have HFl := Lib.hid hfl
            have HTw := Lib.hid htw
            have HOB := Lib.hid hOB
            have HBp := Lib.hid hbp
            have hzp : wo.heap.size < wp.heap.size := hOB.lt
            clear hwh hfl htw hOB hbp HTw0 HOB0 HBb0
            by_cases hlt2 : j < rs.length
            · obtain ⟨q, hq⟩ := get_some hlt2
              have HBwp := Lib.hid (bthen HBo.out HBp.out HBo.out.size)
              obtain ⟨bq, oq, Aq, cq, rfl, hSb, hbs, hi, hrc, hcr, hEr, hc0, hc1⟩ := (HA.out.belowB HBwp.out HS.out).rule hq
              obtain ⟨hl0, hl1, hr4, hsy⟩ := HRI.out q (List.mem_of_getElem? hq)
              have HQ := Lib.hid (And.intro hq hsy)
              have Hd := Lib.hid (drop_cons hq)
              obtain ⟨ql, qr⟩ := q
              dsimp only at hi hrc hcr hEr hc0 hc1 hl0 hl1 hr4 hsy
              have hj0 : (0 : Int) ≤ (j : Int) := by omega
              have hj1 : (j : Int) < (rs.length : Int) := by omega
              obtain ⟨x, hx⟩ := get_some (show ql.toNat < s.length by rw [HSl.out]; omega)
              have HX := Lib.hid hx
              have hSp := HSo.out.below HBp.out HSo.out.lt
              have hTp := HT.out.below HBp.out HT.out.lt
              have hba : Below wp.heap.size wp (wp.alloc (.cells #[.int .i64 ql, .slice Aq qr.length cq] 57)) := (Below.refl _ _).alloc (Nat.le_refl _) _
              have HBa := Lib.hid hba
              have HQB := Lib.hid (Blk'.new wp 57 #[.int .i64 ql, .slice Aq qr.length cq])
              have HEr := Lib.hid (hEr.below hba)
              have HTwa := Lib.hid (HTw.out.below hba (Nat.le_refl _))
              have HOBa := Lib.hid (HOB.out.below hba HOB.out.lt)
              have HBpa := Lib.hid (bthen HBp.out hba HBp.out.size)
              have HSp := Lib.hid (hSp.below hba hSp.lt)
              have HTp := Lib.hid (hTp.below hba hTp.lt)
              have HLBp := Lib.hid ((HLBo.out.below HBp.out).below hba)
              have hSBp : SB < wp.heap.size := hSp.lt
              have hSBp2 : SB < wp.heap.size + 1 := by omega
              have hqn : ql < (k : Int) := by omega
              have cx : wp.cell? ⟨SB, ql.toNat, none⟩ = some (.bool x) := (hSp.cell _).trans (bcells_get hx)
              clear hq hsy hx hba hEr hi hSp hTp
              cases x
              · have hst : stayB l s ⟨ql, qr⟩ = false := by unfold stayB; rw [getD_of HX.out]; rfl
                have HW2 := Lib.hid (show whereFrom (stayB l s) 0 rs = nums ++ whereFrom (stayB l s) (j + 1) (rs.drop (j + 1)) by rw [HWh.out, Hd.out, whereFrom, hst]; rfl)
                have HF2 := Lib.hid (show (trimG ⟨gt, (k : Int), (s0 : Int), rs⟩ l s).rules = rs' ++ ((rs.drop (j + 1)).filter (stayB l s)).map (trimRule s) by rw [HFl.out, Hd.out, List.filter_cons_of_neg (by rw [hst]; simp)])
                clear hst
                go_wp2
                go_roundw
                case rel => exact ⟨j + 1, nums, rs', vs, hlt2, by go_num, by omega, by omega, HW2.out, HF2.out, HTwa.out, HOBa.out, HBpa.out⟩
                case measure => simp [intOf]; omega
              · go_wp2_with fail
                refine (use_any w2.heap.size L k l ⟨ql, qr⟩ Aq cq S _ HLBp.out (by omega) HQ.out.2 hrc hcr HEr.out).mono ?_
                rintro e w7 ⟨rfl, hb7⟩
                have hQ7 := HQB.out.below hb7 HQB.out.lt
                have d0 : w7.cell? ⟨wp.heap.size, 0, none⟩ = some (.int .i64 ql) := hQ7.cell 0
                have d1 : w7.cell? ⟨wp.heap.size, 1, none⟩ = some (.slice Aq qr.length cq) := hQ7.cell 1
                have HEr7 := Lib.hid (HEr.out.below hb7)
                have HTw7 := Lib.hid (HTwa.out.below hb7 (Nat.le_refl _))
                have HOB7 := Lib.hid (HOBa.out.below hb7 HOBa.out.lt)
                have HBp7 := Lib.hid (bthen HBpa.out hb7 HBpa.out.size)
                have hT7 := HTp.out.below hb7 HTp.out.lt
                have HT7 := Lib.hid hT7
                have hz7 : wp.heap.size < w7.heap.size := hQ7.lt
                have hQ7l := hQ7.lt
                clear hb7 hQ7 HEr HTwa HOBa HBpa HLBp cx hc0 hc1
                cases hu : useB l ⟨ql, qr⟩
                · have hst : stayB l s ⟨ql, qr⟩ = false := by unfold stayB; rw [getD_of HX.out, hu]; rfl
                  have HW2 := Lib.hid (show whereFrom (stayB l s) 0 rs = nums ++ whereFrom (stayB l s) (j + 1) (rs.drop (j + 1)) by rw [HWh.out, Hd.out, whereFrom, hst]; rfl)
                  have HF2 := Lib.hid (show (trimG ⟨gt, (k : Int), (s0 : Int), rs⟩ l s).rules = rs' ++ ((rs.drop (j + 1)).filter (stayB l s)).map (trimRule s) by rw [HFl.out, Hd.out, List.filter_cons_of_neg (by rw [hst]; simp)])
                  clear hst hu hT7
                  go_wp2
                  go_roundw
                  case rel => exact ⟨j + 1, nums, rs', vs, hlt2, by go_num, by omega, by omega, HW2.out, HF2.out, HTw7.out, HOB7.out, HBp7.out⟩
                  case measure => simp [intOf]; omega
                · have hst : stayB l s ⟨ql, qr⟩ = true := by unfold stayB; rw [getD_of HX.out, hu]; rfl
                  have HW2 := Lib.hid (show whereFrom (stayB l s) 0 rs = (nums ++ [(j : Int)]) ++ whereFrom (stayB l s) (j + 1) (rs.drop (j + 1)) by rw [HWh.out, Hd.out, whereFrom, hst]; simp)
                  have HF2 := Lib.hid (show (trimG ⟨gt, (k : Int), (s0 : Int), rs⟩ l s).rules = (rs' ++ [trimRule s ⟨ql, qr⟩]) ++ ((rs.drop (j + 1)).filter (stayB l s)).map (trimRule s) by rw [HFl.out, Hd.out, List.filter_cons_of_pos hst]; simp)
                  have HIn := Lib.hid (fun x hx ht => HTS.out.reach.closed (List.mem_of_getElem? HQ.out.1) HX.out hu (x := x) hx ht ((HQ.out.2 x hx).2 ht))
                  have cl : w7.cell? ⟨w3.heap.size, ql.toNat, none⟩ = some (.int .i64 (toV s ql.toNat : Int)) := (hT7.cell _).trans (icells_get (HToL.out _ (by omega)))
                  have HXB := Lib.hid (Blk'.new w7 57 #[.int .i64 (toV s ql.toNat : Int), .slice none 0 0])
                  have HXl := Lib.hid ((Below.refl w7.heap.size w7).alloc (Nat.le_refl _) (.cells #[.int .i64 (toV s ql.toNat : Int), .slice none 0 0] 57))
                  have hT7l : w3.heap.size < w7.heap.size := by omega
                  have hqlen : qr.length ≤ 9223372036854775807 := by omega
                  clear hst hu hT7
                  go_wp2_with fail
                  go_loopw [100] (fun i wr => TrL3 s qr (toV s ql.toNat : Int) w7 i wr) (fun i _ => qr.length - (intOf i).toNat)
                  case atStart => exact ⟨0, .slice none 0 0, Nat.zero_le _, rfl, HXl.out, HXB.out, Own.nil _ _ _ _⟩
                  case round =>
                    obtain ⟨wz, hwz⟩ : ∃ wz : World, wz = wr := ⟨_, rfl⟩
                    subst hwz
                    obtain ⟨m, vx, hm, rfl, hbz, hXz, hoz⟩ := hrel
                    have HBz := Lib.hid hbz
                    have HXz := Lib.hid hXz
                    have HOz := Lib.hid hoz
                    have x1 : wz.cell? ⟨w7.heap.size, 1, none⟩ = some vx := hXz.cell 1
                    have hsz : w7.heap.size < wz.heap.size := hXz.lt
                    have hTz := HT7.out.below hbz HT7.out.lt
                    obtain ⟨Ax, cxx, e1, _, _, _⟩ := hoz.form
                    subst e1
                    have hml : ((qr.take m).map (renSym s)).length = m := by simp; omega
                    have HMl := Lib.hid hml
                    by_cases hmq : m < qr.length
                    · obtain ⟨y, hy⟩ := get_some hmq
                      have Hts := Lib.hid (show (qr.take (m + 1)).map (renSym s) = (qr.take m).map (renSym s) ++ [renSym s y] by rw [take_snoc hy, List.map_append]; rfl)
                      have hsr := HQ.out.2 y (List.mem_of_getElem? hy)
                      have hE7 := HEr7.out.below HBz.out
                      obtain ⟨by_, oy, rfl, hSy, hbsy, hyi, hyc0, hyc1⟩ := hE7.sym hy
                      obtain ⟨yt, yn⟩ := y
                      dsimp only at hyi hyc0 hyc1 hsr
                      have hm0 : (0 : Int) ≤ (m : Int) := by omega
                      have hy0 : 0 ≤ yn := hsr.1
                      have f1 := HXz.out.frozen 1
                      have hcap1 : (((qr.take m).map (renSym s)).length + 1) * 16 ≤ 140737488355328 := by rw [hml]; omega
                      have hcap2 : ((qr.take m).map (renSym s)).length + 1 ≤ 9223372036854775807 := by rw [hml]; omega
                      have HCap := Lib.hid (And.intro hcap1 hcap2)
                      have hz2 : w7.heap.size < wz.heap.size + 1 := by omega
                      have hz4 : w7.heap.size < wz.heap.size + 1 + 1 := by omega
                      clear hy hoz hXz hbz hcap1 hcap2 hml
                      cases yt
                      · have hy1 : yn.toNat < k := hsr.2 rfl
                        have hy2 : yn < (k : Int) := by omega
                        have cv : wz.cell? ⟨w3.heap.size, yn.toNat, none⟩ = some (.int .i64 (toV s yn.toNat : Int)) := (hTz.cell _).trans (icells_get (HToL.out _ hy1))
                        have hT8 : w3.heap.size < wz.heap.size := by omega
                        have hT9 : w3.heap.size < wz.heap.size + 1 := by omega
                        have HRs := Lib.hid (show renSym s ⟨false, yn⟩ = ⟨false, (toV s yn.toNat : Int)⟩ from rfl)
                        have HI : Hid (I64 (toV s yn.toNat : Int)) := Lib.hid (by have := htvb.out yn.toNat; unfold I64; omega)
                        have HOa := Lib.hid ((HOz.out.alloc (.cells #[.bool false, .int .i64 (toV s yn.toNat : Int)] 69)).alloc (.cells #[.bool false, .int .i64 (toV s yn.toNat : Int)] 69))
                        have HXa := Lib.hid ((HXz.out.alloc (.cells #[.bool false, .int .i64 (toV s yn.toNat : Int)] 69)).alloc (.cells #[.bool false, .int .i64 (toV s yn.toNat : Int)] 69))
                        have HBa8 := Lib.hid (((HBz.out.alloc (by omega) (.cells #[.bool false, .int .i64 (toV s yn.toNat : Int)] 69)).alloc (by simp; omega) (.cells #[.bool false, .int .i64 (toV s yn.toNat : Int)] 69)))
                        clear hsr hTz
                        go_wp2_with (at_builtin; rw [← HMl.out]; refine wpList_own1 _ rfl _ _ elemSym rfl rfl HOa.out ⟨false, (toV s yn.toNat : Int)⟩ [.bool false, .int .i64 (toV s yn.toNat : Int)] rfl (by have h := At.new1 wz [.bool false, .int .i64 (toV s yn.toNat : Int)] 69 (.cells #[.bool false, .int .i64 (toV s yn.toNat : Int)] 69); exact h) ⟨rfl, HI.out⟩ HCap.out.1 HCap.out.2 (by simp; omega) ?_; intro v' w9 hown9 hg9 hat9; obtain ⟨A9, k9, hv9, _⟩ := hown9.form; subst hv9; have hX9 := HXa.out.grown hg9 (fun e => by have := (HOz.out.block _ e.symm).1; omega); have c9 := hX9.cell 1; have f9 := hX9.frozen 1; have H9 := Lib.hid (And.intro hown9 (And.intro hg9 hX9)); clear hown9 hg9 hat9 hX9; simp at c9)
                        go_roundw
                        case rel => exact ⟨m + 1, _, hmq, by go_num, (HBa8.out.grown H9.out.2.1 (by simp; omega) (fun b hb => by have := (HOz.out.block b hb).1; omega)).setCell (p := ⟨w7.heap.size, 1, none⟩) (Nat.le_refl _) _, H9.out.2.2.set_ 1 _, by
                          have h := H9.out.1.setCell (p := ⟨w7.heap.size, 1, none⟩) (fun e => by have := (H9.out.1.block _ e).1; simp at this; omega) (by simp) (.slice A9 (m + 1) k9)
                          rw [List.length_append, HMl.out] at h
                          rw [Hts.out, HRs.out]
                          exact h⟩
                        case measure => simp [intOf]; omega
                      · have HRs := Lib.hid (show renSym s ⟨true, yn⟩ = ⟨true, yn⟩ from rfl)
                        have HI : Hid (I64 yn) := Lib.hid hyi
                        have HOa := Lib.hid ((HOz.out.alloc (.cells #[.bool true, .int .i64 yn] 69)).alloc (.cells #[.bool true, .int .i64 yn] 69))
                        have HXa := Lib.hid ((HXz.out.alloc (.cells #[.bool true, .int .i64 yn] 69)).alloc (.cells #[.bool true, .int .i64 yn] 69))
                        have HBa8 := Lib.hid (((HBz.out.alloc (by omega) (.cells #[.bool true, .int .i64 yn] 69)).alloc (by simp; omega) (.cells #[.bool true, .int .i64 yn] 69)))
                        clear hsr hTz
                        go_wp2_with (at_builtin; rw [← HMl.out]; refine wpList_own1 _ rfl _ _ elemSym rfl rfl HOa.out ⟨true, yn⟩ [.bool true, .int .i64 yn] rfl (by have h := At.new1 wz [.bool true, .int .i64 yn] 69 (.cells #[.bool true, .int .i64 yn] 69); exact h) ⟨rfl, HI.out⟩ HCap.out.1 HCap.out.2 (by simp; omega) ?_; intro v' w9 hown9 hg9 hat9; obtain ⟨A9, k9, hv9, _⟩ := hown9.form; subst hv9; have hX9 := HXa.out.grown hg9 (fun e => by have := (HOz.out.block _ e.symm).1; omega); have c9 := hX9.cell 1; have f9 := hX9.frozen 1; have H9 := Lib.hid (And.intro hown9 (And.intro hg9 hX9)); clear hown9 hg9 hat9 hX9; simp at c9)
                        go_roundw
                        case rel => exact ⟨m + 1, _, hmq, by go_num, (HBa8.out.grown H9.out.2.1 (by simp; omega) (fun b hb => by have := (HOz.out.block b hb).1; omega)).setCell (p := ⟨w7.heap.size, 1, none⟩) (Nat.le_refl _) _, H9.out.2.2.set_ 1 _, by
                          have h := H9.out.1.setCell (p := ⟨w7.heap.size, 1, none⟩) (fun e => by have := (H9.out.1.block _ e).1; simp at this; omega) (by simp) (.slice A9 (m + 1) k9)
                          rw [List.length_append, HMl.out] at h
                          rw [Hts.out, HRs.out]
                          exact h⟩
                        case measure => simp [intOf]; omega
                    · have hmx : m = qr.length := by omega
                      subst hmx
                      have hlen : ((qr.take qr.length).map (renSym s)).length = qr.length := by simp
                      have hXc : Blk' wz w7.heap.size 57 #[.int .i64 (toV s ql.toNat : Int), .slice Ax qr.length cxx] := by have h := HXz.out; rw [hlen] at h; exact h
                      have HOc := Lib.hid (show Own wz (fun _ => False) (w7.heap.size + 1) 69 (.slice Ax qr.length cxx) (qr.map (renSym s)) by have h := HOz.out; rw [hlen, List.take_length] at h; exact h)
                      have hOBz := HOB7.out.below HBz.out HOB7.out.lt
                      have HOBz := Lib.hid hOBz
                      have ob3 : wz.cell? ⟨wo.heap.size, 3, none⟩ = some vs := hOBz.cell 3
                      have HTwz := Lib.hid (HTw7.out.below HBz.out (Nat.le_refl _))
                      have HBpz := Lib.hid (bthen HBp7.out HBz.out HBp7.out.size)
                      obtain ⟨Avs, cvs, e1, _⟩ := HTwz.out.1.form
                      subst e1
                      obtain ⟨Avr, cvr, e1, _⟩ := HTwz.out.2.1.form
                      subst e1
                      have y0 : wz.cell? ⟨w7.heap.size, 0, none⟩ = some (.int .i64 (toV s ql.toNat : Int)) := hXc.cell 0
                      have y1 : wz.cell? ⟨w7.heap.size, 1, none⟩ = some (.slice Ax qr.length cxx) := hXc.cell 1
                      have HTa := Lib.hid (HTwz.out.alloc (.cells #[.int .i64 (toV s ql.toNat : Int), .slice Ax qr.length cxx] 57))
                      have HOBa := Lib.hid (hOBz.alloc (.cells #[.int .i64 (toV s ql.toNat : Int), .slice Ax qr.length cxx] 57))
                      have HBpb := Lib.hid (HBpz.out.alloc HBpz.out.size (.cells #[.int .i64 (toV s ql.toNat : Int), .slice Ax qr.length cxx] 57))
                      have hIt : I64 (toV s ql.toNat : Int) := by have := htvb.out ql.toNat; unfold I64; omega
                      have HRd : Hid (Dat.rd (wz.alloc (.cells #[.int .i64 (toV s ql.toNat : Int), .slice Ax qr.length cxx] 57)) (T2 (fun _ => False) (wo.heap.size + 1) (.slice Avs rs'.length cvs) (.slice Avr nums.length cvr) (wz.alloc (.cells #[.int .i64 (toV s ql.toNat : Int), .slice Ax qr.length cxx] 57))) (trimRule s ⟨ql, qr⟩) [.int .i64 (toV s ql.toNat : Int), .slice Ax qr.length cxx]) := Lib.hid ⟨_, rfl, hIt, (HOc.out.vl.below ((Below.refl _ _).alloc (Nat.le_refl _) _)).mono (fun b hb => ⟨.inr (by have := hb.1; simp at this; omega), fun e => by have := (HTw7.out.1.block b e).2; have := hb.1; simp at this; omega, fun e => by have := (HTw7.out.2.1.block b e).2; have := hb.1; simp at this; omega, by have := hb.2; simp; omega⟩)⟩
                      have hcr1 : (rs'.length + 1) * 32 ≤ 140737488355328 := by omega
                      have hcr2 : rs'.length + 1 ≤ 9223372036854775807 := by omega
                      have hcn1 : (nums.length + 1) * 8 ≤ 140737488355328 := by omega
                      have hcn2 : nums.length + 1 ≤ 9223372036854775807 := by omega
                      have HCap := Lib.hid (And.intro hcr1 (And.intro hcr2 (And.intro hcn1 hcn2)))
                      have HIj : Hid (I64 (j : Int)) := Lib.hid ⟨by omega, by omega⟩
                      have hwz1 : wo.heap.size + 1 ≤ wz.heap.size := by omega
                      clear hoz hXz hbz hml hTz hXc x1 hOBz hlen hcr1 hcr2 hcn1 hcn2 hIt
                      go_wp2_with (first
                        | (at_builtin; refine wpList_two1 _ rfl _ _ elemRule rfl rfl HTa.out (trimRule s ⟨ql, qr⟩) [.int .i64 (toV s ql.toNat : Int), .slice Ax qr.length cxx] rfl (At.new wz [.int .i64 (toV s ql.toNat : Int), .slice Ax qr.length cxx] 57) HRd.out HCap.out.1 HCap.out.2.1 (by simp; omega) ?_; intro v1' w9 htw9 hg9 hat9; obtain ⟨A9, k9, hv9, _⟩ := htw9.1.form; subst hv9; have HT10 := Lib.hid (htw9.swap.alloc (.cells #[.int .i64 (j : Int)] 3)); have HOB10 := Lib.hid ((HOBa.out.grown hg9 (fun e => by have := (HTw7.out.1.block _ e.symm).1; omega)).alloc (.cells #[.int .i64 (j : Int)] 3)); have HB10 := Lib.hid (((HBpb.out.grown hg9 (by simp; omega) (fun b hb => by have := (HTw7.out.1.block b hb).1; omega))).alloc (by have := hg9.size; simp at this; omega) (.cells #[.int .i64 (j : Int)] 3)); have hz9 : wo.heap.size + 1 ≤ w9.heap.size := (by have := hg9.size; simp at this; omega); clear htw9 hg9 hat9)
                        | (at_builtin; refine wpList_two1 _ rfl _ _ elemInt rfl rfl HT10.out (j : Int) [.int .i64 (j : Int)] rfl (At.new w9 [.int .i64 (j : Int)] 3) ⟨rfl, HIj.out⟩ HCap.out.2.2.1 HCap.out.2.2.2 (by simp; omega) ?_; intro v2' w11 htw11 hg11 hat11; obtain ⟨A11, k11, hv11, _⟩ := htw11.1.form; subst hv11; have hO11 := HOB10.out.grown hg11 (fun e => by have := (HTw7.out.2.1.block _ e.symm).1; omega); have c11 := hO11.cell 3; have f11 := hO11.frozen 3; have H11 := Lib.hid (And.intro htw11 (And.intro hg11 hO11)); clear htw11 hg11 hat11 hO11; simp at c11))
                      go_roundw
                      case rel => exact ⟨j + 1, nums ++ [(j : Int)], rs' ++ [trimRule s ⟨ql, qr⟩], _, hlt2, by go_num, by simp; omega, by simp; omega, HW2.out, HF2.out, by
                        have h := H11.out.1.swap.set_ (p := ⟨wo.heap.size, 3, none⟩) (by simp) (.slice A9 (rs'.length + 1) k9)
                        rw [snoc_len, snoc_len] at h
                        exact h, H11.out.2.2.set_ 3 _, ((HB10.out.grown H11.out.2.1 (by simp; omega) (fun b hb => by have := (HTw7.out.2.1.block b hb).1; omega))).setCell (p := ⟨wo.heap.size, 3, none⟩) (Nat.le_refl _) _⟩
                      case measure => simp [intOf]; omega
            · have hjn : j = rs.length := by omega
              have HRules := Lib.hid (show (trimG ⟨gt, (k : Int), (s0 : Int), rs⟩ l s).rules = rs' by rw [HFl.out, hjn, List.drop_length]; simp)
              have HNums := Lib.hid (show whereFrom (stayB l s) 0 rs = nums by rw [HWh.out, hjn, List.drop_length]; simp [whereFrom])
              have HRp := Lib.hid (HRo.out.below HBp.out HRo.out.lt)
              have r0 := HRp.out.frozen 0
              have r1 := HRp.out.frozen 1
              have r2 := HRp.out.frozen 2
              have r3 := HRp.out.frozen 3
              have q0 : wp.cell? ⟨w.heap.size + 1, 0, none⟩ = some (.int .i64 0) := HRp.out.cell 0
              have q1 : wp.cell? ⟨w.heap.size + 1, 1, none⟩ = some (.int .i64 0) := HRp.out.cell 1
              have q2 : wp.cell? ⟨w.heap.size + 1, 2, none⟩ = some (.int .i64 0) := HRp.out.cell 2
              have q3 : wp.cell? ⟨w.heap.size + 1, 3, none⟩ = some (.slice none 0 0) := HRp.out.cell 3
              have o0 : wp.cell? ⟨wo.heap.size, 0, none⟩ = some (.int .i64 gt) := HOB.out.cell 0
              have o1 : wp.cell? ⟨wo.heap.size, 1, none⟩ = some (.int .i64 ((s.count true : Nat) : Int)) := HOB.out.cell 1
              have o2 : wp.cell? ⟨wo.heap.size, 2, none⟩ = some (.int .i64 ((toV s s0 : Nat) : Int)) := HOB.out.cell 2
              have o3 : wp.cell? ⟨wo.heap.size, 3, none⟩ = some vs := HOB.out.cell 3
              obtain ⟨Avs, cvs, e1, _⟩ := HTw.out.1.form
              subst e1
              obtain ⟨Avr, cvr, e1, _⟩ := HTw.out.2.1.form
              subst e1
              have hz := ((((HRp.out.set_ 0 (.int .i64 gt)).set_ 1 (.int .i64 ((s.count true : Nat) : Int))).set_ 2 (.int .i64 ((toV s s0 : Nat) : Int))).set_ 3 (.slice Avs rs'.length cvs))
              have z0 := hz.cell 0
              have z1 := hz.cell 1
              have z2 := hz.cell 2
              have z3 := hz.cell 3
              simp at z0 z1 z2 z3
              have HBwp := Lib.hid (bthen HBo.out HBp.out HBo.out.size)
              have HBz := Lib.hid (((((HBwp.out.setCell (p := ⟨w.heap.size + 1, 0, none⟩) (by simp) (.int .i64 gt)).setCell (p := ⟨w.heap.size + 1, 1, none⟩) (by simp) (.int .i64 ((s.count true : Nat) : Int))).setCell (p := ⟨w.heap.size + 1, 2, none⟩) (by simp) (.int .i64 ((toV s s0 : Nat) : Int))).setCell (p := ⟨w.heap.size + 1, 3, none⟩) (by simp) (.slice Avs rs'.length cvs)))
              have HKz := Lib.hid (((((Kept.refl (fun b => b = w.heap.size + 1) wp).setCell (p := ⟨w.heap.size + 1, 0, none⟩) (.inl rfl) (.int .i64 gt)).setCell (p := ⟨w.heap.size + 1, 1, none⟩) (.inl rfl) (.int .i64 ((s.count true : Nat) : Int))).setCell (p := ⟨w.heap.size + 1, 2, none⟩) (.inl rfl) (.int .i64 ((toV s s0 : Nat) : Int))).setCell (p := ⟨w.heap.size + 1, 3, none⟩) (.inl rfl) (.slice Avs rs'.length cvs))
              have hrz : w.heap.size + 1 < wp.heap.size := by omega
              have hoz : wo.heap.size < wp.heap.size := hzp
              clear hz
              go_wp2
              refine bodyPost_ret (v := .tuple #[.agg #[.int .i64 gt, .int .i64 ((s.count true : Nat) : Int), .int .i64 ((toV s s0 : Nat) : Int), .slice Avs rs'.length cvs], .slice Av (s.count true) cv, .slice Avr nums.length cvr, .int .i64 0]) (by simp [results, Tryd.results19, go_sem, z0, z1, z2, z3]) rfl (.inl ⟨l, s, _, _, _, HTS.out, rfl, ?_, ?_, ?_, HBz.out⟩)
              · have hcn : s.count true ≤ k := by have := List.count_le_length (a := true) (l := s); rw [HSl.out] at this; exact this
                have ht8 := HV.out.t8
                have ht1 := HV.out.t1
                dsimp only at ht8 ht1
                have hvs := (HTw.out.vl1.kept HKz.out (fun b hb h => by have := hb.1; simp at this; omega)).mono (S' := fun b => w.heap.size ≤ b ∧ b < ((((wp.setCell ⟨w.heap.size + 1, 0, none⟩ (.int .i64 gt)).setCell ⟨w.heap.size + 1, 1, none⟩ (.int .i64 ((s.count true : Nat) : Int))).setCell ⟨w.heap.size + 1, 2, none⟩ (.int .i64 ((toV s s0 : Nat) : Int))).setCell ⟨w.heap.size + 1, 3, none⟩ (.slice Avs rs'.length cvs)).heap.size) (fun b hb => ⟨by have := hb.1; simp at this; omega, by have := hb.2; simpa [World.setCell] using this⟩)
                exact Vl.of_gram (g := trimG ⟨gt, (k : Int), (s0 : Int), rs⟩ l s) (by show I64 gt; unfold I64; omega) (by show I64 ((s.count true : Nat) : Int); unfold I64; omega) (by show I64 ((toV s ((s0 : Int)).toNat : Nat) : Int); have := htvb.out ((s0 : Int)).toNat; unfold I64; omega) (by rw [HRules.out]; exact hvs)
              · have h := ((HO.out.below HBp.out (Nat.le_refl _)).kept_int (S' := fun _ => False) HKz.out (fun b hb h => by have := (HO.out.block b hb).1; omega)).base (show w.heap.size ≤ w3.heap.size + 1 by omega)
                rw [E1.out]
                rw [E2.out] at h
                exact h
              · have h := ((HTw.out.2.1.own (S := fun _ => False) (fun b hb => hb.1)).kept_int (S' := fun _ => False) HKz.out (fun b hb h => by have := (HTw.out.2.1.block b hb).1; omega)).base (show w.heap.size ≤ wo.heap.size + 1 by omega)
                show Own _ _ _ _ _ (whereFrom (stayB l s) 0 rs)
                rw [HNums.out]
                exact h
end Go.Proofs.YtnlpeiffbnlncaaDoor
