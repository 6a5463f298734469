/- Contract: useful.lengths. -/
import Derived.Test.YtnlpeiffbnlncaaDoorQIntRow
import Derived.Test.YtnlpeiffbnlncaaDoorQp2
import Derived.Test.YtnlpeiffbnlncaaDoorQp1
import Derived.Deep.LoopGhost
namespace Go.Proofs.YtnlpeiffbnlncaaDoor
open Go.RowKit
set_option linter.unusedVariables false

def RetLen (g : Gram) (n : Nat) (w : World) (e : Ending) (w' : World) : Prop :=
  ∃ b l, e = .returned (.slice (some ⟨b, 0, none⟩) n n) ∧ LFix g n l ∧ Blk' w' b 3 (icells l) ∧ w.heap.size ≤ b ∧ Below w.heap.size w w'
def LenO (w : World) (g : Gram) (n O : Nat) (gc : Array Value) (gk : Nat) (ag : Value) (wr : World) : Prop :=
  ∃ (k : Nat) (l : List Int) (b : Bool), ag = .bool b ∧ Blk' wr O 3 (icells l) ∧ LShape n l ∧ l = lenIter g.rules k (lenInit n) ∧ (b = false → ∀ q ∈ g.rules, lenStep l q = l) ∧ lenFuel l + (if b then 1 else 0) ≤ gk ∧ Below w.heap.size w wr ∧ Blk' wr w.heap.size 25 gc
def LenI (w : World) (rs : List Rule) (n O : Nat) (gc : Array Value) (l0 : List Int) (ag i : Value) (wr : World) : Prop :=
  ∃ (j : Nat) (l : List Int) (b : Bool), j ≤ rs.length ∧ i = .int .i64 j ∧ ag = .bool b ∧ Blk' wr O 3 (icells l) ∧ LShape n l ∧ l = lenPass (rs.take j) l0 ∧ (b = false → l = l0 ∧ ∀ q ∈ rs.take j, lenStep l0 q = l0) ∧ (b = true → lenFuel l < lenFuel l0) ∧ Below w.heap.size w wr ∧ Blk' wr w.heap.size 25 gc
def LenS (wq : World) (l : List Int) (right : List Sym) (s i : Value) (wr : World) : Prop :=
  ∃ (m : Nat) (a : Int), m ≤ right.length ∧ i = .int .i64 m ∧ s = .int .i64 a ∧ sumR l 0 right = sumR l a (right.drop m) ∧ -1 ≤ a ∧ a ≤ (m : Int) * 1048576 ∧ Below wq.heap.size wq wr

theorem lenPass_take {rs : List Rule} {j : Nat} {q : Rule} (l0 : List Int) (h : rs[j]? = some q) : lenPass (rs.take (j + 1)) l0 = lenStep (lenPass (rs.take j) l0) q := by
  unfold lenPass
  rw [take_snoc h, List.foldl_append]; rfl
theorem lenFuel_pass {n : Nat} (hn : n ≤ 10) : ∀ (rs : List Rule) (l : List Int), LShape n l → (∀ q ∈ rs, q.left.toNat < n ∧ q.right.length ≤ 4) → lenFuel (lenPass rs l) ≤ lenFuel l
  | [], l, _, _ => Nat.le_refl _
  | q :: rs, l, h, hr => by
    have h1 := lenStep_fuel h hn q (hr q (by simp)).1 (hr q (by simp)).2
    have h2 := lenFuel_pass hn rs (lenStep l q) (h.step q (hr q (by simp)).1 (hr q (by simp)).2) (fun x hx => hr x (by simp [hx]))
    show lenFuel (lenPass rs (lenStep l q)) ≤ _
    rcases h1 with h1 | h1
    · rw [h1] at h2 ⊢; exact h2
    · omega

/-- A rule without a turn. -/
theorem lenI_stay {w wr : World} {rs : List Rule} {n O : Nat} {gc : Array Value} {l0 l : List Int} {j : Nat} {q : Rule} {b : Bool} (hq : rs[j]? = some q) (hn : n ≤ 10) (hr : ∀ q ∈ rs, q.left.toNat < n ∧ q.right.length ≤ 4) (hsh : LShape n l0)
    (hps : l = lenPass (rs.take j) l0) (h0 : b = false → l = l0 ∧ ∀ q ∈ rs.take j, lenStep l0 q = l0) (h1 : b = true → lenFuel l < lenFuel l0) (he : lenStep l q = l) (hB : Blk' wr O 3 (icells l)) (hl : LShape n l) (hb : Below w.heap.size w wr) (hG : Blk' wr w.heap.size 25 gc) :
    LenI w rs n O gc l0 (.bool b) (.int .i64 ((j : Int) + 1)) wr := by
  refine ⟨j + 1, l, b, (List.getElem?_eq_some_iff.1 hq).1, by go_num, rfl, hB, hl, by rw [lenPass_take l0 hq, ← hps, he], fun e => ⟨(h0 e).1, fun x hx => ?_⟩, h1, hb, hG⟩
  rw [take_snoc hq] at hx
  rcases List.mem_append.1 hx with hx | hx
  · exact (h0 e).2 x hx
  · simp at hx; subst hx; rw [← (h0 e).1]; exact he
/-- A rule that turns the table. -/
theorem lenI_turn {w wr : World} {rs : List Rule} {n O : Nat} {gc : Array Value} {l0 l : List Int} {j : Nat} {q : Rule} (hq : rs[j]? = some q) (hn : n ≤ 10) (hr : ∀ q ∈ rs, q.left.toNat < n ∧ q.right.length ≤ 4) (hsh : LShape n l0)
    (hps : l = lenPass (rs.take j) l0) (he : lenStep l q ≠ l) (hl : LShape n l) (hB : Blk' wr O 3 (icells (lenStep l q))) (hb : Below w.heap.size w wr) (hG : Blk' wr w.heap.size 25 gc) :
    LenI w rs n O gc l0 (.bool true) (.int .i64 ((j : Int) + 1)) wr := by
  have hm := hr q (List.mem_of_getElem? hq)
  have hf := lenStep_fuel hl hn q hm.1 hm.2
  have hp := lenFuel_pass hn (rs.take j) l0 hsh (fun x hx => hr x (List.mem_of_mem_take hx))
  rw [← hps] at hp
  exact ⟨j + 1, lenStep l q, true, (List.getElem?_eq_some_iff.1 hq).1, by go_num, rfl, hB, hl.step q hm.1 hm.2, by rw [lenPass_take l0 hq, ← hps], (fun e => by cases e), fun _ => by rcases hf with hf | hf; exact absurd hf he; omega, hb, hG⟩
theorem lenStep_set {l : List Int} {q : Rule} {x : Int} (hx : l[q.left.toNat]? = some x) (h : 0 ≤ sumR l 0 q.right ∧ (x < 0 ∨ sumR l 0 q.right < x)) : lenStep l q = l.set q.left.toNat (sumR l 0 q.right) ∧ lenStep l q ≠ l := by
  have hd : l.getD q.left.toNat 0 = x := getD_of hx
  have e : lenStep l q = l.set q.left.toNat (sumR l 0 q.right) := by unfold lenStep; rw [hd, if_pos h]
  refine ⟨e, fun he => ?_⟩
  rw [e] at he
  have h2 := congrArg (fun z : List Int => z[q.left.toNat]?) he
  have hl := (List.getElem?_eq_some_iff.1 hx).1
  simp only [List.getElem?_set, if_true, if_pos hl, hx] at h2
  injection h2 with h2
  omega
theorem lenStep_no {l : List Int} {q : Rule} {x : Int} (hx : l[q.left.toNat]? = some x) (h : ¬ (0 ≤ sumR l 0 q.right ∧ (x < 0 ∨ sumR l 0 q.right < x))) : lenStep l q = l := by
  have hd : l.getD q.left.toNat 0 = x := getD_of hx
  unfold lenStep; rw [hd, if_neg h]

set_option maxRecDepth 100000 in
set_option maxHeartbeats 4000000 in
theorem lengths_any (g : Gram) (n : Nat) (A : Option Addr) (c : Nat) (S : Nat → Prop) (w : World) (hgn : g.nons = (n : Int)) (hn : 1 ≤ n ∧ n ≤ 10) (hlc : g.rules.length ≤ c) (hc : c ≤ 9223372036854775807) (hA : Els w S g.rules A) (hS : ∀ b, S b → b < w.heap.size)
    (hrl : g.rules.length ≤ 1000) (hrr : RulesIn g n) :
    Calls Tryd.prog 48 #[.agg #[.int .i64 g.terms, .int .i64 g.nons, .int .i64 g.start, .slice A g.rules.length c]] w (RetLen g n w) := by
  obtain ⟨gt, gn, gs, rs⟩ := g
  dsimp only at *
  subst hgn
  have HA := Lib.hid hA
  have HS := Lib.hid hS
  have HRR := Lib.hid hrr
  have HR4 : Hid (∀ q ∈ rs, q.left.toNat < n ∧ q.right.length ≤ 4) := Lib.hid (fun q hq => ⟨(hrr q hq).2.1, (hrr q hq).2.2.1⟩)
  have HN := Lib.hid hn
  obtain ⟨hn1, hn10⟩ := hn
  have hn9 : (n : Int) ≤ 10 := by omega
  have hrl9 : rs.length ≤ 9223372036854775807 := by omega
  have hba : Below w.heap.size w ((w.alloc (.cells #[.int .i64 gt, .int .i64 (n : Int), .int .i64 gs, .slice A rs.length c] 25)).alloc (.cells #[.int .i64 (-1)] 3)) := ((Below.refl _ _).alloc (Nat.le_refl _) _).alloc (by simp) _
  have HBa := Lib.hid hba
  have HG0 := Lib.hid ((Blk'.new w 25 #[.int .i64 gt, .int .i64 (n : Int), .int .i64 gs, .slice A rs.length c]).alloc (.cells #[.int .i64 (-1)] 3))
  have HC0 : Hid (((w.alloc (.cells #[.int .i64 gt, .int .i64 (n : Int), .int .i64 gs, .slice A rs.length c] 25)).alloc (.cells #[.int .i64 (-1)] 3)).cell? ⟨w.heap.size + 1, 0, none⟩ = some (.int .i64 (-1))) := Lib.hid ((Blk'.new' (w.alloc (.cells #[.int .i64 gt, .int .i64 (n : Int), .int .i64 gs, .slice A rs.length c] 25)) 3 #[.int .i64 (-1)] (g := w.heap.size + 1) (by simp)).cell 0)
  clear hA hS hrr hba
  go_enter Tryd.func48, Tryd.ntmps48
  go_wp2_with fail
  refine (repeat_any (w.heap.size + 1) 0 n _ hn1 hn10 HC0.out).mono ?_
  rintro e w1 ⟨O, rfl, hO, hOge, hb1⟩
  have hOw : w.heap.size < O := by simp at hOge; omega
  have HG1 := Lib.hid (HG0.out.below hb1 (by simp; omega))
  have HB1 := Lib.hid (bthen HBa.out hb1 (by simp; omega))
  have HO1 := Lib.hid hO
  clear hO hb1 HG0 HBa HC0 hOge
  go_wp2_with fail
  go_loopg [4] (lenFuel (lenInit n) + 1) (fun gk ag wr => LenO w ⟨gt, (n : Int), gs, rs⟩ n O #[.int .i64 gt, .int .i64 (n : Int), .int .i64 gs, .slice A rs.length c] gk ag wr)
  case atStart => exact ⟨0, _, true, rfl, HO1.out, LShape.init n, rfl, (fun h => by cases h), Nat.le_refl _, HB1.out, HG1.out⟩
  case round =>
    obtain ⟨w2, hw2⟩ : ∃ w2 : World, w2 = wr := ⟨_, rfl⟩
    subst hw2
    obtain ⟨kk, l0, b, rfl, hB, hsh, hit, hcl, hfa, hb, hG⟩ := hrel
    dsimp only at hit hcl
    have H2 := Lib.hid (And.intro hB (And.intro hsh (And.intro hit (And.intro hcl (And.intro hfa (And.intro hb hG))))))
    have g3 : w2.cell? ⟨w.heap.size, 3, none⟩ = some (.slice A rs.length c) := hG.cell 3
    clear hB hsh hit hcl hfa hb hG HG1 HB1 HO1
    cases b
    · go_wp2
      go_ret
      exact ⟨O, l0, rfl, ⟨H2.out.2.1, ⟨kk, H2.out.2.2.1⟩, H2.out.2.2.2.1 (by first | exact rfl | exact trivial)⟩, H2.out.1, by omega, H2.out.2.2.2.2.2.1⟩
    · go_wp2_with fail
      go_loopw [4, 19] (fun ag i wr => LenI w rs n O #[.int .i64 gt, .int .i64 (n : Int), .int .i64 gs, .slice A rs.length c] l0 ag i wr) (fun _ i _ => rs.length - (intOf i).toNat)
      case atStart => exact ⟨0, l0, false, Nat.zero_le _, rfl, rfl, H2.out.1, H2.out.2.1, rfl, (fun _ => ⟨rfl, by simp⟩), (fun h => by cases h), H2.out.2.2.2.2.2.1, H2.out.2.2.2.2.2.2⟩
      case round =>
        obtain ⟨wi, hwi⟩ : ∃ wi : World, wi = wr := ⟨_, rfl⟩
        subst hwi
        obtain ⟨j, l, b, hj, rfl, rfl, hB, hsh, hps, hb0, hb1, hb, hG⟩ := hrel
        have H3 := Lib.hid (And.intro hB (And.intro hsh (And.intro hps (And.intro hb0 (And.intro hb1 (And.intro hb hG))))))
        clear hB hsh hps hb0 hb1 hb hG g3
        by_cases hlt : j < rs.length
        · obtain ⟨q, hq⟩ := get_some hlt
          obtain ⟨bq, oq, Aq, cq, rfl, hSb, hbs, hi, hrc, hcr, hEr, hc0, hc1⟩ := (HA.out.belowB H3.out.2.2.2.2.2.1 HS.out).rule hq
          obtain ⟨hl0, hl1, hr4, hsy⟩ := HRR.out q (List.mem_of_getElem? hq)
          have HQ := Lib.hid (And.intro hq hsy)
          obtain ⟨ql, qr⟩ := q
          dsimp only at hi hrc hcr hEr hc0 hc1 hl0 hl1 hr4 hsy
          have hj0 : (0 : Int) ≤ (j : Int) := by omega
          obtain ⟨x, hx⟩ := get_some (show ql.toNat < l.length by have := H3.out.2.1.len; omega)
          have hxb := H3.out.2.1.bound (by omega) x (List.mem_of_getElem? hx)
          have HX := Lib.hid hx
          have hxl := hxb.1
          have hxh := hxb.2
          have hba2 : Below wi.heap.size wi (wi.alloc (.cells #[.int .i64 ql, .slice Aq qr.length cq] 57)) := (Below.refl _ _).alloc (Nat.le_refl _) _
          have HQB := Lib.hid (Blk'.new wi 57 #[.int .i64 ql, .slice Aq qr.length cq])
          have HEr := Lib.hid (hEr.below hba2)
          have HBa2 := Lib.hid hba2
          have HO2 := Lib.hid (H3.out.1.below hba2 H3.out.1.lt)
          have hlz : O < wi.heap.size := H3.out.1.lt
          have hqlen : qr.length ≤ 9223372036854775807 := by omega
          clear hq hsy hx hxb hba2 hEr hi
          go_wp2_with fail
          go_loopw [7, 26] (fun s i wr => LenS (wi.alloc (.cells #[.int .i64 ql, .slice Aq qr.length cq] 57)) l qr s i wr) (fun _ i _ => qr.length - (intOf i).toNat)
          case atStart => exact ⟨0, 0, Nat.zero_le _, rfl, rfl, by simp, by omega, by omega, Below.refl _ _⟩
          case round =>
            obtain ⟨wz, hwz⟩ : ∃ wz : World, wz = wr := ⟨_, rfl⟩
            subst hwz
            obtain ⟨m, a, hm, rfl, rfl, hsum, ha1, ha2, hbz⟩ := hrel
            have HSum := Lib.hid hsum
            have HBz := Lib.hid hbz
            have hOz := HO2.out.below hbz HO2.out.lt
            have HOz := Lib.hid hOz
            have HQz := Lib.hid (HQB.out.below hbz HQB.out.lt)
            have hsz : wi.heap.size < wz.heap.size := by have := hbz.size; simp at this; omega
            have hOlz : O < wz.heap.size := by omega
            have q0 : wz.cell? ⟨wi.heap.size, 0, none⟩ = some (.int .i64 ql) := HQz.out.cell 0
            clear hsum hbz
            by_cases hml : m < qr.length
            · obtain ⟨s, hs⟩ := get_some hml
              have HBn : Hid (∀ o : Obj, Below (wi.alloc (.cells #[.int .i64 ql, .slice Aq qr.length cq] 57)).heap.size (wi.alloc (.cells #[.int .i64 ql, .slice Aq qr.length cq] 57)) (wz.alloc o)) := Lib.hid (fun o => HBz.out.alloc (by simp; omega) o)
              obtain ⟨bs, os, rfl, hSs, hbss, hsi, hsc0, hsc1⟩ := (HEr.out.below HBz.out).sym hs
              have Hd := Lib.hid (drop_cons hs)
              have hsr := HQ.out.2 s (List.mem_of_getElem? hs)
              obtain ⟨st, sn⟩ := s
              dsimp only at *
              have hm0 : (0 : Int) ≤ (m : Int) := by omega
              have hm4 : (m : Int) ≤ 4 := by omega
              have ha3 : a ≤ 5000000 := by omega
              have hs0 : 0 ≤ sn := hsr.1
              clear hs
              cases st
              · have hs1 : sn.toNat < n := hsr.2 rfl
                have hs2 : sn < (n : Int) := by omega
                obtain ⟨v, hv⟩ := get_some (show sn.toNat < l.length by have := H3.out.2.1.len; omega)
                have hvb := H3.out.2.1.bound (by omega) v (List.mem_of_getElem? hv)
                have hvl := hvb.1
                have hvh := hvb.2
                have cv : wz.cell? ⟨O, sn.toNat, none⟩ = some (.int .i64 v) := (hOz.cell _).trans (icells_get hv)
                have HE := Lib.hid (show sumR l 0 qr = sumR l (if 0 ≤ a ∧ 0 ≤ v then a + v else -1) (qr.drop (m + 1)) by
                  rw [HSum.out, Hd.out, sumR]; simp only [getD_of hv, Bool.false_eq_true, false_and, if_false, and_true])
                clear hv hvb hsr HSum hOz
                by_cases ha0 : 0 ≤ a
                · by_cases hv0 : 0 ≤ v
                  · have E := Lib.hid (show sumR l 0 qr = sumR l (a + v) (qr.drop (m + 1)) by rw [HE.out, if_pos ⟨ha0, hv0⟩])
                    clear HE
                    go_wp2
                    go_roundw
                    case rel => exact ⟨m + 1, a + v, by omega, by go_num, rfl, E.out, by omega, by push_cast; omega, HBn.out _⟩
                    case measure => simp [intOf]; omega
                  · have E := Lib.hid (show sumR l 0 qr = sumR l (-1) (qr.drop (m + 1)) by rw [HE.out, if_neg (by omega)])
                    clear HE
                    go_wp2
                    go_roundw
                    case rel => exact ⟨m + 1, -1, by omega, by go_num, rfl, E.out, by omega, by push_cast; omega, HBn.out _⟩
                    case measure => simp [intOf]; omega
                · have E := Lib.hid (show sumR l 0 qr = sumR l (-1) (qr.drop (m + 1)) by rw [HE.out, if_neg (by omega)])
                  clear HE
                  go_wp2
                  go_roundw
                  case rel => exact ⟨m + 1, -1, by omega, by go_num, rfl, E.out, by omega, by push_cast; omega, HBn.out _⟩
                  case measure => simp [intOf]; omega
              · clear hOz hsr
                by_cases ha0 : 0 ≤ a
                · have E := Lib.hid (show sumR l 0 qr = sumR l (a + 1) (qr.drop (m + 1)) by rw [HSum.out, Hd.out, sumR]; simp [ha0])
                  go_wp2
                  go_roundw
                  case rel => exact ⟨m + 1, a + 1, by omega, by go_num, rfl, E.out, by omega, by push_cast; omega, HBn.out _⟩
                  case measure => simp [intOf]; omega
                · have E := Lib.hid (show sumR l 0 qr = sumR l (-1) (qr.drop (m + 1)) by rw [HSum.out, Hd.out, sumR]; simp [ha0])
                  go_wp2
                  go_roundw
                  case rel => exact ⟨m + 1, -1, by omega, by go_num, rfl, E.out, by omega, by push_cast; omega, HBn.out _⟩
                  case measure => simp [intOf]; omega
            · have HE := Lib.hid (show sumR l 0 qr = a by rw [HSum.out, List.drop_of_length_le (by omega), sumR])
              have cx : wz.cell? ⟨O, ql.toNat, none⟩ = some (.int .i64 x) := (hOz.cell _).trans (icells_get HX.out)
              have fx := hOz.frozen ql.toNat
              have hl2 : ql < (n : Int) := by omega
              have HB3 := Lib.hid (show Below w.heap.size w wz from (H3.out.2.2.2.2.2.1.trans (HBa2.out.mono H3.out.2.2.2.2.2.1.size)).trans (HBz.out.mono (by have := H3.out.2.2.2.2.2.1.size; simp; omega)))
              have HG3 := Lib.hid ((H3.out.2.2.2.2.2.2.below HBa2.out H3.out.2.2.2.2.2.2.lt).below HBz.out (by have := H3.out.2.2.2.2.2.2.lt; simp; omega))
              clear hOz
              by_cases hch : 0 ≤ a ∧ (x < 0 ∨ a < x)
              · obtain ⟨hs1, hs2⟩ := lenStep_set (q := ⟨ql, qr⟩) HX.out (by rw [HE.out]; exact hch)
                have HT := Lib.hid (And.intro hs1 hs2)
                have hac := hch.1
                clear hs1 hs2
                by_cases hx0 : x < 0
                · clear hch
                  go_wp2
                  go_roundw
                  case rel => exact lenI_turn HQ.out.1 hn10 HR4.out H2.out.2.1 H3.out.2.2.1 HT.out.2 H3.out.2.1 (by have h := HOz.out.set_ ql.toNat (.int .i64 a); rw [icells_set] at h; rw [HT.out.1, HE.out]; exact h) (HB3.out.setCell (p := ⟨O, ql.toNat, none⟩) (by show w.heap.size ≤ O; omega) _) (HG3.out.far (p := ⟨O, ql.toNat, none⟩) (by show w.heap.size ≠ O; omega) _)
                  case measure => simp [intOf]; omega
                · have hax : a < x := by omega
                  clear hch
                  go_wp2
                  go_roundw
                  case rel => exact lenI_turn HQ.out.1 hn10 HR4.out H2.out.2.1 H3.out.2.2.1 HT.out.2 H3.out.2.1 (by have h := HOz.out.set_ ql.toNat (.int .i64 a); rw [icells_set] at h; rw [HT.out.1, HE.out]; exact h) (HB3.out.setCell (p := ⟨O, ql.toNat, none⟩) (by show w.heap.size ≤ O; omega) _) (HG3.out.far (p := ⟨O, ql.toNat, none⟩) (by show w.heap.size ≠ O; omega) _)
                  case measure => simp [intOf]; omega
              · have HT := Lib.hid (lenStep_no (q := ⟨ql, qr⟩) HX.out (by rw [HE.out]; exact hch))
                by_cases hac : 0 ≤ a
                · have hx0 : ¬ x < 0 := by omega
                  have hax : ¬ a < x := by omega
                  clear hch
                  go_wp2
                  go_roundw
                  case rel => exact lenI_stay HQ.out.1 hn10 HR4.out H2.out.2.1 H3.out.2.2.1 H3.out.2.2.2.1 H3.out.2.2.2.2.1 HT.out HOz.out H3.out.2.1 HB3.out HG3.out
                  case measure => simp [intOf]; omega
                · clear hch
                  go_wp2
                  go_roundw
                  case rel => exact lenI_stay HQ.out.1 hn10 HR4.out H2.out.2.1 H3.out.2.2.1 H3.out.2.2.2.1 H3.out.2.2.2.2.1 HT.out HOz.out H3.out.2.1 HB3.out HG3.out
                  case measure => simp [intOf]; omega
        · have E := Lib.hid (show rs.take j = rs from List.take_of_length_le (by omega))
          go_wp2_with fail
          go_roundg (lenFuel l + (if b then 1 else 0))
          case measure =>
            have h1 := H2.out.2.2.2.2.1
            cases b
            · have h2 := (H3.out.2.2.2.1 rfl).1
              rw [h2]; simp at h1 ⊢; omega
            · have h2 := H3.out.2.2.2.2.1 rfl
              simp at h1 ⊢; omega
          case rel =>
            refine ⟨kk + 1, l, b, rfl, H3.out.1, H3.out.2.1, ?_, fun h => ?_, Nat.le_refl _, H3.out.2.2.2.2.2.1, H3.out.2.2.2.2.2.2⟩
            · have h := H3.out.2.2.1
              rw [E.out] at h
              rw [h, lenIter, ← H2.out.2.2.1]
            · have h2 := H3.out.2.2.2.1 h
              rw [E.out] at h2
              rw [h2.1]
              exact h2.2
end Go.Proofs.YtnlpeiffbnlncaaDoor
