/- Contract: useful.reached, at whatever predicate. -/
import Derived.Test.YtnlpeiffbnlncaaDoorQw1
import Derived.Test.YtnlpeiffbnlncaaDoorQp2
import Derived.Test.YtnlpeiffbnlncaaDoorQp1
import Derived.Deep.LoopGhost
namespace Go.Proofs.YtnlpeiffbnlncaaDoor
open Go.RowKit
set_option linter.unusedVariables false

def RetRea (g : Gram) (p : Rule → Bool) (n : Nat) (w : World) (e : Ending) (w' : World) : Prop :=
  ∃ b s, e = .returned (.slice (some ⟨b, 0, none⟩) n n) ∧ RFix g p n s ∧ Blk' w' b 4 (bcells s) ∧ w.heap.size ≤ b ∧ Below w.heap.size w w'
def ReaO (w : World) (g : Gram) (p : Rule → Bool) (n O : Nat) (gc : Array Value) (gk : Nat) (ag : Value) (wr : World) : Prop :=
  ∃ (k : Nat) (s : List Bool) (b : Bool), ag = .bool b ∧ Blk' wr O 4 (bcells s) ∧ s.length = n ∧ s[g.start.toNat]? = some true ∧ s = reachIter p g.rules k (reachInit n g.start.toNat) ∧ (b = false → ∀ q ∈ g.rules, reachStep p s q = s) ∧ s.count false + (if b then 1 else 0) ≤ gk ∧ Below w.heap.size w wr ∧ Blk' wr w.heap.size 25 gc
def ReaI (w : World) (rs : List Rule) (p : Rule → Bool) (O : Nat) (gc : Array Value) (s0 : List Bool) (ag i : Value) (wr : World) : Prop :=
  ∃ (j : Nat) (s : List Bool) (b : Bool), j ≤ rs.length ∧ i = .int .i64 j ∧ ag = .bool b ∧ Blk' wr O 4 (bcells s) ∧ s = reachPass p (rs.take j) s0 ∧ (b = false → s = s0 ∧ ∀ q ∈ rs.take j, reachStep p s0 q = s0) ∧ (b = true → s.count false < s0.count false) ∧ Below w.heap.size w wr ∧ Blk' wr w.heap.size 25 gc
def ReaS (wq : World) (right : List Sym) (O : Nat) (s1 : List Bool) (b1 : Bool) (ag i : Value) (wr : World) : Prop :=
  ∃ (m : Nat) (s : List Bool) (b : Bool), m ≤ right.length ∧ i = .int .i64 m ∧ ag = .bool b ∧ Blk' wr O 4 (bcells s) ∧ s = (right.take m).foldl symStep s1 ∧ (b = false → b1 = false ∧ s = s1) ∧ (b = true → b1 = true ∨ s.count false < s1.count false) ∧ Kept (fun k => k = O) wq wr

theorem reachPass_take {p : Rule → Bool} {rs : List Rule} {j : Nat} {q : Rule} (s0 : List Bool) (h : rs[j]? = some q) : reachPass p (rs.take (j + 1)) s0 = reachStep p (reachPass p (rs.take j) s0) q := by
  unfold reachPass
  rw [take_snoc h, List.foldl_append]; rfl
theorem reachPass_len (p : Rule → Bool) : ∀ (rs : List Rule) (s : List Bool), (reachPass p rs s).length = s.length
  | [], _ => rfl
  | q :: rs, s => by show (reachPass p rs (reachStep p s q)).length = _; rw [reachPass_len p rs, reachStep_len]
theorem reachPass_count (p : Rule → Bool) : ∀ (rs : List Rule) (s : List Bool), (reachPass p rs s).count false ≤ s.count false
  | [], _ => Nat.le_refl _
  | q :: rs, s => by
    show (reachPass p rs (reachStep p s q)).count false ≤ _
    have := reachPass_count p rs (reachStep p s q)
    rcases reachStep_count p s q with h | h
    · rw [h] at this ⊢; exact this
    · omega
theorem reachPass_keep (p : Rule → Bool) : ∀ (rs : List Rule) (s : List Bool) (k : Nat), s[k]? = some true → (reachPass p rs s)[k]? = some true
  | [], _, _, h => h
  | q :: rs, s, k, h => reachPass_keep p rs (reachStep p s q) k (by unfold reachStep; split; exact symFold_keep _ _ _ h; exact h)

/-- The next rule: b' says whether anything has turned. -/
theorem reaI_next {w wr : World} {rs : List Rule} {p : Rule → Bool} {O : Nat} {gc : Array Value} {s0 s s' : List Bool} {j : Nat} {q : Rule} {b b' : Bool} (hq : rs[j]? = some q) (hps : s = reachPass p (rs.take j) s0)
    (h0 : b = false → s = s0 ∧ ∀ q ∈ rs.take j, reachStep p s0 q = s0) (h1 : b = true → s.count false < s0.count false) (he : s' = reachStep p s q) (hf : b' = false → b = false ∧ s' = s) (ht : b' = true → b = true ∨ s'.count false < s.count false)
    (hB : Blk' wr O 4 (bcells s')) (hb : Below w.heap.size w wr) (hG : Blk' wr w.heap.size 25 gc) : ReaI w rs p O gc s0 (.bool b') (.int .i64 ((j : Int) + 1)) wr := by
  have hle : s.count false ≤ s0.count false := by rw [hps]; exact reachPass_count p _ _
  have hle2 : s'.count false ≤ s.count false := by
    rcases reachStep_count p s q with h | h
    · rw [he, h]; exact Nat.le_refl _
    · rw [he]; omega
  refine ⟨j + 1, s', b', (List.getElem?_eq_some_iff.1 hq).1, by go_num, rfl, hB, by rw [reachPass_take s0 hq, ← hps, he], fun e => ?_, fun e => ?_, hb, hG⟩
  · obtain ⟨e1, e2⟩ := hf e
    obtain ⟨e3, e4⟩ := h0 e1
    refine ⟨by rw [e2, e3], fun x hx => ?_⟩
    rw [take_snoc hq] at hx
    rcases List.mem_append.1 hx with hx | hx
    · exact e4 x hx
    · simp at hx; subst hx; rw [← e3, ← he, e2]
  · rcases ht e with h | h
    · have := h1 h; omega
    · omega

set_option maxRecDepth 100000 in
set_option maxHeartbeats 4000000 in
theorem reached_any (g : Gram) (p : Rule → Bool) (F : Nat) (caps : Array Value) (n : Nat) (A : Option Addr) (c : Nat) (S : Nat → Prop) (w : World) (hgn : g.nons = (n : Int)) (hn : n ≤ 1000) (hgs : 0 ≤ g.start ∧ g.start.toNat < n) (hlc : g.rules.length ≤ c) (hc : c ≤ 9223372036854775807) (hA : Els w S g.rules A) (hS : ∀ b, S b → b < w.heap.size)
    (hrr : RulesIn g n) (hgo : IsGo F)
    (hcall : ∀ (x : Rule) (W : World), x ∈ g.rules → Below w.heap.size w W → ∀ (A' : Option Addr) (c' : Nat), x.right.length ≤ c' → c' ≤ 9223372036854775807 → Els W S x.right A' →
      Calls Tryd.prog F (#[.agg #[.int .i64 x.left, .slice A' x.right.length c']] ++ caps) W fun e W' => e = .returned (.bool (p x)) ∧ Below W.heap.size W W') :
    Calls Tryd.prog 52 #[.agg #[.int .i64 g.terms, .int .i64 g.nons, .int .i64 g.start, .slice A g.rules.length c], .func (.func F) #[] caps] w (RetRea g p n w) := by
  have HC := Lib.hid hcall
  have hgo' : ∀ (args : Array Value) (W : World), (callFunc F args).run Tryd.prog W = .ok (.enter F args) W := hgo
  clear hcall hgo
  obtain ⟨gt, gn, gs, rs⟩ := g
  dsimp only at *
  subst hgn
  obtain ⟨s0, rfl⟩ : ∃ s0 : Nat, gs = (s0 : Int) := ⟨gs.toNat, by omega⟩
  have hs0 : s0 < n := by omega
  have hs9 : (s0 : Int) < (n : Int) := by omega
  have HA := Lib.hid hA
  have HS := Lib.hid hS
  have HRR := Lib.hid hrr
  have hmk := mkBools n (by omega)
  have hrl9 : rs.length ≤ 9223372036854775807 := by omega
  obtain ⟨w1, hw1⟩ : ∃ w1 : World, w1 = (w.alloc (.cells #[.int .i64 gt, .int .i64 (n : Int), .int .i64 (s0 : Int), .slice A rs.length c] 25)).alloc (.cells (bcells (reachInit n s0)) 4) := ⟨_, rfl⟩
  have HW := Lib.hid hw1
  have hB1 : Blk' w1 (w.heap.size + 1) 4 (bcells (reachInit n s0)) := by rw [hw1]; exact Blk'.new' _ _ _ (by simp)
  have HG1 : Hid (Blk' w1 w.heap.size 25 #[.int .i64 gt, .int .i64 (n : Int), .int .i64 (s0 : Int), .slice A rs.length c]) := Lib.hid (by rw [hw1]; exact (Blk'.new _ _ _).alloc _)
  have HB1 : Hid (Below w.heap.size w w1) := Lib.hid (by rw [hw1]; exact ((Below.refl _ _).alloc (Nat.le_refl _) _).alloc (by simp) _)
  have HBk := Lib.hid hB1
  have b1 : (bcells (List.replicate n false))[s0]? = some (.bool false) := bcells_get (by rw [List.getElem?_replicate, if_pos hs0])
  clear hA hS hrr hgs hw1 hB1
  go_enter Tryd.func52, Tryd.ntmps52
  go_wp2_with fail
  rw [show (bcells (List.replicate n false)).setIfInBounds s0 (.bool true) = bcells (reachInit n s0) from by rw [bcells_set]; rfl, ← HW.out]
  clear b1
  go_loopg [6] (n + 1) (fun gk ag wr => ReaO w ⟨gt, (n : Int), (s0 : Int), rs⟩ p n (w.heap.size + 1) #[.int .i64 gt, .int .i64 (n : Int), .int .i64 (s0 : Int), .slice A rs.length c] gk ag wr)
  case atStart =>
    refine ⟨0, reachInit n s0, true, rfl, HBk.out, by simp [reachInit], ?_, rfl, (fun h => by cases h), ?_, HB1.out, HG1.out⟩
    · show (reachInit n ((s0 : Int)).toNat)[((s0 : Int)).toNat]? = some true
      simp [reachInit, hs0]
    · have h := List.count_le_length (a := false) (l := reachInit n s0)
      simp [reachInit] at h ⊢
      omega
  case round =>
    obtain ⟨w2, hw2⟩ : ∃ w2 : World, w2 = wr := ⟨_, rfl⟩
    subst hw2
    obtain ⟨kk, s0', b, rfl, hB, hsl, hst, hit, hcl, hfa, hb, hG⟩ := hrel
    dsimp only at hit hcl hst
    have H2 := Lib.hid (And.intro hB (And.intro hsl (And.intro hst (And.intro hit (And.intro hcl (And.intro hfa (And.intro hb hG)))))))
    have g3 : w2.cell? ⟨w.heap.size, 3, none⟩ = some (.slice A rs.length c) := hG.cell 3
    clear hB hsl hst hit hcl hfa hb hG HG1 HB1 HBk HW
    cases b
    · go_wp2
      go_ret
      exact ⟨w.heap.size + 1, s0', rfl, ⟨H2.out.2.1, H2.out.2.2.1, ⟨kk, H2.out.2.2.2.1⟩, H2.out.2.2.2.2.1 (by first | exact rfl | exact trivial)⟩, H2.out.1, by omega, H2.out.2.2.2.2.2.2.1⟩
    · go_wp2_with fail
      go_loopw [6, 22] (fun ag i wr => ReaI w rs p (w.heap.size + 1) #[.int .i64 gt, .int .i64 (n : Int), .int .i64 (s0 : Int), .slice A rs.length c] s0' ag i wr) (fun _ i _ => rs.length - (intOf i).toNat)
      case atStart => exact ⟨0, s0', false, Nat.zero_le _, rfl, rfl, H2.out.1, rfl, (fun _ => ⟨rfl, by simp⟩), (fun h => by cases h), H2.out.2.2.2.2.2.2.1, H2.out.2.2.2.2.2.2.2⟩
      case round =>
        obtain ⟨wi, hwi⟩ : ∃ wi : World, wi = wr := ⟨_, rfl⟩
        subst hwi
        obtain ⟨j, s, b, hj, rfl, rfl, hB, hps, hb0, hb1, hb, hG⟩ := hrel
        have hsl : s.length = n := by rw [hps, reachPass_len]; exact H2.out.2.1
        have HSl := Lib.hid hsl
        have H3 := Lib.hid (And.intro hB (And.intro hps (And.intro hb0 (And.intro hb1 (And.intro hb hG)))))
        clear hB hps hb0 hb1 hb hG g3
        by_cases hlt : j < rs.length
        · obtain ⟨q, hq⟩ := get_some hlt
          obtain ⟨bq, oq, Aq, cq, rfl, hSb, hbs, hi, hrc, hcr, hEr, hc0, hc1⟩ := (HA.out.belowB H3.out.2.2.2.2.1 HS.out).rule hq
          obtain ⟨hl0, hl1, hr4, hsy⟩ := HRR.out q (List.mem_of_getElem? hq)
          have HQ := Lib.hid (And.intro hq (And.intro hsy (List.mem_of_getElem? hq)))
          obtain ⟨ql, qr⟩ := q
          dsimp only at hi hrc hcr hEr hc0 hc1 hl0 hl1 hr4 hsy
          have hj0 : (0 : Int) ≤ (j : Int) := by omega
          obtain ⟨x, hx⟩ := get_some (show ql.toNat < s.length by omega)
          have HX := Lib.hid hx
          have hba2 : Below wi.heap.size wi (wi.alloc (.cells #[.int .i64 ql, .slice Aq qr.length cq] 57)) := (Below.refl _ _).alloc (Nat.le_refl _) _
          have HQB := Lib.hid (Blk'.new wi 57 #[.int .i64 ql, .slice Aq qr.length cq])
          have HEr := Lib.hid (hEr.below hba2)
          have HBw := Lib.hid (bthen H3.out.2.2.2.2.1 hba2 H3.out.2.2.2.2.1.size)
          have HO2 := Lib.hid (H3.out.1.below hba2 H3.out.1.lt)
          have HG2 := Lib.hid (H3.out.2.2.2.2.2.below hba2 H3.out.2.2.2.2.2.lt)
          have hlz : w.heap.size + 1 < wi.heap.size := H3.out.1.lt
          have hlz2 : w.heap.size + 1 < wi.heap.size + 1 := by omega
          have hqn : ql < (n : Int) := by omega
          have cx : wi.cell? ⟨w.heap.size + 1, ql.toNat, none⟩ = some (.bool x) := (H3.out.1.cell _).trans (bcells_get hx)
          clear hq hsy hx hba2 hEr hi hsl
          cases x
          · have HT := Lib.hid (show s = reachStep p s ⟨ql, qr⟩ by unfold reachStep; rw [getD_of HX.out]; rfl)
            go_wp2
            go_roundw
            case rel => exact reaI_next HQ.out.1 H3.out.2.1 H3.out.2.2.1 H3.out.2.2.2.1 HT.out (fun e => ⟨e, rfl⟩) (fun e => .inl e) HO2.out HBw.out HG2.out
            case measure => simp [intOf]; omega
          · go_wp2_with fail
            refine (HC.out ⟨ql, qr⟩ _ HQ.out.2.2 HBw.out Aq cq hrc hcr HEr.out).mono ?_
            rintro e w3 ⟨rfl, hb3⟩
            have hQ3 := HQB.out.below hb3 HQB.out.lt
            have q1 : w3.cell? ⟨wi.heap.size, 1, none⟩ = some (.slice Aq qr.length cq) := hQ3.cell 1
            have HEr3 := Lib.hid (HEr.out.below hb3)
            have HBw3 := Lib.hid (bthen HBw.out hb3 HBw.out.size)
            have HO3 := Lib.hid (HO2.out.below hb3 HO2.out.lt)
            have HG3 := Lib.hid (HG2.out.below hb3 HG2.out.lt)
            have hz3 : wi.heap.size < w3.heap.size := hQ3.lt
            clear hb3 hQ3 HEr HBw HO2 HG2 cx hc0 hc1
            cases hp : p ⟨ql, qr⟩
            · have HT := Lib.hid (show s = reachStep p s ⟨ql, qr⟩ by unfold reachStep; rw [getD_of HX.out, hp]; rfl)
              clear hp
              go_wp2
              go_roundw
              case rel => exact reaI_next HQ.out.1 H3.out.2.1 H3.out.2.2.1 H3.out.2.2.2.1 HT.out (fun e => ⟨e, rfl⟩) (fun e => .inl e) HO3.out HBw3.out HG3.out
              case measure => simp [intOf]; omega
            · have HT := Lib.hid (show qr.foldl symStep s = reachStep p s ⟨ql, qr⟩ by unfold reachStep; rw [getD_of HX.out, hp]; rfl)
              clear hp
              have hqlen : qr.length ≤ 9223372036854775807 := by omega
              have HSr : Hid (∀ k, S k → ¬ k = w.heap.size + 1) := Lib.hid (fun k hk e => by have := HS.out k hk; omega)
              go_wp2_with fail
              go_loopw [6, 41] (fun ag i wr => ReaS w3 qr (w.heap.size + 1) s b ag i wr) (fun _ i _ => qr.length - (intOf i).toNat)
              case atStart => exact ⟨0, s, b, Nat.zero_le _, rfl, rfl, HO3.out, rfl, (fun e => ⟨e, rfl⟩), (fun e => .inl e), Kept.refl _ _⟩
              case round =>
                obtain ⟨wz, hwz⟩ : ∃ wz : World, wz = wr := ⟨_, rfl⟩
                subst hwz
                obtain ⟨m, sm, bm, hm, rfl, rfl, hBm, hfm, hm0, hm1, hkz⟩ := hrel
                have hsml : sm.length = n := by rw [hfm, symFold_len]; exact HSl.out
                have HM := Lib.hid (And.intro hBm (And.intro hfm (And.intro hm0 (And.intro hm1 hkz))))
                have hz4 : w3.heap.size ≤ wz.heap.size := hkz.size
                clear hBm hfm hm0 hm1 hkz
                by_cases hml : m < qr.length
                · obtain ⟨y, hy⟩ := get_some hml
                  have Hts := Lib.hid (take_snoc hy)
                  have hsr := HQ.out.2.1 y (List.mem_of_getElem? hy)
                  obtain ⟨yt, yn⟩ := y
                  have HKn : Hid (∀ o : Obj, Kept (fun k => k = w.heap.size + 1) w3 (wz.alloc o)) := Lib.hid (fun o => HM.out.2.2.2.2.alloc o)
                  have HBn : Hid (∀ o : Obj, Blk' (wz.alloc o) (w.heap.size + 1) 4 (bcells sm)) := Lib.hid (fun o => HM.out.1.alloc o)
                  obtain ⟨by_, oy, rfl, hSy, hbsy, hyi, hyc0, hyc1⟩ := (HEr3.out.kept HM.out.2.2.2.2 HSr.out).sym hy
                  dsimp only at hyi hyc0 hyc1 hsr
                  have hm0 : (0 : Int) ≤ (m : Int) := by omega
                  have hy0 : 0 ≤ yn := hsr.1
                  clear hy
                  cases yt
                  · have hy1 : yn.toNat < n := hsr.2 rfl
                    have hy2 : yn < (n : Int) := by omega
                    obtain ⟨v, hv⟩ := get_some (show yn.toNat < sm.length by omega)
                    have cv : wz.cell? ⟨w.heap.size + 1, yn.toNat, none⟩ = some (.bool v) := (HM.out.1.cell _).trans (bcells_get hv)
                    have fv := HM.out.1.frozen yn.toNat
                    have hw1z : w.heap.size + 1 < wz.heap.size := by omega
                    have HV := Lib.hid hv
                    clear hv hsr hsml
                    cases v
                    · have HF := Lib.hid (show (qr.take (m + 1)).foldl symStep s = sm.set yn.toNat true by rw [Hts.out, List.foldl_append, ← HM.out.2.1]; rfl)
                      have HCt := Lib.hid (show (sm.set yn.toNat true).count false < sm.count false by have h := rcount_set sm yn.toNat; rw [if_pos HV.out] at h; omega)
                      have HLe := Lib.hid (show sm.count false ≤ s.count false by rw [HM.out.2.1]; rcases symFold_count (qr.take m) s with h | h; (rw [h]; exact Nat.le_refl _); omega)
                      go_wp2
                      go_roundw
                      case rel => exact ⟨m + 1, sm.set yn.toNat true, true, by omega, by go_num, rfl, by have h := (HM.out.1.set_ yn.toNat (.bool true)).alloc (.cells #[.bool false, .int .i64 yn] 69); rw [bcells_set] at h; exact h, HF.out.symm, (fun e => by cases e), (fun _ => .inr (by have h1 := HCt.out; have h2 := HLe.out; omega)), (HM.out.2.2.2.2.setCell (p := ⟨w.heap.size + 1, yn.toNat, none⟩) (.inl rfl) _).alloc _⟩
                      case measure => simp [intOf]; omega
                    · have HF := Lib.hid (show (qr.take (m + 1)).foldl symStep s = sm by rw [Hts.out, List.foldl_append, ← HM.out.2.1]; show symStep sm ⟨false, yn⟩ = sm; unfold symStep; simp only [Bool.false_eq_true, if_false]; exact set_true_id (by rw [HV.out]; simp))
                      go_wp2
                      go_roundw
                      case rel => exact ⟨m + 1, sm, bm, by omega, by go_num, rfl, HBn.out _, HF.out.symm, HM.out.2.2.1, HM.out.2.2.2.1, HKn.out _⟩
                      case measure => simp [intOf]; omega
                  · have HF := Lib.hid (show (qr.take (m + 1)).foldl symStep s = sm by rw [Hts.out, List.foldl_append, ← HM.out.2.1]; rfl)
                    clear hsr hsml
                    go_wp2
                    go_roundw
                    case rel => exact ⟨m + 1, sm, bm, by omega, by go_num, rfl, HBn.out _, HF.out.symm, HM.out.2.2.1, HM.out.2.2.2.1, HKn.out _⟩
                    case measure => simp [intOf]; omega
                · have HE := Lib.hid (show sm = qr.foldl symStep s by rw [HM.out.2.1, List.take_of_length_le (by omega)])
                  clear hsml
                  go_wp2
                  go_roundw
                  case rel => exact reaI_next HQ.out.1 H3.out.2.1 H3.out.2.2.1 H3.out.2.2.2.1 (HE.out.trans HT.out) HM.out.2.2.1 HM.out.2.2.2.1 HM.out.1 (HBw3.out.trans (HM.out.2.2.2.2.to_below (fun k hk => by omega) HBw3.out.size)) (HG3.out.kept HM.out.2.2.2.2 (by omega))
                  case measure => simp [intOf]; omega
        · have E := Lib.hid (show rs.take j = rs from List.take_of_length_le (by omega))
          go_wp2_with fail
          go_roundg (s.count false + (if b then 1 else 0))
          case measure =>
            have h1 := H2.out.2.2.2.2.2.1
            cases b
            · have h2 := (H3.out.2.2.1 rfl).1
              rw [h2]; simp at h1 ⊢; omega
            · have h2 := H3.out.2.2.2.1 rfl
              simp at h1 ⊢; omega
          case rel =>
            have hps := H3.out.2.1
            rw [E.out] at hps
            refine ⟨kk + 1, s, b, rfl, H3.out.1, HSl.out, ?_, ?_, fun h => ?_, Nat.le_refl _, H3.out.2.2.2.2.1, H3.out.2.2.2.2.2⟩
            · rw [hps]; exact reachPass_keep p rs s0' _ H2.out.2.2.1
            · rw [hps, reachIter, ← H2.out.2.2.2.1]
            · have h2 := H3.out.2.2.1 h
              rw [E.out] at h2
              rw [h2.1]
              exact h2.2
end Go.Proofs.YtnlpeiffbnlncaaDoor
