/- Contract: parlref2.GramErr answers as gram.Check. -/
import Derived.Test.YtagcnhiinmiklaaDoorQItoa
import Derived.Test.YtagcnhiinmiklaaDoorQValid
import Derived.Test.YtagcnhiinmiklaaDoorQCmpZero
import Derived.Test.YtagcnhiinmiklaaDoorQp1
import Derived.Maps.OwnOps
import Derived.Maps.Own
import Derived.Maps.Views
namespace Go.Proofs.YtagcnhiinmiklaaDoor
open Go.RowKit
set_option linter.unusedVariables false

theorem in_any (n lo hi : Int) (w : World) : Calls Tryd.prog 15 #[.int .i64 n, .int .i64 lo, .int .i64 hi] w fun e w' => e = .returned (.bool (decide (lo ≤ n) && decide (n ≤ hi))) ∧ w = w' := by
  by_cases h : lo ≤ n
  · have HE := Lib.hid (show (decide (lo ≤ n) && decide (n ≤ hi)) = decide (n ≤ hi) by simp [h])
    go_enter Tryd.func15, Tryd.ntmps15
    go_wp2
    go_ret
    exact ⟨ret_bool HE.out.symm, rfl⟩
  · have HE := Lib.hid (show (decide (lo ≤ n) && decide (n ≤ hi)) = false by simp [h])
    go_enter Tryd.func15, Tryd.ntmps15
    go_wp2
    go_ret
    exact ⟨ret_bool HE.out.symm, rfl⟩
set_option maxRecDepth 100000 in
theorem known_any (t n s0 : Int) (sl : Value) (st : Bool) (sn : Int) (w : World) (hsl : ∃ A k c, sl = .slice A k c) :
    Calls Tryd.prog 16 #[.agg #[.int .i64 t, .int .i64 n, .int .i64 s0, sl], .agg #[.bool st, .int .i64 sn]] w fun e w' => e = .returned (.bool (symIn t n ⟨st, sn⟩)) ∧ Below w.heap.size w w' := by
  obtain ⟨A, k, c, rfl⟩ := hsl
  have HB : Hid (∀ o1 o2 : Obj, Below w.heap.size w ((w.alloc o1).alloc o2)) := Lib.hid (fun o1 o2 => ((Below.refl _ _).alloc (Nat.le_refl _) _).alloc (by simp) _)
  by_cases h0 : 0 ≤ sn
  · cases st
    · have HE := Lib.hid (show symIn t n ⟨false, sn⟩ = decide (sn < n) by simp [symIn, h0])
      go_enter Tryd.func16, Tryd.ntmps16
      go_wp2
      go_ret
      exact ⟨ret_bool HE.out.symm, HB.out _ _⟩
    · have HE := Lib.hid (show symIn t n ⟨true, sn⟩ = decide (sn < t) by simp [symIn, h0])
      go_enter Tryd.func16, Tryd.ntmps16
      go_wp2
      go_ret
      exact ⟨ret_bool HE.out.symm, HB.out _ _⟩
  · cases st
    · have HE := Lib.hid (show symIn t n ⟨false, sn⟩ = false by simp [symIn, h0])
      go_enter Tryd.func16, Tryd.ntmps16
      go_wp2
      go_ret
      exact ⟨ret_bool HE.out.symm, HB.out _ _⟩
    · have HE := Lib.hid (show symIn t n ⟨true, sn⟩ = false by simp [symIn, h0])
      go_enter Tryd.func16, Tryd.ntmps16
      go_wp2
      go_ret
      exact ⟨ret_bool HE.out.symm, HB.out _ _⟩

/-- The letters of a rule's key. -/
def keyW (r : Rule) : List UInt8 := (keyR r).data.toList
def Small (r : Rule) : Prop := 0 ≤ r.left ∧ r.left < 10 ∧ r.right.length ≤ 4 ∧ ∀ s ∈ r.right, 0 ≤ s.n ∧ s.n < 10
/-- The map counts the keys of some rules. -/
def SeenD (D : DataW Unit) (rs : List Rule) : Prop := Maps.IsMap D ∧ ∀ k : List UInt8, D.atKey (.string k) (.lit (.int .i64 0)) = .lit (.int .i64 (if ∃ r ∈ rs, keyW r = k then 1 else 0))
theorem SeenD.put {D : DataW Unit} {rs : List Rule} (h : SeenD D rs) (r : Rule) : SeenD (D.put (.string (keyW r)) (.lit (.int .i64 1))) (rs ++ [r]) := by
  refine ⟨h.1.put _ _, fun k => ?_⟩
  by_cases e : k = keyW r
  · subst e
    rw [Maps.atKey_put_same (k := .string (keyW r)) h.1 (show WideAt.IsKeyLit (.string (keyW r)) from trivial), if_pos ⟨r, by simp, rfl⟩]
  · rw [Maps.atKey_put_other (fun he => e (by injection he)), h.2 k]
    have : (∃ r' ∈ rs, keyW r' = k) ↔ (∃ r' ∈ rs ++ [r], keyW r' = k) := by
      constructor
      · rintro ⟨r', h1, h2⟩; exact ⟨r', by simp [h1], h2⟩
      · rintro ⟨r', h1, h2⟩
        rcases List.mem_append.1 h1 with h1 | h1
        · exact ⟨r', h1, h2⟩
        · simp at h1; subst h1; exact absurd h2.symm e
    simp only [this]
theorem om_below {P : Program} {k : TypeId} {R : Value → Option (DataW Unit × List MemPlace)} {b n : Nat} {D : DataW Unit} {w w' : World} (h : w.ownsMap P k R b n D) (hb : Below w.heap.size w w') : w'.ownsMap P k R b n D :=
  h.kept (row := none) ⟨hb.os, hb.tape, hb.output, hb.size, fun k hk _ => hb.block k hk⟩ (by simp)
theorem zeroInt (w : World) : (zeroValue 3).run Tryd.prog w = .ok (.int .i64 0) w := by kernel_rfl
theorem same_key {rs : List Rule} {r : Rule} (hr : Small r) (h : ∀ x ∈ rs, Small x) : rs.any (fun x => ruleCmp x r == 0) = decide (∃ x ∈ rs, keyW x = keyW r) := by
  rw [Bool.eq_iff_iff, decide_eq_true_iff, List.any_eq_true]
  constructor
  · rintro ⟨x, hx, he⟩
    have := ruleCmp_zero.1 (by simpa using he)
    exact ⟨x, hx, by rw [this]⟩
  · rintro ⟨x, hx, he⟩
    have := key_inj ⟨(h x hx).1, (h x hx).2.1, (h x hx).2.2.2⟩ ⟨hr.1, hr.2.1, hr.2.2.2⟩ he
    exact ⟨x, hx, by simpa using ruleCmp_zero.2 this⟩

def GeL (g : Gram) (A : Option Addr) (c MB : Nat) (w : World) (i : Value) (wr : World) : Prop :=
  ∃ (k : Nat) (D : DataW Unit), k ≤ g.rules.length ∧ i = .int .i64 k ∧ checkI g = chkFrom g.terms g.nons (g.rules.take k) (g.rules.drop k) ∧ (∀ x ∈ g.rules.take k, Small x) ∧ wr.ownsMap Tryd.prog 9 (plainElem Tryd.prog 3) MB k D ∧ SeenD D (g.rules.take k) ∧ Below w.heap.size w wr ∧ Blk' wr w.heap.size 24 #[.int .i64 g.terms, .int .i64 g.nons, .int .i64 g.start, .slice A g.rules.length c]

set_option maxRecDepth 100000 in
set_option maxHeartbeats 4000000 in
theorem gramErr_any (g : Gram) (A : Option Addr) (c : Nat) (S : Nat → Prop) (w : World) (h64 : I64 g.terms ∧ I64 g.nons ∧ I64 g.start) (hlc : g.rules.length ≤ c) (hc : c ≤ 9223372036854775807) (hA : Els w S g.rules A) (hS : ∀ b, S b → b < w.heap.size) :
    Calls Tryd.prog 8 #[.agg #[.int .i64 g.terms, .int .i64 g.nons, .int .i64 g.start, .slice A g.rules.length c]] w
      fun e w' => e = .returned (.int .i64 (checkI g)) ∧ Below w.heap.size w w' := by
  obtain ⟨t, n, s0, rs⟩ := g
  dsimp only at *
  have hba : Below w.heap.size w (w.alloc (.cells #[.int .i64 t, .int .i64 n, .int .i64 s0, .slice A rs.length c] 24)) := (Below.refl _ _).alloc (Nat.le_refl _) _
  have HBa := Lib.hid hba
  have HG := Lib.hid (Blk'.new w 24 #[.int .i64 t, .int .i64 n, .int .i64 s0, .slice A rs.length c])
  have HA := Lib.hid hA
  have HS := Lib.hid hS
  have H64 := Lib.hid h64
  clear hba hA hS h64
  go_enter Tryd.func8, Tryd.ntmps8
  by_cases ht : 1 ≤ t ∧ t ≤ 8
  · have e1 : (decide (1 ≤ t) && decide (t ≤ 8)) = true := by simp [ht]
    by_cases hn : 1 ≤ n ∧ n ≤ 10
    · have e2 : (decide (1 ≤ n) && decide (n ≤ 10)) = true := by simp [hn]
      obtain ⟨hn1, hn10⟩ := hn
      by_cases hs : 0 ≤ s0 ∧ s0 ≤ n - 1
      · have e3 : (decide (0 ≤ s0) && decide (s0 ≤ n - 1)) = true := by simp [hs]
        have HBad := Lib.hid (show ¬ gramBad ⟨t, n, s0, rs⟩ by unfold gramBad; dsimp only; omega)
        obtain ⟨ht1, ht8⟩ := ht
        clear hs
        go_wp2_with fail
        refine (in_any t 1 8 _).mono ?_
        rintro e w1 ⟨rfl, rfl⟩
        rw [e1]
        go_wp2_with fail
        refine (in_any n 1 10 _).mono ?_
        rintro e w1 ⟨rfl, rfl⟩
        rw [e2]
        go_wp2_with fail
        refine (in_any s0 0 (n - 1) _).mono ?_
        rintro e w1 ⟨rfl, rfl⟩
        rw [e3]
        clear e1 e2 e3
        by_cases hl : 32 < rs.length
        · have HE := Lib.hid (show checkI ⟨t, n, s0, rs⟩ = 2 by unfold checkI; rw [if_neg HBad.out, if_pos hl])
          go_wp2
          go_ret
          exact ⟨ret_int HE.out.symm, HBa.out⟩
        · have HE := Lib.hid (show checkI ⟨t, n, s0, rs⟩ = chkFrom t n [] rs by unfold checkI; rw [if_neg HBad.out, if_neg hl])
          have hmm := @run_makeMap Tryd.prog
          have hrl : rs.length ≤ 32 := by omega
          have hrl9 : rs.length ≤ 9223372036854775807 := by omega
          have HM0 := Lib.hid (World.ownsMap_made (H := Unit) (w.alloc (.cells #[.int .i64 t, .int .i64 n, .int .i64 s0, .slice A rs.length c] 24)) Tryd.prog 9 (plainElem Tryd.prog 3))
          have hsz : (w.alloc (.cells #[.int .i64 t, .int .i64 n, .int .i64 s0, .slice A rs.length c] 24)).heap.size = w.heap.size + 1 := by simp
          rw [hsz] at HM0
          clear hsz
          go_wp2_with fail
          go_loopw [39] (fun i wr => GeL ⟨t, n, s0, rs⟩ A c (w.heap.size + 1) w i wr) (fun i _ => rs.length - (intOf i).toNat)
          case atStart => exact ⟨0, _, Nat.zero_le _, rfl, HE.out, by simp, HM0.out, ⟨Maps.isMap_empty, fun k => by simp; rfl⟩, HBa.out.alloc HBa.out.size _, HG.out.alloc _⟩
          case round =>
            obtain ⟨wo, hwo⟩ : ∃ wo : World, wo = wr := ⟨_, rfl⟩
            subst hwo
            obtain ⟨k, D, hk, rfl, hchk, hsm, hown, hseen, hb, hG⟩ := hrel
            dsimp only at hk hchk hsm hseen hG
            have HChk := Lib.hid hchk
            have HSm := Lib.hid hsm
            have HOwn := Lib.hid hown
            have HSeen := Lib.hid hseen
            have HB := Lib.hid hb
            have HG1 := Lib.hid hG
            have g0 : wo.cell? ⟨w.heap.size, 0, none⟩ = some (.int .i64 t) := hG.cell 0
            have g1 : wo.cell? ⟨w.heap.size, 1, none⟩ = some (.int .i64 n) := hG.cell 1
            have g2 : wo.cell? ⟨w.heap.size, 2, none⟩ = some (.int .i64 s0) := hG.cell 2
            have g3 : wo.cell? ⟨w.heap.size, 3, none⟩ = some (.slice A rs.length c) := hG.cell 3
            have hzo : w.heap.size < wo.heap.size := hG.lt
            have hzo1 : w.heap.size < wo.heap.size + 1 := by omega
            clear hchk hsm hown hseen hb hG hmm HM0 HG HBa
            by_cases hlt : k < rs.length
            · obtain ⟨q, hq⟩ := get_some hlt
              obtain ⟨bq, oq, Aq, cq, rfl, hSb, hbs, hi, hrc, hcr, hEr, hc0, hc1⟩ := (HA.out.belowB HB.out HS.out).rule hq
              have Hd := Lib.hid (And.intro (drop_cons hq) (take_snoc hq))
              obtain ⟨ql, qr⟩ := q
              dsimp only at hi hrc hcr hEr hc0 hc1
              have hk0 : (0 : Int) ≤ (k : Int) := by omega
              have hk1 : (k : Int) < (rs.length : Int) := by omega
              have hba : Below wo.heap.size wo (wo.alloc (.cells #[.int .i64 ql, .slice Aq qr.length cq] 49)) := (Below.refl _ _).alloc (Nat.le_refl _) _
              have HBa := Lib.hid (bthen HB.out hba HB.out.size)
              have HRB := Lib.hid (Blk'.new wo 49 #[.int .i64 ql, .slice Aq qr.length cq])
              have HEa := Lib.hid (hEr.below hba)
              have HGa := Lib.hid (HG1.out.below hba HG1.out.lt)
              have HOa := Lib.hid (om_below HOwn.out hba)
              clear hq hEr hba
              go_wp2_with fail
              refine (in_any ql 0 (n - 1) _).mono ?_
              rintro e w1 ⟨rfl, rfl⟩
              by_cases hql : 0 ≤ ql ∧ ql ≤ n - 1
              · have e1 : (decide (0 ≤ ql) && decide (ql ≤ n - 1)) = true := by simp [hql]
                rw [e1]
                clear e1
                obtain ⟨hq0, hq1⟩ := hql
                by_cases h4 : 4 < qr.length
                · have HE2 := Lib.hid (show checkI ⟨t, n, s0, rs⟩ = 2 by rw [HChk.out, Hd.out.1, chkFrom, if_neg (by show ¬ (ql < 0 ∨ n ≤ ql); omega), if_pos h4])
                  go_wp2
                  go_ret
                  exact ⟨ret_int HE2.out.symm, HBa.out⟩
                · have hr4 : qr.length ≤ 4 := by omega
                  have hr9 : qr.length ≤ 9223372036854775807 := by omega
                  go_wp2_with fail
                  go_loopw [58] (fun i wr => ∃ m : Nat, m ≤ qr.length ∧ i = .int .i64 m ∧ (∀ s ∈ qr.take m, symIn t n s = true) ∧ Below (wo.alloc (.cells #[.int .i64 ql, .slice Aq qr.length cq] 49)).heap.size (wo.alloc (.cells #[.int .i64 ql, .slice Aq qr.length cq] 49)) wr) (fun i _ => qr.length - (intOf i).toNat)
                  case atStart => exact ⟨0, Nat.zero_le _, rfl, by simp, Below.refl _ _⟩
                  case round =>
                    obtain ⟨wz, hwz⟩ : ∃ wz : World, wz = wr := ⟨_, rfl⟩
                    subst hwz
                    obtain ⟨m, hm, rfl, hall, hbz⟩ := hrel
                    have HAll := Lib.hid hall
                    have HBz := Lib.hid hbz
                    have HBwz := Lib.hid (bthen HBa.out hbz HBa.out.size)
                    have hGz := HGa.out.below hbz HGa.out.lt
                    have HGz := Lib.hid hGz
                    have HRz := Lib.hid (HRB.out.below hbz HRB.out.lt)
                    have hzz : wo.heap.size < wz.heap.size := HRz.out.lt
                    have hzz1 : w.heap.size < wz.heap.size := by omega
                    have hzz2 : w.heap.size < wz.heap.size + 1 := by omega
                    have r0 : wz.cell? ⟨wo.heap.size, 0, none⟩ = some (.int .i64 ql) := HRz.out.cell 0
                    have r1 : wz.cell? ⟨wo.heap.size, 1, none⟩ = some (.slice Aq qr.length cq) := HRz.out.cell 1
                    have z0 : wz.cell? ⟨w.heap.size, 0, none⟩ = some (.int .i64 t) := hGz.cell 0
                    have z1 : wz.cell? ⟨w.heap.size, 1, none⟩ = some (.int .i64 n) := hGz.cell 1
                    have z2 : wz.cell? ⟨w.heap.size, 2, none⟩ = some (.int .i64 s0) := hGz.cell 2
                    have z3 : wz.cell? ⟨w.heap.size, 3, none⟩ = some (.slice (some ⟨bq, oq, none⟩) rs.length c) := hGz.cell 3
                    clear hall hbz hGz
                    by_cases hml : m < qr.length
                    · obtain ⟨s, hs⟩ := get_some hml
                      have HBn : Hid (∀ o : Obj, Below (wo.alloc (.cells #[.int .i64 ql, .slice Aq qr.length cq] 49)).heap.size (wo.alloc (.cells #[.int .i64 ql, .slice Aq qr.length cq] 49)) (wz.alloc o) ∧ Below w.heap.size w (wz.alloc o)) := Lib.hid (fun o => ⟨HBz.out.alloc HBz.out.size o, HBwz.out.alloc HBwz.out.size o⟩)
                      obtain ⟨bs, os, rfl, _, hbss, hsi, sc0, sc1⟩ := (HEa.out.below HBz.out).sym hs
                      have HTs := Lib.hid (take_snoc hs)
                      have HSi := Lib.hid (List.mem_of_getElem? hs)
                      obtain ⟨st, sn⟩ := s
                      dsimp only at hsi sc0 sc1
                      have hm0 : (0 : Int) ≤ (m : Int) := by omega
                      clear hs
                      go_wp2_with fail
                      refine (known_any t n s0 _ st sn _ ⟨_, _, _, rfl⟩).mono ?_
                      rintro e w2 ⟨rfl, hb2⟩
                      cases hsy : symIn t n ⟨st, sn⟩
                      · have HE2 := Lib.hid (show checkI ⟨t, n, s0, rs⟩ = 3 by
                          rw [HChk.out, Hd.out.1, chkFrom, if_neg (by show ¬ (ql < 0 ∨ n ≤ ql); omega), if_neg h4, if_pos]
                          exact List.any_eq_true.2 ⟨_, HSi.out, by rw [hsy]; rfl⟩)
                        have HZ := Lib.hid (bthen (HBn.out _).2 hb2 ((HBn.out _).2.size))
                        clear hsy hb2
                        go_wp2
                        go_ret
                        exact ⟨ret_int HE2.out.symm, HZ.out⟩
                      · have HSy := Lib.hid hsy
                        have HZ := Lib.hid (bthen (HBn.out _).1 hb2 ((HBn.out _).1.size))
                        clear hsy hb2
                        go_wp2
                        go_roundw
                        case rel => exact ⟨m + 1, hml, by go_num, by
                          rw [HTs.out]
                          intro x hx
                          rcases List.mem_append.1 hx with hx | hx
                          · exact HAll.out x hx
                          · simp at hx; subst hx; exact HSy.out, HZ.out⟩
                        case measure => simp [intOf]; omega
                    · have hall : ∀ s ∈ qr, symIn t n s = true := by have h := HAll.out; rwa [List.take_of_length_le (by omega)] at h
                      have hany : (qr.any fun s => !symIn t n s) = false := by rw [← Bool.not_eq_true, List.any_eq_true]; rintro ⟨s, hs, h⟩; rw [hall s hs] at h; cases h
                      have hsmall : Small ⟨ql, qr⟩ := ⟨hq0, by show ql < 10; omega, hr4, fun s hs => by
                        obtain ⟨h1, h2⟩ := symIn_true (hall s hs)
                        refine ⟨h1, ?_⟩
                        split at h2 <;> omega⟩
                      have HSmall := Lib.hid hsmall
                      have HSame := Lib.hid (same_key hsmall HSm.out)
                      have HOz := Lib.hid (om_below HOa.out HBz.out)
                      have HEz := Lib.hid (HEa.out.below HBz.out)
                      have HChk2 := Lib.hid (show checkI ⟨t, n, s0, rs⟩ = if (rs.take k).any (fun x => ruleCmp x ⟨ql, qr⟩ == 0) then 6 else chkFrom t n (rs.take k ++ [⟨ql, qr⟩]) (rs.drop (k + 1)) by
                        rw [HChk.out, Hd.out.1, chkFrom, if_neg (by show ¬ (ql < 0 ∨ n ≤ ql); omega), if_neg h4, if_neg (by rw [hany]; simp)])
                      clear hall hany hsmall g0 g1 g2 g3 hc0 hc1
                      go_wp2_with fail
                      refine (key_any ⟨ql, qr⟩ Aq cq _ _ ⟨HSmall.out.1, HSmall.out.2.1⟩ HSmall.out.2.2.2 hr4 hrc hcr HEz.out).mono ?_
                      rintro e w2 ⟨rfl, hb2⟩
                      have HKW := Lib.hid (show (keyR ⟨ql, qr⟩).data.toList = keyW ⟨ql, qr⟩ from rfl)
                      have hks : (keyR ⟨ql, qr⟩).size ≤ maxLen := by
                        unfold keyR
                        have h1 := keyF_size qr (digS ql.toNat ++ ⟨#[58]⟩)
                        have h2 : (digS ql.toNat ++ ⟨#[58]⟩ : ByteArray).size = 2 := by rw [ByteArray.size_append]; rfl
                        unfold maxLen
                        rw [h2] at h1
                        show (qr.foldl keyS (digS ql.toNat ++ ⟨#[58]⟩)).size ≤ _
                        omega
                      have hkey := WideMaps.keyOf_string_mk (P := Tryd.prog) Tryd.underlying9 hks
                      rw [HKW.out] at hkey
                      have HKey := Lib.hid hkey
                      have hO2 := om_below HOz.out hb2
                      obtain ⟨cn, hlk, hat, _⟩ := hO2.lookup_int (Maps.string_keyed Tryd.underlying9) Tryd.underlying53 Tryd.underlying3 (zeroInt _) hkey
                      have hcn : cn = if ∃ r ∈ rs.take k, keyW r = keyW ⟨ql, qr⟩ then 1 else 0 := by
                        have h := HSeen.out.2 (keyW ⟨ql, qr⟩)
                        rw [hat] at h
                        injection h with h
                        injection h
                      have hc01 : 0 ≤ cn ∧ cn ≤ 1 := by rw [hcn]; split <;> omega
                      have hwf : (Lit.int .i64 (cn + 1)).wf = true := by
                        have h : cn = 0 ∨ cn = 1 := by omega
                        rcases h with h | h <;> rw [h] <;> decide
                      obtain ⟨w3, hup, hO3, hg3⟩ := hO2.update (Maps.string_keyed Tryd.underlying9) Tryd.underlying53 (by unfold maxLen; omega) hkey (plainElem_int (q := .i64) (a := cn + 1) Tryd.underlying3 hwf)
                      have hcn0 := hc01.1
                      have hcn1 := hc01.2
                      have HCn := Lib.hid hcn
                      have HO3 := Lib.hid hO3
                      have hMB : w.heap.size + 1 < wo.heap.size := HOwn.out.lt
                      have hk3 : Kept (fun b => b = w.heap.size + 1) w2 w3 := Kept.of_grown hg3 (fun b hb => by injection hb with hb; exact hb.symm)
                      have HR3 := Lib.hid ((HRz.out.below hb2 HRz.out.lt).kept hk3 (by omega))
                      have HG3 := Lib.hid ((HGz.out.below hb2 HGz.out.lt).kept hk3 (by omega))
                      have HE3 := Lib.hid ((HEz.out.below hb2).kept hk3 (fun b hb e => by have := HS.out b hb; omega))
                      have HB3 := Lib.hid ((bthen HBwz.out hb2 HBwz.out.size).trans (hk3.to_below (B := w.heap.size) (fun b hb => by omega) (by have := HBwz.out.size; have := hb2.size; omega)))
                      have R0 : w2.cell? ⟨wo.heap.size, 0, none⟩ = some (.int .i64 ql) := (HRz.out.below hb2 HRz.out.lt).cell 0
                      have R1 : w2.cell? ⟨wo.heap.size, 1, none⟩ = some (.slice Aq qr.length cq) := (HRz.out.below hb2 HRz.out.lt).cell 1
                      have Q0 : w3.cell? ⟨wo.heap.size, 0, none⟩ = some (.int .i64 ql) := HR3.out.cell 0
                      have Q1 : w3.cell? ⟨wo.heap.size, 1, none⟩ = some (.slice Aq qr.length cq) := HR3.out.cell 1
                      clear hb2 hO2 hO3 hg3 hk3 hat hcn hkey hc01 hwf hks r0 r1 z0 z1 z2 z3
                      go_wp2_with fail
                      refine (key_any ⟨ql, qr⟩ Aq cq _ _ ⟨HSmall.out.1, HSmall.out.2.1⟩ HSmall.out.2.2.2 hr4 hrc hcr HE3.out).mono ?_
                      rintro e w4 ⟨rfl, hb4⟩
                      have hO4 := om_below HO3.out hb4
                      obtain ⟨c2, hlk2, hat2, _⟩ := hO4.lookup_int (Maps.string_keyed Tryd.underlying9) Tryd.underlying53 Tryd.underlying3 (zeroInt _) HKey.out
                      rw [Maps.atKey_put_same (k := .string (keyW ⟨ql, qr⟩)) HSeen.out.1 (show WideAt.IsKeyLit (.string (keyW ⟨ql, qr⟩)) from trivial)] at hat2
                      have hc2 : c2 = cn + 1 := by injection hat2 with h; injection h with _ h; exact h.symm
                      subst hc2
                      have HB4 := Lib.hid (bthen HB3.out hb4 HB3.out.size)
                      have HG4 := Lib.hid (HG3.out.below hb4 HG3.out.lt)
                      have HO4 := Lib.hid hO4
                      clear hb4 hO4 hat2 hlk hup Q0 Q1 R0 R1
                      have hcc : cn = 0 ∨ cn = 1 := by omega
                      rcases hcc with h0 | h1
                      · subst h0
                        have hnone : ¬ ∃ r ∈ rs.take k, keyW r = keyW ⟨ql, qr⟩ := fun h => by have h2 := HCn.out; rw [if_pos h] at h2; omega
                        have HF := Lib.hid (show checkI ⟨t, n, s0, rs⟩ = chkFrom t n (rs.take (k + 1)) (rs.drop (k + 1)) by rw [HChk2.out, HSame.out, decide_eq_false hnone, Hd.out.2]; rfl)
                        clear hnone
                        go_wp2
                        go_roundw
                        case rel => exact ⟨k + 1, _, hlt, by go_num, HF.out, by
                          rw [Hd.out.2]
                          intro x hx
                          rcases List.mem_append.1 hx with hx | hx
                          · exact HSm.out x hx
                          · simp at hx; subst hx; exact HSmall.out, HO4.out, by rw [Hd.out.2]; exact HSeen.out.put _, HB4.out, HG4.out⟩
                        case measure => simp [intOf]; omega
                      · subst h1
                        have hsome : ∃ r ∈ rs.take k, keyW r = keyW ⟨ql, qr⟩ := by
                          false_or_by_contra
                          rename_i h
                          have h2 := HCn.out
                          rw [if_neg h] at h2
                          omega
                        have HF := Lib.hid (show checkI ⟨t, n, s0, rs⟩ = 6 by rw [HChk2.out, HSame.out, decide_eq_true hsome]; rfl)
                        clear hsome
                        go_wp2
                        go_ret
                        exact ⟨ret_int HF.out.symm, HB4.out⟩
              · have e1 : (decide (0 ≤ ql) && decide (ql ≤ n - 1)) = false := by
                  rw [Bool.and_eq_false_iff, decide_eq_false_iff_not, decide_eq_false_iff_not]; omega
                rw [e1]
                have HE2 := Lib.hid (show checkI ⟨t, n, s0, rs⟩ = 3 by rw [HChk.out, Hd.out.1, chkFrom, if_pos (by show ql < 0 ∨ n ≤ ql; omega)])
                clear e1 hql
                go_wp2
                go_ret
                exact ⟨ret_int HE2.out.symm, HBa.out⟩
            · have HE2 := Lib.hid (show checkI ⟨t, n, s0, rs⟩ = 0 by rw [HChk.out, List.drop_of_length_le (by omega)]; rfl)
              go_wp2
              go_ret
              exact ⟨ret_int HE2.out.symm, HB.out⟩
      · have e3 : (decide (0 ≤ s0) && decide (s0 ≤ n - 1)) = false := by rw [Bool.and_eq_false_iff, decide_eq_false_iff_not, decide_eq_false_iff_not]; omega
        have HE := Lib.hid (show checkI ⟨t, n, s0, rs⟩ = 1 by unfold checkI; rw [if_pos (by unfold gramBad; dsimp only; omega)])
        obtain ⟨ht1, ht8⟩ := ht
        clear hs
        go_wp2_with fail
        refine (in_any t 1 8 _).mono ?_
        rintro e w1 ⟨rfl, rfl⟩
        rw [e1]
        go_wp2_with fail
        refine (in_any n 1 10 _).mono ?_
        rintro e w1 ⟨rfl, rfl⟩
        rw [e2]
        go_wp2_with fail
        refine (in_any s0 0 (n - 1) _).mono ?_
        rintro e w1 ⟨rfl, rfl⟩
        rw [e3]
        clear e1 e2 e3
        go_wp2
        go_ret
        exact ⟨ret_int HE.out.symm, HBa.out⟩
    · have e2 : (decide (1 ≤ n) && decide (n ≤ 10)) = false := by rw [Bool.and_eq_false_iff, decide_eq_false_iff_not, decide_eq_false_iff_not]; omega
      have HE := Lib.hid (show checkI ⟨t, n, s0, rs⟩ = 1 by unfold checkI; rw [if_pos (by unfold gramBad; dsimp only; omega)])
      obtain ⟨ht1, ht8⟩ := ht
      clear hn
      go_wp2_with fail
      refine (in_any t 1 8 _).mono ?_
      rintro e w1 ⟨rfl, rfl⟩
      rw [e1]
      go_wp2_with fail
      refine (in_any n 1 10 _).mono ?_
      rintro e w1 ⟨rfl, rfl⟩
      rw [e2]
      clear e1 e2
      go_wp2
      go_ret
      exact ⟨ret_int HE.out.symm, HBa.out⟩
  · have e1 : (decide (1 ≤ t) && decide (t ≤ 8)) = false := by rw [Bool.and_eq_false_iff, decide_eq_false_iff_not, decide_eq_false_iff_not]; omega
    have HE := Lib.hid (show checkI ⟨t, n, s0, rs⟩ = 1 by unfold checkI; rw [if_pos (by unfold gramBad; dsimp only; omega)])
    clear ht
    go_wp2_with fail
    refine (in_any t 1 8 _).mono ?_
    rintro e w1 ⟨rfl, rfl⟩
    rw [e1]
    clear e1
    go_wp2
    go_ret
    exact ⟨ret_int HE.out.symm, HBa.out⟩
end Go.Proofs.YtagcnhiinmiklaaDoor
