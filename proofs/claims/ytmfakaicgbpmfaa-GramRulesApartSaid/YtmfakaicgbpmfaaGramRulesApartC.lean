/- The walk of the law GramRulesApart. -/
import Derived.Test.YtmfakaicgbpmfaaApartP
import Derived.Test.YtmfakaicgbpmfaaWorks
import Derived.Test.YtmfakaicgbpmfaaIdxInt
import Derived.Test.YtmfakaicgbpmfaaOpen
import Derived.Deep.OwnRows
namespace Go.Proofs.Ytmfakaicgbpmfaa
open Go.RowKit
set_option linter.unusedVariables false

def MB (ms : List Int) : Array Value := (ms.map (fun k => Value.int .i64 k)).toArray
theorem made_zero (n : Nat) : madeCells #[.int .i64 0] n = MB (List.replicate n 0) := by
  apply Array.ext'
  simp only [madeCells, MB, Array.toList_map, Array.toList_range, List.map_replicate]
  apply List.ext_getElem
  · simp
  · intro i h1 h2
    simp [Nat.mod_one]
theorem MB_get {ms : List Int} {i : Nat} {v : Int} (h : ms[i]? = some v) : (MB ms)[i]? = some (.int .i64 v) := by simp [MB, h]
theorem MB_set (ms : List Int) (i : Nat) (v : Int) : (MB ms).setIfInBounds i (.int .i64 v) = MB (ms.set i v) := by
  apply Array.ext'
  simp [MB, List.map_set]
theorem apart1_any (x : Int) (w : World) : Calls Try.prog 18 #[.int .i64 x] w fun e w' => e = .returned (.bool (x != 1)) ∧ Below w.heap.size w w' := by
  go_enter Try.func18, Try.ntmps18
  go_wp2
  go_ret
  exact ⟨rfl, Below.refl _ _⟩

theorem els_ints {w : World} {S : Nat → Prop} {g : Nat} {t : TypeId} {ms : List Int} (hb : Blk' w g t (MB ms)) (h : ∀ v ∈ ms, I64 v) (hS : S g) : Els w S ms (some ⟨g, 0, none⟩) :=
  fun _ => ⟨g, 0, rfl, hS, fun i x hi => ⟨[.int .i64 x], ⟨rfl, h x (List.mem_of_getElem? hi)⟩, fun j u hu => by
    match j, hu with
    | 0, hu =>
      simp at hu; subst hu
      have e : 0 + i * Dat.size Int + 0 = i := by show 0 + i * 1 + 0 = i; omega
      rw [e, hb.cell]
      exact MB_get hi⟩⟩
def ApO (g : Gram) (A : Option Addr) (c G M : Nat) (S : Nat → Prop) (w : World) (i : Value) (wr : World) : Prop :=
  ∃ (k : Nat) (ms : List Int), (k : Int) ≤ g.nons ∧ i = .int .i64 k ∧ Counts g.rules k [] ms ∧ Below w.heap.size w wr ∧ Blk' wr G 35 #[.int .i64 g.terms, .int .i64 g.nons, .int .i64 g.start, .slice A g.rules.length c] ∧ Blk' wr M 3 (MB ms) ∧ Els wr S g.rules A
def ApI (g : Gram) (k : Int) (l : List Int) (M : Nat) (wx : World) (i : Value) (wr : World) : Prop :=
  ∃ (m : Nat) (ms : List Int), m ≤ l.length ∧ i = .int .i64 m ∧ Counts g.rules k (l.take m) ms ∧ wx.grownBy wr (some M) ∧ Blk' wr M 3 (MB ms)

set_option maxRecDepth 100000 in
set_option maxHeartbeats 2000000 in
theorem gramRulesApart_any (A0 : Option Addr) (c0 : Nat) (raw : List Int) (S0 : Nat → Prop) (w : World) (h1 : raw.length ≤ c0) (h2 : c0 ≤ 9223372036854775807) (hA0 : Els w S0 raw A0) (hS0 : ∀ b, S0 b → b < w.heap.size) :
    Calls Try.prog 4 #[.slice A0 raw.length c0] w fun e w' => e = .returned (.bool true) ∧ Below w.heap.size w w' := by
  go_enter Try.func4, Try.ntmps4
  go_wp2_with fail
  refine (grammar_any A0 c0 raw S0 _ h1 h2 hA0 hS0).mono ?_
  rintro e w1 ⟨g, v, hmade, rfl, hvl, hb1⟩
  obtain ⟨s, rfl, _, _, _, hs⟩ := hvl.gram
  obtain ⟨A, c, rfl, hlc, hc, hA⟩ := hs.slice
  have HM := Lib.hid hmade
  obtain ⟨t, nn, s0, rs⟩ := g
  dsimp only at *
  have hA1 := Lib.hid (hA.keep (S' := fun b => b < w1.heap.size) (fun _ _ _ => rfl) (fun b hb => hb.2))
  have HB1 := Lib.hid hb1
  have hlen : rs.length ≤ 8 := hmade.2.2.2.2.2.2.2.1
  have hn0 : 1 ≤ nn := hmade.2.2.1
  have hn1 : nn ≤ 4 := hmade.2.2.2.1
  clear hvl hs hA hb1 hmade hA0
  go_wp2_with fail
  refine (works_any _).mono ?_
  rintro e w2 ⟨rfl, hb2⟩
  have hba : Below w1.heap.size w1 (w1.alloc (.cells #[.int .i64 t, .int .i64 nn, .int .i64 s0, .slice A rs.length c] 35)) := (Below.refl _ _).alloc (Nat.le_refl _) _
  have hb12 := bthen hba hb2 (by simp)
  have hG2 := (Blk'.new w1 35 #[.int .i64 t, .int .i64 nn, .int .i64 s0, .slice A rs.length c]).below hb2 (by simp)
  have HB2 := Lib.hid (bthen HB1.out hb12 HB1.out.size)
  have HG2 := Lib.hid hG2
  have HA2 := Lib.hid (hA1.out.below hb12)
  have g1 : w2.cell? ⟨w1.heap.size, 1, none⟩ = some (.int .i64 nn) := hG2.cell 1
  have g3 : w2.cell? ⟨w1.heap.size, 3, none⟩ = some (.slice A rs.length c) := hG2.cell 3
  have hz2 : w1.heap.size < w2.heap.size := hG2.lt
  have hmk : ∀ W : World, (Instr.makeSlice 32 (.int .i64 (rs.length : Int)) (.int .i64 (rs.length : Int))).run Try.prog W = .ok (.slice (some ⟨W.heap.size, 0, none⟩) rs.length rs.length) (W.alloc (.cells (madeCells #[.int .i64 0] rs.length) 3)) := fun W => run_make_row' (P := Try.prog) 32 3 (.int .i64 0) 8 Try.underlying32 infoInt rfl .i64 .i64 rs.length (by omega) (by omega) W
  have hwz : w.heap.size ≤ w2.heap.size := HB2.out.size
  clear hba hb2 hb12 hG2 hA1 HB1
  go_wp2
  go_loopw [20] (fun i wr => ApO ⟨t, nn, s0, rs⟩ A c w1.heap.size w2.heap.size (fun b => b < w1.heap.size) w i wr) (fun i _ => nn.toNat - (intOf i).toNat)
  case atStart => exact ⟨0, List.replicate rs.length 0, by simp; omega, rfl, counts_start rs (fun r hr => (HM.out.2.2.2.2.2.2.2.2.2 r hr).1), HB2.out.alloc HB2.out.size _, HG2.out.alloc _, by rw [made_zero]; exact Blk'.new _ _ _, HA2.out.below ((Below.refl _ _).alloc (Nat.le_refl _) _)⟩
  case round =>
    obtain ⟨wo, hwo⟩ : ∃ wo : World, wo = wr := ⟨_, rfl⟩
    subst hwo
    obtain ⟨k, ms, hk, rfl, hcnt, hb, hG, hM, hE⟩ := hrel
    dsimp only at hk hcnt hG hE
    have HC := Lib.hid hcnt
    have HB := Lib.hid hb
    have HG := Lib.hid hG
    have HMb := Lib.hid hM
    have HE := Lib.hid hE
    have q0 : wo.cell? ⟨w1.heap.size, 0, none⟩ = some (.int .i64 t) := hG.cell 0
    have q1 : wo.cell? ⟨w1.heap.size, 1, none⟩ = some (.int .i64 nn) := hG.cell 1
    have q2 : wo.cell? ⟨w1.heap.size, 2, none⟩ = some (.int .i64 s0) := hG.cell 2
    have q3 : wo.cell? ⟨w1.heap.size, 3, none⟩ = some (.slice A rs.length c) := hG.cell 3
    clear hcnt hb hG hM hE HB2 HG2 HA2 g1 g3 hmk
    by_cases hlt : (k : Int) < nn
    · go_wp2_with fail
      refine (of_any ⟨t, nn, s0, rs⟩ (k : Int) A c _ _ hlc hc HE.out).mono ?_
      rintro e w3 ⟨v, rfl, hown, hb3⟩
      rw [made_whereE HM.out (by omega) hlt]
      have hl : ofL ⟨t, nn, s0, rs⟩ (k : Int) = whereFrom (fun r => r.left == (k : Int)) 0 rs := by unfold ofL whereL; rw [made_whereE HM.out (by omega) hlt]; rfl
      rw [hl] at hown
      clear hl
      have Hnd := Lib.hid (whereFrom_nodup (p := fun r => r.left == (k : Int)) 0 rs)
      have Hmem := Lib.hid (fun j => @mem_whereFrom (fun r => r.left == (k : Int)) 0 rs j)
      have Hnx := Lib.hid (fun ms' => @counts_next rs k ms')
      have hll := whereFrom_len (fun r => r.left == (k : Int)) 0 rs
      generalize whereFrom (fun r => r.left == (k : Int)) 0 rs = l at *
      obtain ⟨Av, cv, hv, hv1, hv2, _⟩ := hown.form
      subst hv
      have HO := Lib.hid hown
      have HB3 := Lib.hid (bthen HB.out hb3 HB.out.size)
      have HM3 := Lib.hid (HMb.out.below hb3 HMb.out.lt)
      have hMw : w2.heap.size < wo.heap.size := HMb.out.lt
      have hsz3 : wo.heap.size ≤ w3.heap.size := hb3.size
      have HG3 := Lib.hid (HG.out.below hb3 HG.out.lt)
      have HE3 := Lib.hid (HE.out.below hb3)
      clear hown hb3 q0 q1 q2 q3 HB HG HMb HE
      go_wp2
      go_loopw [33] (fun i wr => ApI ⟨t, nn, s0, rs⟩ (k : Int) l w2.heap.size w3 i wr) (fun i _ => l.length - (intOf i).toNat)
      case atStart => exact ⟨0, ms, Nat.zero_le _, rfl, HC.out, World.grownBy.refl _ _, HM3.out⟩
      case round =>
        obtain ⟨m, ms', hm, rfl, hcnt, hg, hM⟩ := hrel
        dsimp only at hcnt
        have HC' := Lib.hid hcnt
        have HG' := Lib.hid hg
        have HM' := Lib.hid hM
        have HO' := Lib.hid (HO.out.grown hg (fun i hi => by injection hi with hi; subst hi; exact ⟨fun e => by have := (HO.out.block _ e).1; omega, by simp; omega⟩))
        clear hcnt hg hM
        by_cases hml : m < l.length
        · obtain ⟨j, hj⟩ := get_some hml
          obtain ⟨gb, cb, cs, hvb, _, hgb, ⟨hcs, hij⟩, hat⟩ := HO'.out.at_ hj
          subst hcs
          injection hvb with e1 e2 e3
          subst e1; subst e3
          have hcj : wr.cell? ⟨gb, m, none⟩ = some (.int .i64 j) := by have h := hat.c0; rwa [show m * Dat.size Int = m from by show m * 1 = m; omega] at h
          obtain ⟨i, r, hi, hp, hje⟩ := (Hmem.out j).1 (List.mem_of_getElem? hj)
          simp only [Nat.zero_add] at hje
          subst hje
          have hil : i < rs.length := (List.getElem?_eq_some_iff.1 hi).1
          have Hts := Lib.hid (take_snoc hj)
          have hnot : (i : Int) ∉ l.take m := by
            intro hin
            have hnd := Hnd.out
            rw [← List.take_append_drop m l, drop_cons hj] at hnd
            exact (List.nodup_append.1 hnd).2.2 _ hin _ (by simp) rfl
          have hvi := HC'.out.2 i r hi
          rw [if_neg hnot] at hvi
          have Hnot := Lib.hid hnot
          generalize hve : ((if r.left < (k : Int) then (1 : Int) else 0) + 0) = vi at hvi
          have hvr : 0 ≤ vi ∧ vi ≤ 1 := by rw [← hve]; split <;> omega
          have hv0 := hvr.1
          have hv3 := hvr.2
          have Hvi := Lib.hid hvi
          have qM : wr.cell? ⟨w2.heap.size, i, none⟩ = some (.int .i64 vi) := (HM'.out.cell i).trans (MB_get hvi)
          have qF : wr.frozen? ⟨w2.heap.size, i, none⟩ = false := HM'.out.frozen i
          clear hve hvi hnot hat hij hj hi hp hvr
          have hi0 : (0 : Int) ≤ (i : Int) := by omega
          have hi1 : (i : Int) < (rs.length : Int) := by omega
          go_wp2
          go_roundw
          case rel => exact ⟨m + 1, ms'.set i (vi + 1), hml, by go_num, by rw [Hts.out]; exact counts_step HC'.out Hnot.out Hvi.out, only_setCell HG'.out (.inl rfl) _, by rw [← MB_set]; exact HM'.out.set_ i _⟩
          case measure => simp [intOf]; omega
        · have hmx : m = l.length := by omega
          subst hmx
          have hcf : Counts rs (k : Int) l ms' := by have h := HC'.out; rwa [List.take_length] at h
          have Hcf := Lib.hid (Hnx.out ms' hcf)
          clear hcf
          go_wp2
          go_roundw
          case rel => exact ⟨k + 1, ms', by show ((k + 1 : Nat) : Int) ≤ nn; omega, by go_num, by have h := Hcf.out; simpa using h, HB3.out.grown HG'.out HB3.out.size (fun i hi => by injection hi with hi; omega), HG3.out.grown HG'.out (by simp; omega), HM'.out, HE3.out.keep (fun p hp hlt => World.cell?_of_block (HG'.out.block p.block hlt (fun e => by injection e with e; omega))) (fun _ h => h)⟩
          case measure => simp [intOf]; omega
    · have hkn : (k : Int) = nn := by omega
      have hc := HC.out
      rw [hkn] at hc
      have hany := counts_end hc (fun r hr => (HM.out.2.2.2.2.2.2.2.2.2 r hr).2.1)
      have hi64 : ∀ v ∈ ms, I64 v := by
        intro v hv
        obtain ⟨i, hi, rfl⟩ := List.getElem_of_mem hv
        have h3 := hc.2 i _ (List.getElem?_eq_getElem (by have := hc.1; omega : i < rs.length))
        rw [List.getElem?_eq_getElem hi] at h3
        injection h3 with h3
        rw [h3]
        constructor <;> (split <;> simp)
      have HEm := Lib.hid (els_ints (S := fun b => b < wo.heap.size) HMb.out hi64 HMb.out.lt)
      have hml := hc.1
      have Hml := Lib.hid hml
      have Hany := Lib.hid hany
      clear hkn hc hany hi64 hml q0 q1 q2 q3
      go_wp2_with fail
      refine (contInt_n (some ⟨w2.heap.size, 0, none⟩) rs.length rs.length ms Hml.out.symm _ _ _ #[] (fun x => x != 1) (by rw [Hml.out]; omega) HEm.out (isGo_of Try.func18 (by kernel_rfl) (by kernel_rfl)) (fun x W _ _ => apart1_any x W)).mono ?_
      rintro e w4 ⟨rfl, hb4⟩
      rw [Hany.out]
      have HB4 := Lib.hid (bthen HB.out hb4 HB.out.size)
      clear hb4
      go_wp2
      go_ret
      exact ⟨rfl, HB4.out⟩

theorem gramRulesApart_row (raw : List Int) (v : Value) (W : World) (h : Vl W (OldS W) raw v) :
    Calls Try.prog 4 #[v] W fun e W' => e = .returned (.bool true) ∧ Below W.heap.size W W' := by
  obtain ⟨A, c, rfl, h1, h2, hA⟩ := h.slice
  exact gramRulesApart_any A c raw (OldS W) W h1 h2 hA (fun b h => h)
end Go.Proofs.Ytmfakaicgbpmfaa
