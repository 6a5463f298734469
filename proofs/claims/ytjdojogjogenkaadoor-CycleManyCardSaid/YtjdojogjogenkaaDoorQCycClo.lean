/- Contract: cycle.closure: the nonterminals to which steps lead. -/
import Derived.Test.YtjdojogjogenkaaDoorQp2
import Derived.Test.YtjdojogjogenkaaDoorQp1
import Derived.Deep.Cut
import Derived.IntWalk

namespace Go.Proofs.YtjdojogjogenkaaDoor
open Go.RowKit
set_option linter.unusedVariables false

def StepR (st : List (Int × Int)) (a b : Nat) : Prop := ((a : Int), (b : Int)) ∈ st
def ClA (n bf : Nat) (w2 : World) (i : Value) (wr : World) : Prop :=
  ∃ (k : Nat) (bs : List Nat), k ≤ n ∧ i = .int .i64 k ∧ bs.length = k ∧ RowP wr bf n n bs (List.replicate k (List.replicate n false)) ∧ Kept (fun b => b = bf) w2 wr
def ClB (st : List (Int × Int)) (n bf : Nat) (bs : List Nat) (B : Nat) (w0 : World) (i : Value) (wr : World) : Prop :=
  ∃ (t : Nat) (f : List (List Bool)), t ≤ st.length ∧ i = .int .i64 t ∧ RowsM wr bf bs n n n f ∧ (∀ a b, Gt f a b ↔ StepR (st.take t) a b) ∧ Below B w0 wr
def ClC (E : Nat → Nat → Prop) (n bf : Nat) (bs : List Nat) (k i : Nat) (B : Nat) (w0 : World) (j : Nat) (wr : World) : Prop :=
  ∃ (f : List (List Bool)), RowsM wr bf bs n n n f ∧ CloS E n k i j f ∧ Below B w0 wr
def RetClo (n : Nat) (st : List (Int × Int)) (w : World) (e : Ending) (w' : World) : Prop :=
  ∃ bf bs f, e = .returned (.slice (some ⟨bf, 0, none⟩) n n) ∧ RowsM w' bf bs n n n f ∧ (∀ a b, a < n → b < n → (Gt f a b ↔ Plus (StepR st) a b)) ∧ (∀ b ∈ bf :: bs, w.heap.size ≤ b) ∧ Below w.heap.size w w'

set_option maxRecDepth 100000 in
set_option maxHeartbeats 8000000 in
theorem closure_any (n : Nat) (st : List (Int × Int)) (A : Option Addr) (c : Nat) (S : Nat → Prop) (w : World) (hn : n ≤ 100) (hm : st.length ≤ 1000000) (hA : Els w S st A) (hS : ∀ b, S b → b < w.heap.size) (hin : ∀ s ∈ st, (0 ≤ s.1 ∧ s.1 < (n : Int)) ∧ 0 ≤ s.2 ∧ s.2 < (n : Int)) :
    Calls Tryd.prog 61 #[.int .i64 (n : Int), .slice A st.length c] w (RetClo n st w) := by
  have HA := Lib.hid hA
  have HS := Lib.hid hS
  have HIn := Lib.hid hin
  have hmk := mkRows n (by omega)
  have hmk2 := make_eq n (by omega)
  have hn9 : (n : Int) ≤ 100 := by omega
  obtain ⟨w2, hw2⟩ : ∃ w2 : World, w2 = w.alloc (.cells (scells [] 0 n) 53) := ⟨_, rfl⟩
  have hb2 : Below w.heap.size w w2 := by rw [hw2]; exact (Below.refl _ _).alloc (Nat.le_refl _) _
  have HB2 := Lib.hid hb2
  have HF2 : Hid (Blk' w2 w.heap.size 53 (scells [] 0 n)) := Lib.hid (by rw [hw2]; exact Blk'.new _ _ _)
  have HW2 := Lib.hid hw2
  clear hA hS hin hw2 hb2
  go_enter Tryd.func61, Tryd.ntmps61
  go_upto_region 2 with (fail)
  rw [← HW2.out]
  go_wp2_with fail
  go_loopw [16] (fun i wr => ClA n w.heap.size w2 i wr) (fun i _ => n - (intOf i).toNat)
  case atStart => exact ⟨0, [], Nat.zero_le _, rfl, rfl, RowP.start n HF2.out, Kept.refl _ _⟩
  case round =>
    obtain ⟨wo, hwo⟩ : ∃ wo : World, wo = wr := ⟨_, rfl⟩
    subst hwo
    obtain ⟨k, bs, hk, rfl, hbl, hP, hkp⟩ := hrel
    have HP := Lib.hid hP
    have HK := Lib.hid hkp
    have zF := hP.outer.lt
    have hzo := hkp.size
    clear hP hkp
    by_cases hkn : k < n
    · have hk0 : (0 : Int) ≤ (k : Int) := by omega
      have hk9 : (k : Int) < (n : Int) := by omega
      have c0 : wo.cell? ⟨w.heap.size, k, none⟩ = some (.slice none 0 0) := (HP.out.outer.cell k).trans (scells_nil (by omega) hkn)
      have f0 := HP.out.outer.frozen k
      have HBl := Lib.hid hbl
      have HK2 : Hid (Kept (fun b => b = w.heap.size) wo ((wo.setCell ⟨w.heap.size, k, none⟩ (.slice (some ⟨wo.heap.size, 0, none⟩) n n)).alloc (.cells (bcells (List.replicate n false)) 4))) := Lib.hid (((Kept.refl (fun b => b = w.heap.size) wo).setCell (p := ⟨w.heap.size, k, none⟩) (.inl rfl) _).alloc _)
      have HN2 : Hid (RowP ((wo.setCell ⟨w.heap.size, k, none⟩ (.slice (some ⟨wo.heap.size, 0, none⟩) n n)).alloc (.cells (bcells (List.replicate n false)) 4)) w.heap.size n n (bs ++ [wo.heap.size]) (List.replicate (k + 1) (List.replicate n false))) := Lib.hid (by
        rw [List.replicate_succ']
        refine HP.out.next (by omega) HK2.out ?_ (Blk'.new' _ _ _ (by simp [World.setCell])) (by simp) (Nat.le_refl _)
        rw [← scells_set (by omega), hbl]
        exact (HP.out.outer.set_ k _).alloc _)
      have zF2 : w.heap.size < wo.heap.size + 1 := by omega
      clear hbl
      go_wp2
      go_roundw
      case rel => exact ⟨k + 1, bs ++ [wo.heap.size], hkn, by go_num, by simp [HBl.out], HN2.out, HK.out.trans HK2.out⟩
      case measure => simp [intOf]; omega
    · have hkk : k = n := by omega
      have HRM : Hid (RowsM wo w.heap.size bs n n n (List.replicate n (List.replicate n false))) := Lib.hid (by have h := HP.out.done (by omega) (by omega); rw [hkk] at h; exact h)
      have HBs : Hid (∀ b ∈ bs, w.heap.size < b) := Lib.hid (fun b hb => (HP.out.lt b hb).1)
      have HB3 : Hid (Below w.heap.size w wo) := Lib.hid (bthen HB2.out (HK.out.to_below (B := w.heap.size) (fun b hb => by omega) HB2.out.size) (Nat.le_refl _))
      have HZ : Hid (∀ a b, Gt (List.replicate n (List.replicate n false)) a b ↔ StepR (st.take 0) a b) := Lib.hid (fun a b => ⟨fun h => by
        unfold Gt at h
        rw [List.getD_eq_getElem?_getD, List.getElem?_replicate] at h
        split at h
        · simp [List.getElem?_replicate] at h
        · simp at h, fun h => by simp [StepR] at h⟩)
      have hst9 : st.length ≤ 9223372036854775807 := by omega
      clear HP HK HW2 HB2 HF2
      go_wp2_with fail
      clear hkk hkn hk
      go_loopw [27] (fun i wr => ClB st n w.heap.size bs w.heap.size w i wr) (fun i _ => st.length - (intOf i).toNat)
      case atStart => exact ⟨0, _, Nat.zero_le _, rfl, HRM.out, HZ.out, HB3.out⟩
      case round =>
        obtain ⟨wi, hwi⟩ : ∃ wi : World, wi = wr := ⟨_, rfl⟩
        subst hwi
        obtain ⟨t, f, ht, rfl, hR, hM, hbw⟩ := hrel
        have HR := Lib.hid hR
        have HM := Lib.hid hM
        have HB := Lib.hid hbw
        clear hR hM hbw HRM HZ
        by_cases hlt : t < st.length
        · obtain ⟨x, hx⟩ := get_some hlt
          obtain ⟨bx, ox, rfl, hSx, hbx, hxi, hxc0, hxc1⟩ := (HA.out.belowB HB.out HS.out).pair hx
          have hxin := HIn.out x (List.mem_of_getElem? hx)
          have HX := Lib.hid hx
          obtain ⟨x1, x2⟩ := x
          dsimp only at hxi hxc0 hxc1 hxin
          obtain ⟨a, rfl⟩ : ∃ a : Nat, x1 = (a : Int) := ⟨x1.toNat, by omega⟩
          obtain ⟨b, rfl⟩ : ∃ b : Nat, x2 = (b : Int) := ⟨x2.toNat, by omega⟩
          have han : a < n := by omega
          have hbn : b < n := by omega
          have ht0 : (0 : Int) ≤ (t : Int) := by omega
          have ha9 : (a : Int) < (n : Int) := by omega
          have hb9 : (b : Int) < (n : Int) := by omega
          have ha0 : (0 : Int) ≤ (a : Int) := by omega
          have hb0 : (0 : Int) ≤ (b : Int) := by omega
          obtain ⟨wx, hwx⟩ : ∃ wx : World, wx = wi.alloc (.cells #[.int .i64 (a : Int), .int .i64 (b : Int)] 111) := ⟨_, rfl⟩
          have HWx := Lib.hid hwx
          have hbx2 : Below wi.heap.size wi wx := by rw [hwx]; exact (Below.refl _ _).alloc (Nat.le_refl _) _
          have HBx := Lib.hid (bthen HB.out hbx2 HB.out.size)
          have HRx := Lib.hid (HR.out.below hbx2)
          have hXx : Blk' wx wi.heap.size 111 #[.int .i64 (a : Int), .int .i64 (b : Int)] := by rw [hwx]; exact Blk'.new _ _ _
          obtain ⟨ba, hba⟩ := get_some (show a < bs.length by rw [HRx.out.blen]; exact han)
          obtain ⟨row, hrow, hrd, hrl⟩ := (WarS.ofRows HRx.out).get han
          have hBa := (HRx.out.rows a ba row hba hrow).1
          obtain ⟨yv, hyv⟩ := get_some (show b < row.length by omega)
          have s0 : wx.cell? ⟨wi.heap.size, 0, none⟩ = some (.int .i64 (a : Int)) := hXx.cell 0
          have s1 : wx.cell? ⟨wi.heap.size, 1, none⟩ = some (.int .i64 (b : Int)) := hXx.cell 1
          have o0 : wx.cell? ⟨w.heap.size, a, none⟩ = some (.slice (some ⟨ba, 0, none⟩) n n) := HRx.out.outer a ba hba
          have y0 : wx.cell? ⟨ba, b, none⟩ = some (.bool yv) := (hBa.cell _).trans (bcells_get hyv)
          have fy := hBa.frozen b
          have zx : wi.heap.size < wx.heap.size := hXx.lt
          have zb := hBa.lt
          have zF : w.heap.size < wx.heap.size := HRx.out.bflt
          have hbi : ba < wi.heap.size := HR.out.lt ba (by simp [List.mem_of_getElem? hba])
          have hbw : w.heap.size < ba := HBs.out ba (List.mem_of_getElem? hba)
          have n0 : ¬ wi.heap.size = ba := by omega
          have n1 : ¬ w.heap.size = ba := by omega
          have HK6 := Lib.hid (((Kept.refl (fun b => b = ba) wx).drew).setCell (p := ⟨ba, b, none⟩) (.inl rfl) (.bool true))
          have HR6 : Hid (RowsM (wx.drew.setCell ⟨ba, b, none⟩ (.bool true)) w.heap.size bs n n n (f.set a ((f.getD a []).set b true))) := Lib.hid (by
            rw [hrd]
            exact HRx.out.setRow hba HK6.out (by rw [← bcells_set]; exact hBa.drew.set_ b _) (by rw [List.length_set]; exact hrl))
          have HB6 : Hid (Below w.heap.size w (wx.drew.setCell ⟨ba, b, none⟩ (.bool true))) := Lib.hid (HBx.out.drew.setCell (p := ⟨ba, b, none⟩) (by show w.heap.size ≤ ba; omega) _)
          have HM6 : Hid (∀ p q, Gt (f.set a ((f.getD a []).set b true)) p q ↔ StepR (st.take (t + 1)) p q) := Lib.hid (fun p q => by
            rw [gtSet (WarS.ofRows HRx.out) true han hbn, take_snoc HX.out]
            unfold StepR
            rw [List.mem_append]
            by_cases e : p = a ∧ q = b
            · rw [if_pos e]
              obtain ⟨rfl, rfl⟩ := e
              simp
            · rw [if_neg e]
              have h1 := HM.out p q
              unfold StepR at h1
              rw [h1]
              constructor
              · exact .inl
              · rintro (h | h)
                · exact h
                · simp at h; exact absurd (And.intro (by omega) (by omega)) e)
          have d0 := (HK6.out.cell (p := ⟨w.heap.size, a, none⟩) zF n1).trans o0
          have d1 := (HK6.out.cell (p := ⟨wi.heap.size, 0, none⟩) zx n0).trans s0
          have d2 := (HK6.out.cell (p := ⟨wi.heap.size, 1, none⟩) zx n0).trans s1
          have HD := Lib.hid (And.intro d1 (And.intro d0 d2))
          clear hx hxi hwx hbx2 hXx hrow hrd hrl hBa hyv d0 d1 d2 hxin
          go_upto_region 10 with (fail)
          rw [← HWx.out]
          refine wp_region_noPanic ?_
          refine wp_region_held_drew (S := (fun w' => w'.cell? ⟨wi.heap.size, 0, none⟩ = some (.int .i64 (a : Int)) ∧ w'.cell? ⟨w.heap.size, a, none⟩ = some (.slice (some ⟨ba, 0, none⟩) n n) ∧ w'.cell? ⟨wi.heap.size, 1, none⟩ = some (.int .i64 (b : Int)))) (by kernel_rfl) ?ha (fun hHeld => ?ba)
          case ha => ((try dsimp only); go_keep)
          refine take_run (i := 0) (v := ?va0) rfl (by kernel_rfl) (by kernel_rfl) (by kernel_rfl) (fun _ _ _ h => h) (by rfl) ?ya0 (by assumption) ?ra0
          case ya0 => (intro w hSw; (try dsimp only at hSw); go_simp; try with_reducible rfl)
          try simp only [Act.put, List.setIfInBounds_toArray, List.set_cons_zero, List.set_cons_succ]
          refine take_run (i := 1) (v := ?va1) rfl (by kernel_rfl) (by kernel_rfl) (by kernel_rfl) (fun _ _ _ h => h) (by rfl) ?ya1 (by assumption) ?ra1
          case ya1 => (intro w hSw; (try dsimp only at hSw); go_simp; try with_reducible rfl)
          try simp only [Act.put, List.setIfInBounds_toArray, List.set_cons_zero, List.set_cons_succ]
          refine take_run (i := 2) (v := ?va2) rfl (by kernel_rfl) (by kernel_rfl) (by kernel_rfl) (fun _ _ _ h => h) (by rfl) ?ya2 (by assumption) ?ra2
          case ya2 => (intro w hSw; (try dsimp only at hSw); go_simp; try with_reducible rfl)
          try simp only [Act.put, List.setIfInBounds_toArray, List.set_cons_zero, List.set_cons_succ]
          refine take_run (i := 3) (v := ?va3) rfl (by kernel_rfl) (by kernel_rfl) (by kernel_rfl) (fun _ _ _ h => h) (by rfl) ?ya3 (by assumption) ?ra3
          case ya3 => (intro w hSw; (try dsimp only at hSw); go_simp; try with_reducible rfl)
          try simp only [Act.put, List.setIfInBounds_toArray, List.set_cons_zero, List.set_cons_succ]
          refine take_run (i := 4) (v := ?va4) rfl (by kernel_rfl) (by kernel_rfl) (by kernel_rfl) (fun _ _ _ h => h) (by rfl) ?ya4 (by assumption) ?ra4
          case ya4 => (intro w hSw; (try dsimp only at hSw); go_simp; try with_reducible rfl)
          try simp only [Act.put, List.setIfInBounds_toArray, List.set_cons_zero, List.set_cons_succ]
          refine take_run (i := 5) (v := ?va5) rfl (by kernel_rfl) (by kernel_rfl) (by kernel_rfl) (fun _ _ _ h => h) (by rfl) ?ya5 (by assumption) ?ra5
          case ya5 => (intro w hSw; (try dsimp only at hSw); go_simp; try with_reducible rfl)
          try simp only [Act.put, List.setIfInBounds_toArray, List.set_cons_zero, List.set_cons_succ]
          refine take_run (i := 6) (v := ?va6) rfl (by kernel_rfl) (by kernel_rfl) (by kernel_rfl) (fun _ _ _ h => h) (by rfl) ?ya6 (by assumption) ?ra6
          case ya6 => (intro w hSw; (try dsimp only at hSw); go_simp; try with_reducible rfl)
          try simp only [Act.put, List.setIfInBounds_toArray, List.set_cons_zero, List.set_cons_succ]
          refine take_run (i := 7) (v := ?va7) rfl (by kernel_rfl) (by kernel_rfl) (by kernel_rfl) (fun _ _ _ h => h) (by rfl) ?ya7 (by assumption) ?ra7
          case ya7 => (intro w hSw; (try dsimp only at hSw); go_simp; try with_reducible rfl)
          try simp only [Act.put, List.setIfInBounds_toArray, List.set_cons_zero, List.set_cons_succ]
          refine take_call (i := 8) rfl (by kernel_rfl) (by rfl) (fun Kq hK => ?_)
          go_simp
          refine hK.out _ _ ?ha8 (fun hHeld => ?ra8)
          case ha8 => exact HD.out
          clear hK Kq
          try simp only [Act.put, List.setIfInBounds_toArray, List.set_cons_zero, List.set_cons_succ]
          refine wpAnyH_done (by kernel_rfl) ?_ _
          refine NoPanic.normal ?_
          go_wp2_with fail
          go_roundw
          case rel => exact ⟨t + 1, _, hlt, by go_num, HR6.out, HM6.out, HB6.out⟩
          case measure => simp [intOf]; omega
        · have htt : t = st.length := by omega
          have HE : Hid (∀ a b, StepR st a b → a < n ∧ b < n) := Lib.hid (fun a b h => by have h1 := HIn.out _ h; dsimp only at h1; omega)
          have HC0 : Hid (CloS (StepR st) n 0 0 0 f) := Lib.hid (CloS.start (WarS.ofRows HR.out) (fun a b => by have h := HM.out a b; rw [htt, List.take_of_length_le (Nat.le_refl _)] at h; exact h))
          obtain ⟨E, hE⟩ : ∃ E, E = StepR st := ⟨_, rfl⟩
          have HEq := Lib.hid hE
          rw [← hE] at HE HC0
          clear HM hE
          go_wp2_with fail
          clear htt hlt ht
          go_loopw [41] (fun i wr => ∃ k : Nat, k ≤ n ∧ i = .int .i64 k ∧ ClC E n w.heap.size bs k 0 w.heap.size w 0 wr) (fun i _ => n - (intOf i).toNat)
          case atStart => exact ⟨0, Nat.zero_le _, rfl, f, HR.out, HC0.out, HB.out⟩
          case round =>
            obtain ⟨wa, hwa⟩ : ∃ wa : World, wa = wr := ⟨_, rfl⟩
            subst hwa
            obtain ⟨k, hk, rfl, hcc⟩ := hrel
            have HCa := Lib.hid hcc
            clear hcc HR HC0 HB
            by_cases hkn : k < n
            · have hk0 : (0 : Int) ≤ (k : Int) := by omega
              have hk9 : (k : Int) < (n : Int) := by omega
              go_wp2_with fail
              go_loopw [45] (fun i wr => ∃ r : Nat, r ≤ n ∧ i = .int .i64 r ∧ ClC E n w.heap.size bs k r w.heap.size w 0 wr) (fun i _ => n - (intOf i).toNat)
              case atStart => exact ⟨0, Nat.zero_le _, rfl, HCa.out⟩
              case round =>
                obtain ⟨wb, hwb⟩ : ∃ wb : World, wb = wr := ⟨_, rfl⟩
                subst hwb
                obtain ⟨r, hr, rfl, hcc⟩ := hrel
                have HCb := Lib.hid hcc
                clear hcc HCa
                by_cases hrn : r < n
                · have hr0 : (0 : Int) ≤ (r : Int) := by omega
                  have hr9 : (r : Int) < (n : Int) := by omega
                  go_wp2_with fail
                  go_loopw [49] (fun i wr => ∃ j : Nat, j ≤ n ∧ i = .int .i64 j ∧ ClC E n w.heap.size bs k r w.heap.size w j wr) (fun i _ => n - (intOf i).toNat)
                  case atStart => exact ⟨0, Nat.zero_le _, rfl, HCb.out⟩
                  case round =>
                    obtain ⟨wd, hwd⟩ : ∃ wd : World, wd = wr := ⟨_, rfl⟩
                    subst hwd
                    obtain ⟨j, hj, rfl, f2, hR, hC, hB⟩ := hrel
                    have HR := Lib.hid hR
                    have HC := Lib.hid hC
                    have HB := Lib.hid hB
                    clear hR hC hB HCb
                    by_cases hjn : j < n
                    · have hj0 : (0 : Int) ≤ (j : Int) := by omega
                      have hj9 : (j : Int) < (n : Int) := by omega
                      have hws := HC.out.shape
                      obtain ⟨ri, hri1, hri2, hri3⟩ := hws.get hrn
                      obtain ⟨rk, hrk1, hrk2, hrk3⟩ := hws.get hkn
                      obtain ⟨bi, hbi⟩ := get_some (show r < bs.length by rw [HR.out.blen]; exact hrn)
                      obtain ⟨bk, hbk⟩ := get_some (show k < bs.length by rw [HR.out.blen]; exact hkn)
                      obtain ⟨x, hx⟩ := get_some (show j < ri.length by omega)
                      obtain ⟨y, hy⟩ := get_some (show k < ri.length by omega)
                      obtain ⟨z, hz⟩ := get_some (show j < rk.length by omega)
                      have hBi := (HR.out.rows r bi ri hbi hri1).1
                      have hBk := (HR.out.rows k bk rk hbk hrk1).1
                      have c0 : wd.cell? ⟨w.heap.size, r, none⟩ = some (.slice (some ⟨bi, 0, none⟩) n n) := HR.out.outer r bi hbi
                      have c1 : wd.cell? ⟨w.heap.size, k, none⟩ = some (.slice (some ⟨bk, 0, none⟩) n n) := HR.out.outer k bk hbk
                      have cx : wd.cell? ⟨bi, j, none⟩ = some (.bool x) := (hBi.cell _).trans (bcells_get hx)
                      have cy : wd.cell? ⟨bi, k, none⟩ = some (.bool y) := (hBi.cell _).trans (bcells_get hy)
                      have cz : wd.cell? ⟨bk, j, none⟩ = some (.bool z) := (hBk.cell _).trans (bcells_get hz)
                      have fx := hBi.frozen j
                      have zbi := hBi.lt
                      have zF : w.heap.size < wd.heap.size := HR.out.bflt
                      have HCn : Hid (CloS E n k r (j + 1) (f2.set r ((f2.getD r []).set j (x || (y && z))))) := Lib.hid (HC.out.step hkn hrn hjn (by rw [hri2]; exact hx) (by rw [hri2]; exact hy) (by rw [hrk2]; exact hz))
                      have n1 : ¬ w.heap.size = bi := by have := HBs.out bi (List.mem_of_getElem? hbi); omega
                      have hkd := ((Kept.refl (fun b => b = bi) wd).drew).setCell (p := ⟨bi, j, none⟩) (.inl rfl) (.bool (x || (y && z)))
                      have hBn := hBi.drew.set_ j (.bool (x || (y && z)))
                      have HRn : Hid (RowsM (wd.drew.setCell ⟨bi, j, none⟩ (.bool (x || (y && z)))) w.heap.size bs n n n (f2.set r ((f2.getD r []).set j (x || (y && z))))) := Lib.hid (by
                        rw [hri2]
                        exact HR.out.setRow hbi hkd (by rw [← bcells_set]; exact hBn) (by rw [List.length_set]; exact hri3))
                      have HBn : Hid (Below w.heap.size w (wd.drew.setCell ⟨bi, j, none⟩ (.bool (x || (y && z))))) := Lib.hid (HB.out.drew.setCell (p := ⟨bi, j, none⟩) (by have := HBs.out bi (List.mem_of_getElem? hbi); show w.heap.size ≤ bi; omega) _)
                      have e0 := (hkd.cell (p := ⟨w.heap.size, r, none⟩) zF n1).trans c0
                      have e1 := (hkd.cell (p := ⟨w.heap.size, k, none⟩) zF n1).trans c1
                      have e2 : (wd.drew.setCell ⟨bi, j, none⟩ (.bool (x || (y && z)))).cell? ⟨bi, k, none⟩ = some (.bool y) := by
                        rw [hBn.cell k, bcells_set]
                        apply bcells_get
                        rw [List.getElem?_set]
                        by_cases ejk : j = k
                        · subst ejk
                          rw [hx] at hy
                          injection hy with hy
                          subst hy
                          rw [if_pos rfl, if_pos (List.getElem?_eq_some_iff.1 hx).1]
                          cases x <;> rfl
                        · rw [if_neg ejk]; exact hy
                      have e3 : (wd.drew.setCell ⟨bi, j, none⟩ (.bool (x || (y && z)))).cell? ⟨bk, j, none⟩ = some (.bool z) := by
                        by_cases ebk : bk = bi
                        · have erk : k = r := by
                            have hnd := HR.out.nodup
                            simp only [List.nodup_cons] at hnd
                            obtain ⟨q1, q2⟩ := List.getElem?_eq_some_iff.1 hbi
                            obtain ⟨q3, q4⟩ := List.getElem?_eq_some_iff.1 hbk
                            exact (List.getElem_inj hnd.2).1 (by rw [q4, q2, ebk])
                          subst erk
                          rw [hri1] at hrk1
                          injection hrk1 with hrk1
                          subst hrk1
                          rw [hx] at hz
                          injection hz with hz
                          subst hz
                          rw [ebk, hBn.cell j, bcells_set]
                          apply bcells_get
                          rw [List.getElem?_set, if_pos rfl, if_pos (List.getElem?_eq_some_iff.1 hx).1]
                          cases x <;> cases y <;> rfl
                        · exact (hkd.cell (p := ⟨bk, j, none⟩) hBk.lt ebk).trans cz
                      have HEe := Lib.hid (And.intro e0 (And.intro e1 (And.intro e2 e3)))
                      clear hws hri1 hri2 hri3 hrk1 hrk2 hrk3 hbi hbk hx hy hz hBi hBk hkd hBn e0 e1 e2 e3
                      cases x
                      · cases y
                        · simp only [Bool.false_and, Bool.or_false] at HCn HRn HBn HEe
                          go_wp2_with fail
                          refine wp_region_noPanic ?_
                          refine wp_region_held_drew (S := (fun w' => w'.cell? ⟨w.heap.size, r, none⟩ = some (.slice (some ⟨bi, 0, none⟩) n n) ∧ w'.cell? ⟨w.heap.size, k, none⟩ = some (.slice (some ⟨bk, 0, none⟩) n n) ∧ w'.cell? ⟨bi, k, none⟩ = some (.bool false) ∧ w'.cell? ⟨bk, j, none⟩ = some (.bool z))) (by kernel_rfl) ?hp (fun hHeld => ?bp)
                          case hp => ((try dsimp only); go_keep)
                          refine take_run (i := 0) (v := ?vp0) rfl (by kernel_rfl) (by kernel_rfl) (by kernel_rfl) (fun _ _ _ h => h) (by rfl) ?yp0 (by assumption) ?rp0
                          case yp0 => (intro w hSw; (try dsimp only at hSw); go_simp; try with_reducible rfl)
                          try simp only [Act.put, List.setIfInBounds_toArray, List.set_cons_zero, List.set_cons_succ]
                          refine take_run (i := 1) (v := ?vp1) rfl (by kernel_rfl) (by kernel_rfl) (by kernel_rfl) (fun _ _ _ h => h) (by rfl) ?yp1 (by assumption) ?rp1
                          case yp1 => (intro w hSw; (try dsimp only at hSw); go_simp; try with_reducible rfl)
                          try simp only [Act.put, List.setIfInBounds_toArray, List.set_cons_zero, List.set_cons_succ]
                          refine take_run (i := 2) (v := ?vp2) rfl (by kernel_rfl) (by kernel_rfl) (by kernel_rfl) (fun _ _ _ h => h) (by rfl) ?yp2 (by assumption) ?rp2
                          case yp2 => (intro w hSw; (try dsimp only at hSw); go_simp; try with_reducible rfl)
                          try simp only [Act.put, List.setIfInBounds_toArray, List.set_cons_zero, List.set_cons_succ]
                          refine take_run (i := 3) (v := ?vp3) rfl (by kernel_rfl) (by kernel_rfl) (by kernel_rfl) (fun _ _ _ h => h) (by rfl) ?yp3 (by assumption) ?rp3
                          case yp3 => (intro w hSw; (try dsimp only at hSw); go_simp; try with_reducible rfl)
                          try simp only [Act.put, List.setIfInBounds_toArray, List.set_cons_zero, List.set_cons_succ]
                          refine take_run (i := 4) (v := ?vp4) rfl (by kernel_rfl) (by kernel_rfl) (by kernel_rfl) (fun _ _ _ h => h) (by rfl) ?yp4 (by assumption) ?rp4
                          case yp4 => (intro w hSw; (try dsimp only at hSw); go_simp; try with_reducible rfl)
                          try simp only [Act.put, List.setIfInBounds_toArray, List.set_cons_zero, List.set_cons_succ]
                          refine take_run (i := 5) (v := ?vp5) rfl (by kernel_rfl) (by kernel_rfl) (by kernel_rfl) (fun _ _ _ h => h) (by rfl) ?yp5 (by assumption) ?rp5
                          case yp5 => (intro w hSw; (try dsimp only at hSw); go_simp; try with_reducible rfl)
                          try simp only [Act.put, List.setIfInBounds_toArray, List.set_cons_zero, List.set_cons_succ]
                          refine take_run (i := 6) (v := ?vp6) rfl (by kernel_rfl) (by kernel_rfl) (by kernel_rfl) (fun _ _ _ h => h) (by rfl) ?yp6 (by assumption) ?rp6
                          case yp6 => (intro w hSw; (try dsimp only at hSw); go_simp; try with_reducible rfl)
                          try simp only [Act.put, List.setIfInBounds_toArray, List.set_cons_zero, List.set_cons_succ]
                          refine take_run (i := 7) (v := ?vp7) rfl (by kernel_rfl) (by kernel_rfl) (by kernel_rfl) (fun _ _ _ h => h) (by rfl) ?yp7 (by assumption) ?rp7
                          case yp7 => (intro w hSw; (try dsimp only at hSw); go_simp; try with_reducible rfl)
                          try simp only [Act.put, List.setIfInBounds_toArray, List.set_cons_zero, List.set_cons_succ]
                          refine take_run (i := 8) (v := ?vp8) rfl (by kernel_rfl) (by kernel_rfl) (by kernel_rfl) (fun _ _ _ h => h) (by rfl) ?yp8 (by assumption) ?rp8
                          case yp8 => (intro w hSw; (try dsimp only at hSw); go_simp; try with_reducible rfl)
                          try simp only [Act.put, List.setIfInBounds_toArray, List.set_cons_zero, List.set_cons_succ]
                          refine take_run (i := 9) (v := ?vp9) rfl (by kernel_rfl) (by kernel_rfl) (by kernel_rfl) (fun _ _ _ h => h) (by rfl) ?yp9 (by assumption) ?rp9
                          case yp9 => (intro w hSw; (try dsimp only at hSw); go_simp; try with_reducible rfl)
                          try simp only [Act.put, List.setIfInBounds_toArray, List.set_cons_zero, List.set_cons_succ]
                          refine take_run (i := 10) (v := ?vp10) rfl (by kernel_rfl) (by kernel_rfl) (by kernel_rfl) (fun _ _ _ h => h) (by rfl) ?yp10 (by assumption) ?rp10
                          case yp10 => (intro w hSw; (try dsimp only at hSw); go_simp; try with_reducible rfl)
                          try simp only [Act.put, List.setIfInBounds_toArray, List.set_cons_zero, List.set_cons_succ]
                          refine take_call (i := 11) rfl (by kernel_rfl) (by rfl) (fun Kq hK => ?_)
                          go_simp
                          refine hK.out _ _ ?hp11 (fun hHeld => ?rp11)
                          case hp11 => ((try dsimp only); go_keep)
                          clear hK Kq
                          try simp only [Act.put, List.setIfInBounds_toArray, List.set_cons_zero, List.set_cons_succ]
                          refine take_run (i := 12) (v := ?vp12) rfl (by kernel_rfl) (by kernel_rfl) (by kernel_rfl) (fun _ _ _ h => h) (by rfl) ?yp12 (by assumption) ?rp12
                          case yp12 => (intro w hSw; (try dsimp only at hSw); go_simp; try with_reducible rfl)
                          try simp only [Act.put, List.setIfInBounds_toArray, List.set_cons_zero, List.set_cons_succ]
                          refine take_run (i := 13) (v := ?vp13) rfl (by kernel_rfl) (by kernel_rfl) (by kernel_rfl) (fun _ _ _ h => h) (by rfl) ?yp13 (by assumption) ?rp13
                          case yp13 => (intro w hSw; (try dsimp only at hSw); go_simp; try with_reducible rfl)
                          try simp only [Act.put, List.setIfInBounds_toArray, List.set_cons_zero, List.set_cons_succ]
                          refine take_run (i := 14) (v := ?vp14) rfl (by kernel_rfl) (by kernel_rfl) (by kernel_rfl) (fun _ _ _ h => h) (by rfl) ?yp14 (by assumption) ?rp14
                          case yp14 => (intro w hSw; (try dsimp only at hSw); go_simp; try with_reducible rfl)
                          try simp only [Act.put, List.setIfInBounds_toArray, List.set_cons_zero, List.set_cons_succ]
                          refine take_run (i := 15) (v := ?vp15) rfl (by kernel_rfl) (by kernel_rfl) (by kernel_rfl) (fun _ _ _ h => h) (by rfl) ?yp15 (by assumption) ?rp15
                          case yp15 => (intro w hSw; (try dsimp only at hSw); go_simp; try with_reducible rfl)
                          try simp only [Act.put, List.setIfInBounds_toArray, List.set_cons_zero, List.set_cons_succ]
                          refine take_run (i := 16) (v := ?vp16) rfl (by kernel_rfl) (by kernel_rfl) (by kernel_rfl) (fun _ _ _ h => h) (by rfl) ?yp16 (by assumption) ?rp16
                          case yp16 => (intro w hSw; (try dsimp only at hSw); go_simp; try with_reducible rfl)
                          try simp only [Act.put, List.setIfInBounds_toArray, List.set_cons_zero, List.set_cons_succ]
                          refine take_run (i := 17) (v := ?vp17) rfl (by kernel_rfl) (by kernel_rfl) (by kernel_rfl) (fun _ _ _ h => h) (by rfl) ?yp17 (by assumption) ?rp17
                          case yp17 => (intro w hSw; (try dsimp only at hSw); go_simp; try with_reducible rfl)
                          try simp only [Act.put, List.setIfInBounds_toArray, List.set_cons_zero, List.set_cons_succ]
                          refine take_run (i := 18) (v := ?vp18) rfl (by kernel_rfl) (by kernel_rfl) (by kernel_rfl) (fun _ _ _ h => h) (by rfl) ?yp18 (by assumption) ?rp18
                          case yp18 => (intro w hSw; (try dsimp only at hSw); go_simp; try with_reducible rfl)
                          try simp only [Act.put, List.setIfInBounds_toArray, List.set_cons_zero, List.set_cons_succ]
                          refine take_run (i := 19) (v := ?vp19) rfl (by kernel_rfl) (by kernel_rfl) (by kernel_rfl) (fun _ _ _ h => h) (by rfl) ?yp19 (by assumption) ?rp19
                          case yp19 => (intro w hSw; (try dsimp only at hSw); go_simp; try with_reducible rfl)
                          try simp only [Act.put, List.setIfInBounds_toArray, List.set_cons_zero, List.set_cons_succ]
                          refine take_run (i := 20) (v := ?vp20) rfl (by kernel_rfl) (by kernel_rfl) (by kernel_rfl) (fun _ _ _ h => h) (by rfl) ?yp20 (by assumption) ?rp20
                          case yp20 => (intro w hSw; (try dsimp only at hSw); go_simp; try with_reducible rfl)
                          try simp only [Act.put, List.setIfInBounds_toArray, List.set_cons_zero, List.set_cons_succ]
                          refine take_bar (i := 21) rfl (by kernel_rfl) (by kernel_rfl) (by kernel_rfl) (fun _ _ _ h => h) (by rfl) (by assumption) ?_
                          try simp only [Act.put, List.setIfInBounds_toArray, List.set_cons_zero, List.set_cons_succ]
                          refine take_bar (i := 22) rfl (by kernel_rfl) (by kernel_rfl) (by kernel_rfl) (fun _ _ _ h => h) (by rfl) (by assumption) ?_
                          try simp only [Act.put, List.setIfInBounds_toArray, List.set_cons_zero, List.set_cons_succ]
                          refine take_bar (i := 23) rfl (by kernel_rfl) (by kernel_rfl) (by kernel_rfl) (fun _ _ _ h => h) (by rfl) (by assumption) ?_
                          try simp only [Act.put, List.setIfInBounds_toArray, List.set_cons_zero, List.set_cons_succ]
                          refine take_bar (i := 24) rfl (by kernel_rfl) (by kernel_rfl) (by kernel_rfl) (fun _ _ _ h => h) (by rfl) (by assumption) ?_
                          try simp only [Act.put, List.setIfInBounds_toArray, List.set_cons_zero, List.set_cons_succ]
                          refine take_bar (i := 25) rfl (by kernel_rfl) (by kernel_rfl) (by kernel_rfl) (fun _ _ _ h => h) (by rfl) (by assumption) ?_
                          try simp only [Act.put, List.setIfInBounds_toArray, List.set_cons_zero, List.set_cons_succ]
                          refine take_bar (i := 26) rfl (by kernel_rfl) (by kernel_rfl) (by kernel_rfl) (fun _ _ _ h => h) (by rfl) (by assumption) ?_
                          try simp only [Act.put, List.setIfInBounds_toArray, List.set_cons_zero, List.set_cons_succ]
                          refine take_bar (i := 27) rfl (by kernel_rfl) (by kernel_rfl) (by kernel_rfl) (fun _ _ _ h => h) (by rfl) (by assumption) ?_
                          try simp only [Act.put, List.setIfInBounds_toArray, List.set_cons_zero, List.set_cons_succ]
                          refine take_run (i := 28) (v := ?vp28) rfl (by kernel_rfl) (by kernel_rfl) (by kernel_rfl) (fun _ _ _ h => h) (by rfl) ?yp28 (by assumption) ?rp28
                          case yp28 => (intro w hSw; (try dsimp only at hSw); go_simp; try with_reducible rfl)
                          try simp only [Act.put, List.setIfInBounds_toArray, List.set_cons_zero, List.set_cons_succ]
                          refine take_run (i := 29) (v := ?vp29) rfl (by kernel_rfl) (by kernel_rfl) (by kernel_rfl) (fun _ _ _ h => h) (by rfl) ?yp29 (by assumption) ?rp29
                          case yp29 => (intro w hSw; (try dsimp only at hSw); go_simp; try with_reducible rfl)
                          try simp only [Act.put, List.setIfInBounds_toArray, List.set_cons_zero, List.set_cons_succ]
                          refine take_run (i := 30) (v := ?vp30) rfl (by kernel_rfl) (by kernel_rfl) (by kernel_rfl) (fun _ _ _ h => h) (by rfl) ?yp30 (by assumption) ?rp30
                          case yp30 => (intro w hSw; (try dsimp only at hSw); go_simp; try with_reducible rfl)
                          try simp only [Act.put, List.setIfInBounds_toArray, List.set_cons_zero, List.set_cons_succ]
                          refine take_call (i := 31) rfl (by kernel_rfl) (by rfl) (fun Kq hK => ?_)
                          go_simp
                          refine hK.out _ _ ?hp31 (fun hHeld => ?rp31)
                          case hp31 => exact HEe.out
                          clear hK Kq
                          try simp only [Act.put, List.setIfInBounds_toArray, List.set_cons_zero, List.set_cons_succ]
                          refine wpAnyH_done (by kernel_rfl) ?_ _
                          refine NoPanic.normal ?_
                          go_wp2_with fail
                          go_roundw
                          case rel => exact ⟨j + 1, hjn, by go_num, _, HRn.out, HCn.out, HBn.out⟩
                          case measure => simp [intOf]; omega
                        · simp only [Bool.true_and, Bool.false_or] at HCn HRn HBn HEe
                          go_wp2_with fail
                          refine wp_region_noPanic ?_
                          refine wp_region_held_drew (S := (fun w' => w'.cell? ⟨w.heap.size, r, none⟩ = some (.slice (some ⟨bi, 0, none⟩) n n) ∧ w'.cell? ⟨w.heap.size, k, none⟩ = some (.slice (some ⟨bk, 0, none⟩) n n) ∧ w'.cell? ⟨bi, k, none⟩ = some (.bool true) ∧ w'.cell? ⟨bk, j, none⟩ = some (.bool z))) (by kernel_rfl) ?hq (fun hHeld => ?bq)
                          case hq => ((try dsimp only); go_keep)
                          refine take_run (i := 0) (v := ?vq0) rfl (by kernel_rfl) (by kernel_rfl) (by kernel_rfl) (fun _ _ _ h => h) (by rfl) ?yq0 (by assumption) ?rq0
                          case yq0 => (intro w hSw; (try dsimp only at hSw); go_simp; try with_reducible rfl)
                          try simp only [Act.put, List.setIfInBounds_toArray, List.set_cons_zero, List.set_cons_succ]
                          refine take_run (i := 1) (v := ?vq1) rfl (by kernel_rfl) (by kernel_rfl) (by kernel_rfl) (fun _ _ _ h => h) (by rfl) ?yq1 (by assumption) ?rq1
                          case yq1 => (intro w hSw; (try dsimp only at hSw); go_simp; try with_reducible rfl)
                          try simp only [Act.put, List.setIfInBounds_toArray, List.set_cons_zero, List.set_cons_succ]
                          refine take_run (i := 2) (v := ?vq2) rfl (by kernel_rfl) (by kernel_rfl) (by kernel_rfl) (fun _ _ _ h => h) (by rfl) ?yq2 (by assumption) ?rq2
                          case yq2 => (intro w hSw; (try dsimp only at hSw); go_simp; try with_reducible rfl)
                          try simp only [Act.put, List.setIfInBounds_toArray, List.set_cons_zero, List.set_cons_succ]
                          refine take_run (i := 3) (v := ?vq3) rfl (by kernel_rfl) (by kernel_rfl) (by kernel_rfl) (fun _ _ _ h => h) (by rfl) ?yq3 (by assumption) ?rq3
                          case yq3 => (intro w hSw; (try dsimp only at hSw); go_simp; try with_reducible rfl)
                          try simp only [Act.put, List.setIfInBounds_toArray, List.set_cons_zero, List.set_cons_succ]
                          refine take_run (i := 4) (v := ?vq4) rfl (by kernel_rfl) (by kernel_rfl) (by kernel_rfl) (fun _ _ _ h => h) (by rfl) ?yq4 (by assumption) ?rq4
                          case yq4 => (intro w hSw; (try dsimp only at hSw); go_simp; try with_reducible rfl)
                          try simp only [Act.put, List.setIfInBounds_toArray, List.set_cons_zero, List.set_cons_succ]
                          refine take_run (i := 5) (v := ?vq5) rfl (by kernel_rfl) (by kernel_rfl) (by kernel_rfl) (fun _ _ _ h => h) (by rfl) ?yq5 (by assumption) ?rq5
                          case yq5 => (intro w hSw; (try dsimp only at hSw); go_simp; try with_reducible rfl)
                          try simp only [Act.put, List.setIfInBounds_toArray, List.set_cons_zero, List.set_cons_succ]
                          refine take_run (i := 6) (v := ?vq6) rfl (by kernel_rfl) (by kernel_rfl) (by kernel_rfl) (fun _ _ _ h => h) (by rfl) ?yq6 (by assumption) ?rq6
                          case yq6 => (intro w hSw; (try dsimp only at hSw); go_simp; try with_reducible rfl)
                          try simp only [Act.put, List.setIfInBounds_toArray, List.set_cons_zero, List.set_cons_succ]
                          refine take_run (i := 7) (v := ?vq7) rfl (by kernel_rfl) (by kernel_rfl) (by kernel_rfl) (fun _ _ _ h => h) (by rfl) ?yq7 (by assumption) ?rq7
                          case yq7 => (intro w hSw; (try dsimp only at hSw); go_simp; try with_reducible rfl)
                          try simp only [Act.put, List.setIfInBounds_toArray, List.set_cons_zero, List.set_cons_succ]
                          refine take_run (i := 8) (v := ?vq8) rfl (by kernel_rfl) (by kernel_rfl) (by kernel_rfl) (fun _ _ _ h => h) (by rfl) ?yq8 (by assumption) ?rq8
                          case yq8 => (intro w hSw; (try dsimp only at hSw); go_simp; try with_reducible rfl)
                          try simp only [Act.put, List.setIfInBounds_toArray, List.set_cons_zero, List.set_cons_succ]
                          refine take_run (i := 9) (v := ?vq9) rfl (by kernel_rfl) (by kernel_rfl) (by kernel_rfl) (fun _ _ _ h => h) (by rfl) ?yq9 (by assumption) ?rq9
                          case yq9 => (intro w hSw; (try dsimp only at hSw); go_simp; try with_reducible rfl)
                          try simp only [Act.put, List.setIfInBounds_toArray, List.set_cons_zero, List.set_cons_succ]
                          refine take_run (i := 10) (v := ?vq10) rfl (by kernel_rfl) (by kernel_rfl) (by kernel_rfl) (fun _ _ _ h => h) (by rfl) ?yq10 (by assumption) ?rq10
                          case yq10 => (intro w hSw; (try dsimp only at hSw); go_simp; try with_reducible rfl)
                          try simp only [Act.put, List.setIfInBounds_toArray, List.set_cons_zero, List.set_cons_succ]
                          refine take_call (i := 11) rfl (by kernel_rfl) (by rfl) (fun Kq hK => ?_)
                          go_simp
                          refine hK.out _ _ ?hq11 (fun hHeld => ?rq11)
                          case hq11 => ((try dsimp only); go_keep)
                          clear hK Kq
                          try simp only [Act.put, List.setIfInBounds_toArray, List.set_cons_zero, List.set_cons_succ]
                          refine take_run (i := 12) (v := ?vq12) rfl (by kernel_rfl) (by kernel_rfl) (by kernel_rfl) (fun _ _ _ h => h) (by rfl) ?yq12 (by assumption) ?rq12
                          case yq12 => (intro w hSw; (try dsimp only at hSw); go_simp; try with_reducible rfl)
                          try simp only [Act.put, List.setIfInBounds_toArray, List.set_cons_zero, List.set_cons_succ]
                          refine take_run (i := 13) (v := ?vq13) rfl (by kernel_rfl) (by kernel_rfl) (by kernel_rfl) (fun _ _ _ h => h) (by rfl) ?yq13 (by assumption) ?rq13
                          case yq13 => (intro w hSw; (try dsimp only at hSw); go_simp; try with_reducible rfl)
                          try simp only [Act.put, List.setIfInBounds_toArray, List.set_cons_zero, List.set_cons_succ]
                          refine take_run (i := 14) (v := ?vq14) rfl (by kernel_rfl) (by kernel_rfl) (by kernel_rfl) (fun _ _ _ h => h) (by rfl) ?yq14 (by assumption) ?rq14
                          case yq14 => (intro w hSw; (try dsimp only at hSw); go_simp; try with_reducible rfl)
                          try simp only [Act.put, List.setIfInBounds_toArray, List.set_cons_zero, List.set_cons_succ]
                          refine take_run (i := 15) (v := ?vq15) rfl (by kernel_rfl) (by kernel_rfl) (by kernel_rfl) (fun _ _ _ h => h) (by rfl) ?yq15 (by assumption) ?rq15
                          case yq15 => (intro w hSw; (try dsimp only at hSw); go_simp; try with_reducible rfl)
                          try simp only [Act.put, List.setIfInBounds_toArray, List.set_cons_zero, List.set_cons_succ]
                          refine take_run (i := 16) (v := ?vq16) rfl (by kernel_rfl) (by kernel_rfl) (by kernel_rfl) (fun _ _ _ h => h) (by rfl) ?yq16 (by assumption) ?rq16
                          case yq16 => (intro w hSw; (try dsimp only at hSw); go_simp; try with_reducible rfl)
                          try simp only [Act.put, List.setIfInBounds_toArray, List.set_cons_zero, List.set_cons_succ]
                          refine take_run (i := 17) (v := ?vq17) rfl (by kernel_rfl) (by kernel_rfl) (by kernel_rfl) (fun _ _ _ h => h) (by rfl) ?yq17 (by assumption) ?rq17
                          case yq17 => (intro w hSw; (try dsimp only at hSw); go_simp; try with_reducible rfl)
                          try simp only [Act.put, List.setIfInBounds_toArray, List.set_cons_zero, List.set_cons_succ]
                          refine take_run (i := 18) (v := ?vq18) rfl (by kernel_rfl) (by kernel_rfl) (by kernel_rfl) (fun _ _ _ h => h) (by rfl) ?yq18 (by assumption) ?rq18
                          case yq18 => (intro w hSw; (try dsimp only at hSw); go_simp; try with_reducible rfl)
                          try simp only [Act.put, List.setIfInBounds_toArray, List.set_cons_zero, List.set_cons_succ]
                          refine take_run (i := 19) (v := ?vq19) rfl (by kernel_rfl) (by kernel_rfl) (by kernel_rfl) (fun _ _ _ h => h) (by rfl) ?yq19 (by assumption) ?rq19
                          case yq19 => (intro w hSw; (try dsimp only at hSw); go_simp; try with_reducible rfl)
                          try simp only [Act.put, List.setIfInBounds_toArray, List.set_cons_zero, List.set_cons_succ]
                          refine take_run (i := 20) (v := ?vq20) rfl (by kernel_rfl) (by kernel_rfl) (by kernel_rfl) (fun _ _ _ h => h) (by rfl) ?yq20 (by assumption) ?rq20
                          case yq20 => (intro w hSw; (try dsimp only at hSw); go_simp; try with_reducible rfl)
                          try simp only [Act.put, List.setIfInBounds_toArray, List.set_cons_zero, List.set_cons_succ]
                          refine take_run (i := 21) (v := ?vq21) rfl (by kernel_rfl) (by kernel_rfl) (by kernel_rfl) (fun _ _ _ h => h) (by rfl) ?yq21 (by assumption) ?rq21
                          case yq21 => (intro w hSw; (try dsimp only at hSw); go_simp; try with_reducible rfl)
                          try simp only [Act.put, List.setIfInBounds_toArray, List.set_cons_zero, List.set_cons_succ]
                          refine take_run (i := 22) (v := ?vq22) rfl (by kernel_rfl) (by kernel_rfl) (by kernel_rfl) (fun _ _ _ h => h) (by rfl) ?yq22 (by assumption) ?rq22
                          case yq22 => (intro w hSw; (try dsimp only at hSw); go_simp; try with_reducible rfl)
                          try simp only [Act.put, List.setIfInBounds_toArray, List.set_cons_zero, List.set_cons_succ]
                          refine take_run (i := 23) (v := ?vq23) rfl (by kernel_rfl) (by kernel_rfl) (by kernel_rfl) (fun _ _ _ h => h) (by rfl) ?yq23 (by assumption) ?rq23
                          case yq23 => (intro w hSw; (try dsimp only at hSw); go_simp; try with_reducible rfl)
                          try simp only [Act.put, List.setIfInBounds_toArray, List.set_cons_zero, List.set_cons_succ]
                          refine take_run (i := 24) (v := ?vq24) rfl (by kernel_rfl) (by kernel_rfl) (by kernel_rfl) (fun _ _ _ h => h) (by rfl) ?yq24 (by assumption) ?rq24
                          case yq24 => (intro w hSw; (try dsimp only at hSw); go_simp; try with_reducible rfl)
                          try simp only [Act.put, List.setIfInBounds_toArray, List.set_cons_zero, List.set_cons_succ]
                          refine take_run (i := 25) (v := ?vq25) rfl (by kernel_rfl) (by kernel_rfl) (by kernel_rfl) (fun _ _ _ h => h) (by rfl) ?yq25 (by assumption) ?rq25
                          case yq25 => (intro w hSw; (try dsimp only at hSw); go_simp; try with_reducible rfl)
                          try simp only [Act.put, List.setIfInBounds_toArray, List.set_cons_zero, List.set_cons_succ]
                          refine take_run (i := 26) (v := ?vq26) rfl (by kernel_rfl) (by kernel_rfl) (by kernel_rfl) (fun _ _ _ h => h) (by rfl) ?yq26 (by assumption) ?rq26
                          case yq26 => (intro w hSw; (try dsimp only at hSw); go_simp; try with_reducible rfl)
                          try simp only [Act.put, List.setIfInBounds_toArray, List.set_cons_zero, List.set_cons_succ]
                          refine take_run (i := 27) (v := ?vq27) rfl (by kernel_rfl) (by kernel_rfl) (by kernel_rfl) (fun _ _ _ h => h) (by rfl) ?yq27 (by assumption) ?rq27
                          case yq27 => (intro w hSw; (try dsimp only at hSw); go_simp; try with_reducible rfl)
                          try simp only [Act.put, List.setIfInBounds_toArray, List.set_cons_zero, List.set_cons_succ]
                          refine take_run (i := 28) (v := ?vq28) rfl (by kernel_rfl) (by kernel_rfl) (by kernel_rfl) (fun _ _ _ h => h) (by rfl) ?yq28 (by assumption) ?rq28
                          case yq28 => (intro w hSw; (try dsimp only at hSw); go_simp; try with_reducible rfl)
                          try simp only [Act.put, List.setIfInBounds_toArray, List.set_cons_zero, List.set_cons_succ]
                          refine take_run (i := 29) (v := ?vq29) rfl (by kernel_rfl) (by kernel_rfl) (by kernel_rfl) (fun _ _ _ h => h) (by rfl) ?yq29 (by assumption) ?rq29
                          case yq29 => (intro w hSw; (try dsimp only at hSw); go_simp; try with_reducible rfl)
                          try simp only [Act.put, List.setIfInBounds_toArray, List.set_cons_zero, List.set_cons_succ]
                          refine take_run (i := 30) (v := ?vq30) rfl (by kernel_rfl) (by kernel_rfl) (by kernel_rfl) (fun _ _ _ h => h) (by rfl) ?yq30 (by assumption) ?rq30
                          case yq30 => (intro w hSw; (try dsimp only at hSw); go_simp; try with_reducible rfl)
                          try simp only [Act.put, List.setIfInBounds_toArray, List.set_cons_zero, List.set_cons_succ]
                          refine take_call (i := 31) rfl (by kernel_rfl) (by rfl) (fun Kq hK => ?_)
                          go_simp
                          refine hK.out _ _ ?hq31 (fun hHeld => ?rq31)
                          case hq31 => exact HEe.out
                          clear hK Kq
                          try simp only [Act.put, List.setIfInBounds_toArray, List.set_cons_zero, List.set_cons_succ]
                          refine wpAnyH_done (by kernel_rfl) ?_ _
                          refine NoPanic.normal ?_
                          go_wp2_with fail
                          go_roundw
                          case rel => exact ⟨j + 1, hjn, by go_num, _, HRn.out, HCn.out, HBn.out⟩
                          case measure => simp [intOf]; omega
                      · simp only [Bool.true_or] at HCn HRn HBn HEe
                        go_wp2_with fail
                        refine wp_region_noPanic ?_
                        refine wp_region_held_drew (S := (fun w' => w'.cell? ⟨w.heap.size, r, none⟩ = some (.slice (some ⟨bi, 0, none⟩) n n) ∧ w'.cell? ⟨w.heap.size, k, none⟩ = some (.slice (some ⟨bk, 0, none⟩) n n) ∧ w'.cell? ⟨bi, k, none⟩ = some (.bool y) ∧ w'.cell? ⟨bk, j, none⟩ = some (.bool z))) (by kernel_rfl) ?hr (fun hHeld => ?br)
                        case hr => ((try dsimp only); go_keep)
                        refine take_run (i := 0) (v := ?vr0) rfl (by kernel_rfl) (by kernel_rfl) (by kernel_rfl) (fun _ _ _ h => h) (by rfl) ?yr0 (by assumption) ?rr0
                        case yr0 => (intro w hSw; (try dsimp only at hSw); go_simp; try with_reducible rfl)
                        try simp only [Act.put, List.setIfInBounds_toArray, List.set_cons_zero, List.set_cons_succ]
                        refine take_run (i := 1) (v := ?vr1) rfl (by kernel_rfl) (by kernel_rfl) (by kernel_rfl) (fun _ _ _ h => h) (by rfl) ?yr1 (by assumption) ?rr1
                        case yr1 => (intro w hSw; (try dsimp only at hSw); go_simp; try with_reducible rfl)
                        try simp only [Act.put, List.setIfInBounds_toArray, List.set_cons_zero, List.set_cons_succ]
                        refine take_run (i := 2) (v := ?vr2) rfl (by kernel_rfl) (by kernel_rfl) (by kernel_rfl) (fun _ _ _ h => h) (by rfl) ?yr2 (by assumption) ?rr2
                        case yr2 => (intro w hSw; (try dsimp only at hSw); go_simp; try with_reducible rfl)
                        try simp only [Act.put, List.setIfInBounds_toArray, List.set_cons_zero, List.set_cons_succ]
                        refine take_run (i := 3) (v := ?vr3) rfl (by kernel_rfl) (by kernel_rfl) (by kernel_rfl) (fun _ _ _ h => h) (by rfl) ?yr3 (by assumption) ?rr3
                        case yr3 => (intro w hSw; (try dsimp only at hSw); go_simp; try with_reducible rfl)
                        try simp only [Act.put, List.setIfInBounds_toArray, List.set_cons_zero, List.set_cons_succ]
                        refine take_run (i := 4) (v := ?vr4) rfl (by kernel_rfl) (by kernel_rfl) (by kernel_rfl) (fun _ _ _ h => h) (by rfl) ?yr4 (by assumption) ?rr4
                        case yr4 => (intro w hSw; (try dsimp only at hSw); go_simp; try with_reducible rfl)
                        try simp only [Act.put, List.setIfInBounds_toArray, List.set_cons_zero, List.set_cons_succ]
                        refine take_run (i := 5) (v := ?vr5) rfl (by kernel_rfl) (by kernel_rfl) (by kernel_rfl) (fun _ _ _ h => h) (by rfl) ?yr5 (by assumption) ?rr5
                        case yr5 => (intro w hSw; (try dsimp only at hSw); go_simp; try with_reducible rfl)
                        try simp only [Act.put, List.setIfInBounds_toArray, List.set_cons_zero, List.set_cons_succ]
                        refine take_run (i := 6) (v := ?vr6) rfl (by kernel_rfl) (by kernel_rfl) (by kernel_rfl) (fun _ _ _ h => h) (by rfl) ?yr6 (by assumption) ?rr6
                        case yr6 => (intro w hSw; (try dsimp only at hSw); go_simp; try with_reducible rfl)
                        try simp only [Act.put, List.setIfInBounds_toArray, List.set_cons_zero, List.set_cons_succ]
                        refine take_run (i := 7) (v := ?vr7) rfl (by kernel_rfl) (by kernel_rfl) (by kernel_rfl) (fun _ _ _ h => h) (by rfl) ?yr7 (by assumption) ?rr7
                        case yr7 => (intro w hSw; (try dsimp only at hSw); go_simp; try with_reducible rfl)
                        try simp only [Act.put, List.setIfInBounds_toArray, List.set_cons_zero, List.set_cons_succ]
                        refine take_run (i := 8) (v := ?vr8) rfl (by kernel_rfl) (by kernel_rfl) (by kernel_rfl) (fun _ _ _ h => h) (by rfl) ?yr8 (by assumption) ?rr8
                        case yr8 => (intro w hSw; (try dsimp only at hSw); go_simp; try with_reducible rfl)
                        try simp only [Act.put, List.setIfInBounds_toArray, List.set_cons_zero, List.set_cons_succ]
                        refine take_run (i := 9) (v := ?vr9) rfl (by kernel_rfl) (by kernel_rfl) (by kernel_rfl) (fun _ _ _ h => h) (by rfl) ?yr9 (by assumption) ?rr9
                        case yr9 => (intro w hSw; (try dsimp only at hSw); go_simp; try with_reducible rfl)
                        try simp only [Act.put, List.setIfInBounds_toArray, List.set_cons_zero, List.set_cons_succ]
                        refine take_run (i := 10) (v := ?vr10) rfl (by kernel_rfl) (by kernel_rfl) (by kernel_rfl) (fun _ _ _ h => h) (by rfl) ?yr10 (by assumption) ?rr10
                        case yr10 => (intro w hSw; (try dsimp only at hSw); go_simp; try with_reducible rfl)
                        try simp only [Act.put, List.setIfInBounds_toArray, List.set_cons_zero, List.set_cons_succ]
                        refine take_call (i := 11) rfl (by kernel_rfl) (by rfl) (fun Kq hK => ?_)
                        go_simp
                        refine hK.out _ _ ?hr11 (fun hHeld => ?rr11)
                        case hr11 => ((try dsimp only); go_keep)
                        clear hK Kq
                        try simp only [Act.put, List.setIfInBounds_toArray, List.set_cons_zero, List.set_cons_succ]
                        refine take_run (i := 12) (v := ?vr12) rfl (by kernel_rfl) (by kernel_rfl) (by kernel_rfl) (fun _ _ _ h => h) (by rfl) ?yr12 (by assumption) ?rr12
                        case yr12 => (intro w hSw; (try dsimp only at hSw); go_simp; try with_reducible rfl)
                        try simp only [Act.put, List.setIfInBounds_toArray, List.set_cons_zero, List.set_cons_succ]
                        refine take_bar (i := 13) rfl (by kernel_rfl) (by kernel_rfl) (by kernel_rfl) (fun _ _ _ h => h) (by rfl) (by assumption) ?_
                        try simp only [Act.put, List.setIfInBounds_toArray, List.set_cons_zero, List.set_cons_succ]
                        refine take_bar (i := 14) rfl (by kernel_rfl) (by kernel_rfl) (by kernel_rfl) (fun _ _ _ h => h) (by rfl) (by assumption) ?_
                        try simp only [Act.put, List.setIfInBounds_toArray, List.set_cons_zero, List.set_cons_succ]
                        refine take_bar (i := 15) rfl (by kernel_rfl) (by kernel_rfl) (by kernel_rfl) (fun _ _ _ h => h) (by rfl) (by assumption) ?_
                        try simp only [Act.put, List.setIfInBounds_toArray, List.set_cons_zero, List.set_cons_succ]
                        refine take_bar (i := 16) rfl (by kernel_rfl) (by kernel_rfl) (by kernel_rfl) (fun _ _ _ h => h) (by rfl) (by assumption) ?_
                        try simp only [Act.put, List.setIfInBounds_toArray, List.set_cons_zero, List.set_cons_succ]
                        refine take_bar (i := 17) rfl (by kernel_rfl) (by kernel_rfl) (by kernel_rfl) (fun _ _ _ h => h) (by rfl) (by assumption) ?_
                        try simp only [Act.put, List.setIfInBounds_toArray, List.set_cons_zero, List.set_cons_succ]
                        refine take_bar (i := 18) rfl (by kernel_rfl) (by kernel_rfl) (by kernel_rfl) (fun _ _ _ h => h) (by rfl) (by assumption) ?_
                        try simp only [Act.put, List.setIfInBounds_toArray, List.set_cons_zero, List.set_cons_succ]
                        refine take_bar (i := 19) rfl (by kernel_rfl) (by kernel_rfl) (by kernel_rfl) (fun _ _ _ h => h) (by rfl) (by assumption) ?_
                        try simp only [Act.put, List.setIfInBounds_toArray, List.set_cons_zero, List.set_cons_succ]
                        refine take_bar (i := 20) rfl (by kernel_rfl) (by kernel_rfl) (by kernel_rfl) (fun _ _ _ h => h) (by rfl) (by assumption) ?_
                        try simp only [Act.put, List.setIfInBounds_toArray, List.set_cons_zero, List.set_cons_succ]
                        refine take_bar (i := 21) rfl (by kernel_rfl) (by kernel_rfl) (by kernel_rfl) (fun _ _ _ h => h) (by rfl) (by assumption) ?_
                        try simp only [Act.put, List.setIfInBounds_toArray, List.set_cons_zero, List.set_cons_succ]
                        refine take_bar (i := 22) rfl (by kernel_rfl) (by kernel_rfl) (by kernel_rfl) (fun _ _ _ h => h) (by rfl) (by assumption) ?_
                        try simp only [Act.put, List.setIfInBounds_toArray, List.set_cons_zero, List.set_cons_succ]
                        refine take_bar (i := 23) rfl (by kernel_rfl) (by kernel_rfl) (by kernel_rfl) (fun _ _ _ h => h) (by rfl) (by assumption) ?_
                        try simp only [Act.put, List.setIfInBounds_toArray, List.set_cons_zero, List.set_cons_succ]
                        refine take_bar (i := 24) rfl (by kernel_rfl) (by kernel_rfl) (by kernel_rfl) (fun _ _ _ h => h) (by rfl) (by assumption) ?_
                        try simp only [Act.put, List.setIfInBounds_toArray, List.set_cons_zero, List.set_cons_succ]
                        refine take_bar (i := 25) rfl (by kernel_rfl) (by kernel_rfl) (by kernel_rfl) (fun _ _ _ h => h) (by rfl) (by assumption) ?_
                        try simp only [Act.put, List.setIfInBounds_toArray, List.set_cons_zero, List.set_cons_succ]
                        refine take_bar (i := 26) rfl (by kernel_rfl) (by kernel_rfl) (by kernel_rfl) (fun _ _ _ h => h) (by rfl) (by assumption) ?_
                        try simp only [Act.put, List.setIfInBounds_toArray, List.set_cons_zero, List.set_cons_succ]
                        refine take_bar (i := 27) rfl (by kernel_rfl) (by kernel_rfl) (by kernel_rfl) (fun _ _ _ h => h) (by rfl) (by assumption) ?_
                        try simp only [Act.put, List.setIfInBounds_toArray, List.set_cons_zero, List.set_cons_succ]
                        refine take_bar (i := 28) rfl (by kernel_rfl) (by kernel_rfl) (by kernel_rfl) (fun _ _ _ h => h) (by rfl) (by assumption) ?_
                        try simp only [Act.put, List.setIfInBounds_toArray, List.set_cons_zero, List.set_cons_succ]
                        refine take_run (i := 29) (v := ?vr29) rfl (by kernel_rfl) (by kernel_rfl) (by kernel_rfl) (fun _ _ _ h => h) (by rfl) ?yr29 (by assumption) ?rr29
                        case yr29 => (intro w hSw; (try dsimp only at hSw); go_simp; try with_reducible rfl)
                        try simp only [Act.put, List.setIfInBounds_toArray, List.set_cons_zero, List.set_cons_succ]
                        refine take_run (i := 30) (v := ?vr30) rfl (by kernel_rfl) (by kernel_rfl) (by kernel_rfl) (fun _ _ _ h => h) (by rfl) ?yr30 (by assumption) ?rr30
                        case yr30 => (intro w hSw; (try dsimp only at hSw); go_simp; try with_reducible rfl)
                        try simp only [Act.put, List.setIfInBounds_toArray, List.set_cons_zero, List.set_cons_succ]
                        refine take_call (i := 31) rfl (by kernel_rfl) (by rfl) (fun Kq hK => ?_)
                        go_simp
                        refine hK.out _ _ ?hr31 (fun hHeld => ?rr31)
                        case hr31 => exact HEe.out
                        clear hK Kq
                        try simp only [Act.put, List.setIfInBounds_toArray, List.set_cons_zero, List.set_cons_succ]
                        refine wpAnyH_done (by kernel_rfl) ?_ _
                        refine NoPanic.normal ?_
                        go_wp2_with fail
                        go_roundw
                        case rel => exact ⟨j + 1, hjn, by go_num, _, HRn.out, HCn.out, HBn.out⟩
                        case measure => simp [intOf]; omega
                    · have hjj : j = n := by omega
                      have HCr : Hid (CloS E n k (r + 1) 0 f2) := Lib.hid (by have h := HC.out; rw [hjj] at h; exact h.row)
                      go_wp2
                      go_roundw
                      case rel => exact ⟨r + 1, hrn, by go_num, f2, HR.out, HCr.out, HB.out⟩
                      case measure => simp [intOf]; omega
                · have hrr : r = n := by omega
                  have HCr : Hid (ClC E n w.heap.size bs (k + 1) 0 w.heap.size w 0 wb) := Lib.hid (by obtain ⟨f, h1, h2, h3⟩ := HCb.out; rw [hrr] at h2; exact ⟨f, h1, h2.round, h3⟩)
                  go_wp2
                  go_roundw
                  case rel => exact ⟨k + 1, hkn, by go_num, HCr.out⟩
                  case measure => simp [intOf]; omega
            · have hkk : k = n := by omega
              have HF : Hid (∃ f, RowsM wa w.heap.size bs n n n f ∧ CloS E n n 0 0 f ∧ Below w.heap.size w wa) := Lib.hid (by obtain ⟨f, h1, h2, h3⟩ := HCa.out; rw [hkk] at h2; exact ⟨f, h1, h2, h3⟩)
              go_wp2
              go_ret
              obtain ⟨f, h1, h2, h3⟩ := HF.out
              exact ⟨w.heap.size, bs, f, rfl, h1, fun a b ha hb => (by rw [← HEq.out]; exact h2.done HE.out a b ha hb), (fun b hb => by
                rcases List.mem_cons.1 hb with rfl | hb
                · omega
                · have := HBs.out b hb; omega), h3⟩
end Go.Proofs.YtjdojogjogenkaaDoor
