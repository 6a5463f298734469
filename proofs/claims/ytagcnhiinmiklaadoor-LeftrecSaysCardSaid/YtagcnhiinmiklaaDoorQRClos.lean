/- Contract: parlref2.closure: a relation's rows, each with its own place, then as many rounds as there are places. -/
import Derived.Test.YtagcnhiinmiklaaDoorQRowsM
import Derived.Test.YtagcnhiinmiklaaDoorQp1
import Derived.StillTailTactics
import Derived.Deep.DeepCutAuto
namespace Go.Proofs.YtagcnhiinmiklaaDoor
open Go.RowKit
set_option linter.unusedVariables false

/-- Each place in its own row. -/
def diagTo (f : List (List Bool)) (k : Nat) : List (List Bool) := (List.range k).foldl (fun f i => f.set i ((f.getD i []).set i true)) f
theorem diagTo_succ (f : List (List Bool)) (k : Nat) : diagTo f (k + 1) = (diagTo f k).set k (((diagTo f k).getD k []).set k true) := by
  unfold diagTo
  rw [List.range_succ, List.foldl_append]
  rfl
theorem diagTo_shape {n : Nat} {f : List (List Bool)} (h : WarS n f) : ∀ k, k ≤ n → WarS n (diagTo f k)
  | 0, _ => h
  | k + 1, hk => by
    rw [diagTo_succ]
    have ih := diagTo_shape h k (by omega)
    obtain ⟨r, h1, h2, h3⟩ := ih.get (show k < n by omega)
    exact ih.set (by rw [List.length_set, h2]; exact h3)
theorem gt_setD {n : Nat} {f : List (List Bool)} (h : WarS n f) {k : Nat} (hk : k < n) (a b : Nat) : Gt (f.set k ((f.getD k []).set k true)) a b ↔ Gt f a b ∨ (a = k ∧ b = k) := by
  obtain ⟨r, h1, h2, h3⟩ := h.get hk
  unfold Gt
  rw [List.getD_eq_getElem?_getD, List.getElem?_set]
  by_cases e : k = a
  · subst e
    rw [if_pos rfl, if_pos (by rw [h.len]; exact hk), h2]
    simp only [Option.getD_some]
    rw [List.getElem?_set]
    by_cases e2 : k = b
    · subst e2
      rw [if_pos rfl, if_pos (by omega)]
      exact ⟨fun _ => .inr (by constructor <;> first | rfl | trivial), fun _ => rfl⟩
    · rw [if_neg e2]
      exact ⟨.inl, fun h => h.elim id fun h => absurd h.2.symm e2⟩
  · rw [if_neg e, ← List.getD_eq_getElem?_getD]
    exact ⟨.inl, fun h => h.elim id fun h => absurd h.1.symm e⟩
theorem diagTo_get {n : Nat} {f : List (List Bool)} (h : WarS n f) : ∀ k, k ≤ n → ∀ a b, Gt (diagTo f k) a b ↔ Gt f a b ∨ (a = b ∧ a < k)
  | 0, _, a, b => by
    show Gt f a b ↔ _
    exact ⟨.inl, fun h => h.elim id fun h => absurd h.2 (by omega)⟩
  | k + 1, hk, a, b => by
    rw [diagTo_succ, gt_setD (diagTo_shape h k (by omega)) (show k < n by omega), diagTo_get h k (by omega) a b]
    constructor
    · rintro ((h | ⟨h1, h2⟩) | ⟨h1, h2⟩)
      · exact .inl h
      · exact .inr ⟨h1, by omega⟩
      · exact .inr ⟨by omega, by omega⟩
    · rintro (h | ⟨h1, h2⟩)
      · exact .inl (.inl h)
      · by_cases e : a = k
        · exact .inr ⟨e, by omega⟩
        · exact .inl (.inr ⟨h1, by omega⟩)
/-- The whole of it. -/
def closeR (n : Nat) (f : List (List Bool)) : List (List Bool) := warIter n n (diagTo f n)
theorem closeR_get {n : Nat} {f : List (List Bool)} (h : WarS n f) : WarS n (closeR n f) ∧ ∀ i, i < n → ∀ j, Gt (closeR n f) i j ↔ Wk f i j := by
  obtain ⟨h1, h2⟩ := war_end (diagTo_shape h n (Nat.le_refl _)) (fun i hi => (diagTo_get h n (Nat.le_refl _) i i).2 (.inr ⟨rfl, hi⟩))
  refine ⟨h1, fun i hi j => (h2 i hi j).trans ⟨fun hw => ?_, fun hw => ?_⟩⟩
  · induction hw with
    | refl => exact .refl
    | snoc a b _ hs ih =>
      rcases (diagTo_get h n (Nat.le_refl _) a b).1 hs with h3 | ⟨rfl, _⟩
      · exact .snoc a b ih h3
      · exact ih
  · induction hw with
    | refl => exact .refl
    | snoc a b _ hs ih => exact .snoc a b ih ((diagTo_get h n (Nat.le_refl _) a b).2 (.inl hs))

theorem warRound_succ (n : Nat) (m : List (List Bool)) (i : Nat) : warRound n m (List.range (i + 1)) = warRow (warRound n m (List.range i)) i (List.range n) := by
  unfold warRound
  rw [List.range_succ, List.foldl_append]
  rfl
theorem warRow_succ (m : List (List Bool)) (i k : Nat) : warRow m i (List.range (k + 1)) = warCell (warRow m i (List.range k)) i k := by
  unfold warRow
  rw [List.range_succ, List.foldl_append]
  rfl
theorem warCell_shape {n : Nat} {m : List (List Bool)} (h : WarS n m) (i k : Nat) (hi : i < n) : WarS n (warCell m i k) := by
  unfold warCell
  split
  · obtain ⟨r, h1, h2, h3⟩ := h.get hi
    exact h.set (by rw [orRow_len, h2]; exact h3)
  · exact h
theorem warRow_shape {n : Nat} {i : Nat} (hi : i < n) : ∀ (ks : List Nat) (m : List (List Bool)), WarS n m → WarS n (warRow m i ks)
  | [], m, h => h
  | k :: ks, m, h => warRow_shape hi ks (warCell m i k) (warCell_shape h i k hi)
theorem warRound_shape {n : Nat} : ∀ (is : List Nat) (m : List (List Bool)), WarS n m → (∀ i ∈ is, i < n) → WarS n (warRound n m is)
  | [], m, h, _ => h
  | i :: is, m, h, hi => warRound_shape is (warRow m i (List.range n)) (warRow_shape (hi i (by simp)) _ m h) (fun x hx => hi x (by simp [hx]))
theorem warIter_shape {n : Nat} {m : List (List Bool)} (h : WarS n m) : ∀ k, WarS n (warIter n k m)
  | 0 => h
  | k + 1 => warRound_shape _ _ (warIter_shape h k) (fun i hi => List.mem_range.1 hi)
/-- The row on the way: j places of row k are taken. -/
def takeTo (m : List (List Bool)) (i k j : Nat) : List (List Bool) := m.set i (orRow (m.getD i []) ((m.getD k []).take j))
theorem takeTo_zero {n : Nat} {m : List (List Bool)} (h : WarS n m) {i : Nat} (hi : i < n) (k : Nat) : takeTo m i k 0 = m := by
  obtain ⟨r, h1, h2, h3⟩ := h.get hi
  unfold takeTo
  rw [List.take_zero, orRow_nil, h2]
  exact set_same h1
theorem takeTo_full {n : Nat} {m : List (List Bool)} (h : WarS n m) {i k : Nat} (hk : k < n) (hg : (m.getD i []).getD k false = true) : takeTo m i k n = warCell m i k := by
  obtain ⟨r, h1, h2, h3⟩ := h.get hk
  unfold takeTo warCell
  rw [if_pos hg, h2, List.take_of_length_le (by omega)]

theorem WarS.of_rows {w : World} {bf : Nat} {bs : List Nat} {n cf : Nat} {f : List (List Bool)} (h : RowsM w bf bs n n cf f) : WarS n f :=
  ⟨h.flen, fun i r hr => by
    have hi := (List.getElem?_eq_some_iff.1 hr).1
    obtain ⟨b, hb⟩ := get_some (show i < bs.length by rw [h.blen, ← h.flen]; exact hi)
    exact (h.rows i b r hb hr).2⟩

def ClD (f : List (List Bool)) (bf n cf : Nat) (bs : List Nat) (w : World) (i : Value) (wr : World) : Prop :=
  ∃ k : Nat, k ≤ n ∧ i = .int .i64 k ∧ RowsM wr bf bs n n cf (diagTo f k) ∧ Kept (fun b => b ∈ bs) w wr
def ClR (f : List (List Bool)) (bf n cf : Nat) (bs : List Nat) (w : World) (i : Value) (wr : World) : Prop :=
  ∃ k : Nat, k ≤ n ∧ i = .int .i64 k ∧ RowsM wr bf bs n n cf (warIter n k f) ∧ Kept (fun b => b ∈ bs) w wr
def ClI (f : List (List Bool)) (bf n cf : Nat) (bs : List Nat) (w : World) (i : Value) (wr : World) : Prop :=
  ∃ k : Nat, k ≤ n ∧ i = .int .i64 k ∧ RowsM wr bf bs n n cf (warRound n f (List.range k)) ∧ Kept (fun b => b ∈ bs) w wr
def ClK (f : List (List Bool)) (ii bf n cf : Nat) (bs : List Nat) (w : World) (i : Value) (wr : World) : Prop :=
  ∃ k : Nat, k ≤ n ∧ i = .int .i64 k ∧ RowsM wr bf bs n n cf (warRow f ii (List.range k)) ∧ Kept (fun b => b ∈ bs) w wr
def ClJ (f : List (List Bool)) (ii kk bf n cf : Nat) (bs : List Nat) (w : World) (i : Value) (wr : World) : Prop :=
  ∃ k : Nat, k ≤ n ∧ i = .int .i64 k ∧ RowsM wr bf bs n n cf (takeTo f ii kk k) ∧ Kept (fun b => b ∈ bs) w wr

set_option maxRecDepth 100000 in
set_option maxHeartbeats 2000000 in
theorem rclosure_any (bf n cf : Nat) (bs : List Nat) (f : List (List Bool)) (w : World) (hn : n ≤ 1000) (hm : RowsM w bf bs n n cf f) :
    Calls Tryd.prog 54 #[.slice (some ⟨bf, 0, none⟩) n cf] w fun e w' => e = .returned (.slice (some ⟨bf, 0, none⟩) n cf) ∧ RowsM w' bf bs n n cf (closeR n f) ∧ Kept (fun b => b ∈ bs) w w' := by
  have HM := Lib.hid hm
  have hbf : ¬ bf ∈ bs := by have h := hm.nodup; simp only [List.nodup_cons] at h; exact h.1
  have HS0 := Lib.hid (WarS.of_rows hm)
  have hn9 : (n : Int) ≤ 1000 := by omega
  clear hm
  go_enter Tryd.func54, Tryd.ntmps54
  go_wp2_with fail
  go_loopw [9] (fun i wr => ClD f bf n cf bs w i wr) (fun i _ => n - (intOf i).toNat)
  case atStart => exact ⟨0, Nat.zero_le _, rfl, HM.out, Kept.refl _ _⟩
  case round =>
    obtain ⟨wo, hwo⟩ : ∃ wo : World, wo = wr := ⟨_, rfl⟩
    subst hwo
    obtain ⟨k, hk, rfl, hr, hkp⟩ := hrel
    have HR := Lib.hid hr
    have HK := Lib.hid hkp
    have zf := hr.bflt
    clear hr hkp
    by_cases hkn : k < n
    · have hk0 : (0 : Int) ≤ (k : Int) := by omega
      have hk9 : (k : Int) < (n : Int) := by omega
      obtain ⟨r, hr1, hr2, hr3⟩ := (WarS.of_rows HR.out).get hkn
      obtain ⟨b, hb⟩ := get_some (show k < bs.length by rw [HR.out.blen]; exact hkn)
      have hB := (HR.out.rows k b r hb hr1).1
      have c0 : wo.cell? ⟨bf, k, none⟩ = some (.slice (some ⟨b, 0, none⟩) n n) := HR.out.outer k b hb
      obtain ⟨x, hx⟩ := get_some (show k < r.length by omega)
      have c1 : wo.cell? ⟨b, k, none⟩ = some (.bool x) := (hB.cell _).trans (bcells_get hx)
      have f1 := hB.frozen k
      have zb := hB.lt
      have HBs := Lib.hid (show Blk' (wo.setCell ⟨b, k, none⟩ (.bool true)) b 4 (bcells (r.set k true)) by rw [← bcells_set]; exact hB.set_ k _)
      have HR2 : Hid (RowsM (wo.setCell ⟨b, k, none⟩ (.bool true)) bf bs n n cf (diagTo f (k + 1))) := Lib.hid (by
        rw [diagTo_succ, hr2]
        exact HR.out.setRow hb ((Kept.refl (fun y => y = b) wo).setCell (p := ⟨b, k, none⟩) (.inl rfl) _) HBs.out (by rw [List.length_set]; exact hr3))
      have HK2 : Hid (Kept (fun b => b ∈ bs) w (wo.setCell ⟨b, k, none⟩ (.bool true))) := Lib.hid (HK.out.setCell (p := ⟨b, k, none⟩) (.inl (List.mem_of_getElem? hb)) _)
      clear hB hb hx hr1 hr2 hr3
      go_wp2
      go_roundw
      case rel => exact ⟨k + 1, hkn, by go_num, HR2.out, HK2.out⟩
      case measure => simp [intOf]; omega
    · have hkk : k = n := by omega
      obtain ⟨f1, hf1⟩ : ∃ f1, f1 = diagTo f n := ⟨_, rfl⟩
      have HF1 := Lib.hid hf1
      have HR1 := Lib.hid (show RowsM wo bf bs n n cf f1 by have h := HR.out; rw [hkk, ← hf1] at h; exact h)
      have HSh := Lib.hid (WarS.of_rows HR1.out)
      clear hf1 HR
      go_wp2_with fail
      clear hkk hkn hk
      go_loopw [21] (fun i wr => ClR f1 bf n cf bs w i wr) (fun i _ => n - (intOf i).toNat)
      case atStart => exact ⟨0, Nat.zero_le _, rfl, HR1.out, HK.out⟩
      case round =>
        obtain ⟨wa, hwa⟩ : ∃ wa : World, wa = wr := ⟨_, rfl⟩
        subst hwa
        obtain ⟨rd, hrd, rfl, hr, hkp⟩ := hrel
        have HRa := Lib.hid hr
        have HKa := Lib.hid hkp
        clear hr hkp HK HR1
        by_cases hrn : rd < n
        · have hrd9 : (rd : Int) < (n : Int) := by omega
          obtain ⟨f2, hf2⟩ : ∃ f2, f2 = warIter n rd f1 := ⟨_, rfl⟩
          have HF2 : Hid (warIter n (rd + 1) f1 = warRound n f2 (List.range n)) := Lib.hid (by rw [hf2]; rfl)
          have HR2 := Lib.hid (show RowsM wa bf bs n n cf f2 by have h := HRa.out; rw [← hf2] at h; exact h)
          clear hf2 HRa
          go_wp2_with fail
          go_loopw [25] (fun i wr => ClI f2 bf n cf bs w i wr) (fun i _ => n - (intOf i).toNat)
          case atStart => exact ⟨0, Nat.zero_le _, rfl, HR2.out, HKa.out⟩
          case round =>
            obtain ⟨wb, hwb⟩ : ∃ wb : World, wb = wr := ⟨_, rfl⟩
            subst hwb
            obtain ⟨ii, hii, rfl, hr, hkp⟩ := hrel
            have HRb := Lib.hid hr
            have HKb := Lib.hid hkp
            clear hr hkp HKa HR2
            by_cases hin : ii < n
            · have hi9 : (ii : Int) < (n : Int) := by omega
              have hi0 : (0 : Int) ≤ (ii : Int) := by omega
              obtain ⟨f3, hf3⟩ : ∃ f3, f3 = warRound n f2 (List.range ii) := ⟨_, rfl⟩
              have HF3 : Hid (warRound n f2 (List.range (ii + 1)) = warRow f3 ii (List.range n)) := Lib.hid (by rw [warRound_succ, hf3])
              have HR3 := Lib.hid (show RowsM wb bf bs n n cf f3 by have h := HRb.out; rw [← hf3] at h; exact h)
              clear hf3 HRb
              go_wp2_with fail
              go_loopw [30] (fun i wr => ClK f3 ii bf n cf bs w i wr) (fun i _ => n - (intOf i).toNat)
              case atStart => exact ⟨0, Nat.zero_le _, rfl, HR3.out, HKb.out⟩
              case round =>
                obtain ⟨wc, hwc⟩ : ∃ wc : World, wc = wr := ⟨_, rfl⟩
                subst hwc
                obtain ⟨kk, hkk2, rfl, hr, hkp⟩ := hrel
                have HRc := Lib.hid hr
                have HKc := Lib.hid hkp
                have zf := hr.bflt
                clear hr hkp HKb HR3
                by_cases hkn2 : kk < n
                · have hk9 : (kk : Int) < (n : Int) := by omega
                  have hk0 : (0 : Int) ≤ (kk : Int) := by omega
                  obtain ⟨f4, hf4⟩ : ∃ f4, f4 = warRow f3 ii (List.range kk) := ⟨_, rfl⟩
                  have HF4 : Hid (warRow f3 ii (List.range (kk + 1)) = warCell f4 ii kk) := Lib.hid (by rw [warRow_succ, hf4])
                  have HR4 := Lib.hid (show RowsM wc bf bs n n cf f4 by have h := HRc.out; rw [← hf4] at h; exact h)
                  have HS4 := Lib.hid (WarS.of_rows HR4.out)
                  clear hf4 HRc
                  obtain ⟨r, hr1, hr2, hr3⟩ := HS4.out.get hin
                  obtain ⟨b, hb⟩ := get_some (show ii < bs.length by rw [HR4.out.blen]; exact hin)
                  have hB := (HR4.out.rows ii b r hb hr1).1
                  have c0 : wc.cell? ⟨bf, ii, none⟩ = some (.slice (some ⟨b, 0, none⟩) n n) := HR4.out.outer ii b hb
                  obtain ⟨x, hx⟩ := get_some (show kk < r.length by omega)
                  have c1 : wc.cell? ⟨b, kk, none⟩ = some (.bool x) := (hB.cell _).trans (bcells_get hx)
                  have zb := hB.lt
                  have hg : (f4.getD ii []).getD kk false = x := by rw [hr2, List.getD_eq_getElem?_getD, hx]; rfl
                  have HG := Lib.hid hg
                  clear hB hb hx hr1 hr2 hr3 hg
                  cases x
                  · have HE := Lib.hid (show warCell f4 ii kk = f4 by unfold warCell; rw [HG.out]; rfl)
                    go_wp2
                    go_roundw
                    case rel => exact ⟨kk + 1, hkn2, by go_num, by rw [HF4.out, HE.out]; exact HR4.out, HKc.out⟩
                    case measure => simp [intOf]; omega
                  · have HE := Lib.hid (takeTo_full HS4.out hkn2 HG.out)
                    have HZ := Lib.hid (takeTo_zero HS4.out hin kk)
                    go_wp2_with fail
                    go_loopw [42] (fun i wr => ClJ f4 ii kk bf n cf bs w i wr) (fun i _ => n - (intOf i).toNat)
                    case atStart => exact ⟨0, Nat.zero_le _, rfl, by rw [HZ.out]; exact HR4.out, HKc.out⟩
                    case round =>
                      obtain ⟨wd, hwd⟩ : ∃ wd : World, wd = wr := ⟨_, rfl⟩
                      subst hwd
                      obtain ⟨j, hj, rfl, hr, hkp⟩ := hrel
                      have HRd := Lib.hid hr
                      have HKd := Lib.hid hkp
                      have zf := hr.bflt
                      clear hr hkp HKc HR4 c0 c1
                      by_cases hjn : j < n
                      · have hj9 : (j : Int) < (n : Int) := by omega
                        have hj0 : (0 : Int) ≤ (j : Int) := by omega
                        obtain ⟨ri, hri1, hri2, hri3⟩ := HS4.out.get hin
                        obtain ⟨rk, hrk1, hrk2, hrk3⟩ := HS4.out.get hkn2
                        obtain ⟨bi, hbi⟩ := get_some (show ii < bs.length by rw [HRd.out.blen]; exact hin)
                        obtain ⟨bk, hbk⟩ := get_some (show kk < bs.length by rw [HRd.out.blen]; exact hkn2)
                        obtain ⟨x, hx⟩ := get_some (show j < ri.length by omega)
                        obtain ⟨y, hy⟩ := get_some (show j < rk.length by omega)
                        have ht1 : (takeTo f4 ii kk j)[ii]? = some (orRow ri (rk.take j)) := by
                          unfold takeTo; rw [hri2, hrk2, List.getElem?_set, if_pos rfl, if_pos (by rw [HS4.out.len]; exact hin)]
                        have hxi : (orRow ri (rk.take j))[j]? = some x := orRow_get _ _ _ _ _ hx (Nat.le_refl _)
                        have ht2 : ∃ rk', (takeTo f4 ii kk j)[kk]? = some rk' ∧ rk'[j]? = some y := by
                          by_cases e : ii = kk
                          · subst e
                            obtain rfl : ri = rk := by rw [hri1] at hrk1; exact Option.some.inj hrk1
                            rw [hx] at hy
                            exact ⟨_, ht1, by rw [hxi]; exact hy⟩
                          · exact ⟨rk, by unfold takeTo; rw [List.getElem?_set, if_neg e]; exact hrk1, hy⟩
                        obtain ⟨rk', ht2, hyk⟩ := ht2
                        have hBi := (HRd.out.rows ii bi _ hbi ht1).1
                        have hBl := (HRd.out.rows ii bi _ hbi ht1).2
                        have hBk := (HRd.out.rows kk bk _ hbk ht2).1
                        have c0 : wd.cell? ⟨bf, ii, none⟩ = some (.slice (some ⟨bi, 0, none⟩) n n) := HRd.out.outer ii bi hbi
                        have c1 : wd.cell? ⟨bf, kk, none⟩ = some (.slice (some ⟨bk, 0, none⟩) n n) := HRd.out.outer kk bk hbk
                        have c2 : wd.cell? ⟨bi, j, none⟩ = some (.bool x) := (hBi.cell _).trans (bcells_get hxi)
                        have c3 : wd.cell? ⟨bk, j, none⟩ = some (.bool y) := (hBk.cell _).trans (bcells_get hyk)
                        have f2 := hBi.frozen j
                        have zbi := hBi.lt
                        have zbk := hBk.lt
                        have HN : Hid (RowsM (wd.setCell ⟨bi, j, none⟩ (.bool (x || y))).drew bf bs n n cf (takeTo f4 ii kk (j + 1))) := Lib.hid (by
                          have e : takeTo f4 ii kk (j + 1) = (takeTo f4 ii kk j).set ii ((orRow ri (rk.take j)).set j (x || y)) := by
                            unfold takeTo
                            rw [hri2, hrk2, orRow_take ri rk j x y hx hy, List.set_set]
                          rw [e]
                          exact HRd.out.setRow hbi ((Kept.refl (fun y => y = bi) wd).setCell (p := ⟨bi, j, none⟩) (.inl rfl) _).drew (by rw [← bcells_set]; exact (hBi.set_ j _).drew) (by rw [List.length_set]; exact hBl))
                        have HKn : Hid (Kept (fun b => b ∈ bs) w (wd.setCell ⟨bi, j, none⟩ (.bool (x || y))).drew) := Lib.hid (HKd.out.setCell (p := ⟨bi, j, none⟩) (.inl (List.mem_of_getElem? hbi)) _).drew
                        have HN2 : Hid (RowsM (wd.drew.setCell ⟨bi, j, none⟩ (.bool (x || y))) bf bs n n cf (takeTo f4 ii kk (j + 1))) := Lib.hid (by
                          have e : takeTo f4 ii kk (j + 1) = (takeTo f4 ii kk j).set ii ((orRow ri (rk.take j)).set j (x || y)) := by
                            unfold takeTo
                            rw [hri2, hrk2, orRow_take ri rk j x y hx hy, List.set_set]
                          rw [e]
                          exact HRd.out.setRow hbi ((Kept.refl (fun y => y = bi) wd).drew.setCell (p := ⟨bi, j, none⟩) (.inl rfl) _) (by rw [← bcells_set]; exact hBi.drew.set_ j _) (by rw [List.length_set]; exact hBl))
                        have HKn2 : Hid (Kept (fun b => b ∈ bs) w (wd.drew.setCell ⟨bi, j, none⟩ (.bool (x || y)))) := Lib.hid (HKd.out.drew.setCell (p := ⟨bi, j, none⟩) (.inl (List.mem_of_getElem? hbi)) _)
                        have hne : ¬ bf = bi := fun e => hbf (by rw [e]; exact List.mem_of_getElem? hbi)
                        have s0 : (wd.setCell ⟨bi, j, none⟩ (.bool true)).cell? ⟨bf, ii, none⟩ = some (.slice (some ⟨bi, 0, none⟩) n n) := (((Kept.refl (fun y => y = bi) wd).setCell (p := ⟨bi, j, none⟩) (.inl rfl) (.bool true)).cell (p := ⟨bf, ii, none⟩) zf hne).trans c0
                        have s1 : (wd.setCell ⟨bi, j, none⟩ (.bool true)).cell? ⟨bi, j, none⟩ = some (.bool true) := ((hBi.set_ j (.bool true)).cell j).trans (by
                          rw [bcells_set]
                          exact bcells_get (by rw [List.getElem?_set, if_pos rfl, if_pos (List.getElem?_eq_some_iff.1 hxi).1]))
                        have HS01 := Lib.hid (And.intro s0 s1)
                        clear s0 s1 hne
                        clear hBi hBk hBl hbi hbk hx hy ht1 ht2 hxi hyk hri1 hri2 hri3 hrk1 hrk2 hrk3
                        cases x
                        · go_wp2_with fail
                          go_still_tail 22, (by kernel_rfl)
                          change wpList _ _ _ _ _ wd.drew
                          go_wp2_with fail
                          go_roundw
                          case rel => exact ⟨j + 1, hjn, by go_num, HN.out, HKn.out⟩
                          case measure => simp [intOf]; omega
                        · go_wp2_with fail
                          refine wp_region_noPanic ?_
                          refine wp_region_held_drew (S := (fun w' => w'.cell? ⟨bf, ii, none⟩ = some (.slice (some ⟨bi, 0, none⟩) n n) ∧ w'.cell? ⟨bi, j, none⟩ = some (.bool true))) (by kernel_rfl) ?ht (fun hHeld => ?bt)
                          case ht => ((try dsimp only); go_keep)
                          refine take_run (i := 0) (v := ?vt0) rfl (by kernel_rfl) (by kernel_rfl) (by kernel_rfl) (fun _ _ _ h => h) (by rfl) ?yt0 (by assumption) ?rt0
                          case yt0 => (intro w hSw; (try dsimp only at hSw); go_simp; try with_reducible rfl)
                          try simp only [Act.put, List.setIfInBounds_toArray, List.set_cons_zero, List.set_cons_succ]
                          refine take_run (i := 1) (v := ?vt1) rfl (by kernel_rfl) (by kernel_rfl) (by kernel_rfl) (fun _ _ _ h => h) (by rfl) ?yt1 (by assumption) ?rt1
                          case yt1 => (intro w hSw; (try dsimp only at hSw); go_simp; try with_reducible rfl)
                          try simp only [Act.put, List.setIfInBounds_toArray, List.set_cons_zero, List.set_cons_succ]
                          refine take_run (i := 2) (v := ?vt2) rfl (by kernel_rfl) (by kernel_rfl) (by kernel_rfl) (fun _ _ _ h => h) (by rfl) ?yt2 (by assumption) ?rt2
                          case yt2 => (intro w hSw; (try dsimp only at hSw); go_simp; try with_reducible rfl)
                          try simp only [Act.put, List.setIfInBounds_toArray, List.set_cons_zero, List.set_cons_succ]
                          refine take_run (i := 3) (v := ?vt3) rfl (by kernel_rfl) (by kernel_rfl) (by kernel_rfl) (fun _ _ _ h => h) (by rfl) ?yt3 (by assumption) ?rt3
                          case yt3 => (intro w hSw; (try dsimp only at hSw); go_simp; try with_reducible rfl)
                          try simp only [Act.put, List.setIfInBounds_toArray, List.set_cons_zero, List.set_cons_succ]
                          refine take_run (i := 4) (v := ?vt4) rfl (by kernel_rfl) (by kernel_rfl) (by kernel_rfl) (fun _ _ _ h => h) (by rfl) ?yt4 (by assumption) ?rt4
                          case yt4 => (intro w hSw; (try dsimp only at hSw); go_simp; try with_reducible rfl)
                          try simp only [Act.put, List.setIfInBounds_toArray, List.set_cons_zero, List.set_cons_succ]
                          refine take_run (i := 5) (v := ?vt5) rfl (by kernel_rfl) (by kernel_rfl) (by kernel_rfl) (fun _ _ _ h => h) (by rfl) ?yt5 (by assumption) ?rt5
                          case yt5 => (intro w hSw; (try dsimp only at hSw); go_simp; try with_reducible rfl)
                          try simp only [Act.put, List.setIfInBounds_toArray, List.set_cons_zero, List.set_cons_succ]
                          refine take_run (i := 6) (v := ?vt6) rfl (by kernel_rfl) (by kernel_rfl) (by kernel_rfl) (fun _ _ _ h => h) (by rfl) ?yt6 (by assumption) ?rt6
                          case yt6 => (intro w hSw; (try dsimp only at hSw); go_simp; try with_reducible rfl)
                          try simp only [Act.put, List.setIfInBounds_toArray, List.set_cons_zero, List.set_cons_succ]
                          refine take_run (i := 7) (v := ?vt7) rfl (by kernel_rfl) (by kernel_rfl) (by kernel_rfl) (fun _ _ _ h => h) (by rfl) ?yt7 (by assumption) ?rt7
                          case yt7 => (intro w hSw; (try dsimp only at hSw); go_simp; try with_reducible rfl)
                          try simp only [Act.put, List.setIfInBounds_toArray, List.set_cons_zero, List.set_cons_succ]
                          refine take_run (i := 8) (v := ?vt8) rfl (by kernel_rfl) (by kernel_rfl) (by kernel_rfl) (fun _ _ _ h => h) (by rfl) ?yt8 (by assumption) ?rt8
                          case yt8 => (intro w hSw; (try dsimp only at hSw); go_simp; try with_reducible rfl)
                          try simp only [Act.put, List.setIfInBounds_toArray, List.set_cons_zero, List.set_cons_succ]
                          refine take_run (i := 9) (v := ?vt9) rfl (by kernel_rfl) (by kernel_rfl) (by kernel_rfl) (fun _ _ _ h => h) (by rfl) ?yt9 (by assumption) ?rt9
                          case yt9 => (intro w hSw; (try dsimp only at hSw); go_simp; try with_reducible rfl)
                          try simp only [Act.put, List.setIfInBounds_toArray, List.set_cons_zero, List.set_cons_succ]
                          refine take_run (i := 10) (v := ?vt10) rfl (by kernel_rfl) (by kernel_rfl) (by kernel_rfl) (fun _ _ _ h => h) (by rfl) ?yt10 (by assumption) ?rt10
                          case yt10 => (intro w hSw; (try dsimp only at hSw); go_simp; try with_reducible rfl)
                          try simp only [Act.put, List.setIfInBounds_toArray, List.set_cons_zero, List.set_cons_succ]
                          refine take_run (i := 11) (v := ?vt11) rfl (by kernel_rfl) (by kernel_rfl) (by kernel_rfl) (fun _ _ _ h => h) (by rfl) ?yt11 (by assumption) ?rt11
                          case yt11 => (intro w hSw; (try dsimp only at hSw); go_simp; try with_reducible rfl)
                          try simp only [Act.put, List.setIfInBounds_toArray, List.set_cons_zero, List.set_cons_succ]
                          refine take_run (i := 12) (v := ?vt12) rfl (by kernel_rfl) (by kernel_rfl) (by kernel_rfl) (fun _ _ _ h => h) (by rfl) ?yt12 (by assumption) ?rt12
                          case yt12 => (intro w hSw; (try dsimp only at hSw); go_simp; try with_reducible rfl)
                          try simp only [Act.put, List.setIfInBounds_toArray, List.set_cons_zero, List.set_cons_succ]
                          refine take_bar (i := 13) rfl (by kernel_rfl) (by kernel_rfl) (by kernel_rfl) (fun _ _ _ h => h) (by rfl) (by assumption) ?_
                          try simp only [Act.put, List.setIfInBounds_toArray, List.set_cons_zero, List.set_cons_succ]
                          refine take_bar (i := 14) rfl (by kernel_rfl) (by kernel_rfl) (by kernel_rfl) (fun _ _ _ h => h) (by rfl) (by assumption) ?_
                          try simp only [Act.put, List.setIfInBounds_toArray, List.set_cons_zero, List.set_cons_succ]
                          refine take_bar (i := 15) rfl (by kernel_rfl) (by kernel_rfl) (by kernel_rfl) (fun _ _ _ h => h) (by rfl) (by assumption) ?_
                          try simp only [Act.put, List.setIfInBounds_toArray, List.set_cons_zero, List.set_cons_succ]
                          refine take_bar (i := 16) rfl (by kernel_rfl) (by kernel_rfl) (by kernel_rfl) (fun _ _ _ h => h) (by rfl) (by assumption) ?_
                          try simp only [Act.put, List.setIfInBounds_toArray, List.set_cons_zero, List.set_cons_succ]
                          refine take_bar (i := 17) rfl (by kernel_rfl) (by kernel_rfl) (by kernel_rfl) (fun _ _ _ h => h) (by rfl) (by assumption) ?_
                          try simp only [Act.put, List.setIfInBounds_toArray, List.set_cons_zero, List.set_cons_succ]
                          refine take_bar (i := 18) rfl (by kernel_rfl) (by kernel_rfl) (by kernel_rfl) (fun _ _ _ h => h) (by rfl) (by assumption) ?_
                          try simp only [Act.put, List.setIfInBounds_toArray, List.set_cons_zero, List.set_cons_succ]
                          refine take_bar (i := 19) rfl (by kernel_rfl) (by kernel_rfl) (by kernel_rfl) (fun _ _ _ h => h) (by rfl) (by assumption) ?_
                          try simp only [Act.put, List.setIfInBounds_toArray, List.set_cons_zero, List.set_cons_succ]
                          refine take_run (i := 20) (v := ?vt20) rfl (by kernel_rfl) (by kernel_rfl) (by kernel_rfl) (fun _ _ _ h => h) (by rfl) ?yt20 (by assumption) ?rt20
                          case yt20 => (intro w hSw; (try dsimp only at hSw); go_simp; try with_reducible rfl)
                          try simp only [Act.put, List.setIfInBounds_toArray, List.set_cons_zero, List.set_cons_succ]
                          refine take_run (i := 21) (v := ?vt21) rfl (by kernel_rfl) (by kernel_rfl) (by kernel_rfl) (fun _ _ _ h => h) (by rfl) ?yt21 (by assumption) ?rt21
                          case yt21 => (intro w hSw; (try dsimp only at hSw); go_simp; try with_reducible rfl)
                          try simp only [Act.put, List.setIfInBounds_toArray, List.set_cons_zero, List.set_cons_succ]
                          refine take_call (i := 22) rfl (by kernel_rfl) (by rfl) (fun K hK => ?_)
                          go_simp
                          refine hK.out _ _ ?ht22 (fun hHeld => ?rt22)
                          case ht22 => exact HS01.out
                          clear hK K
                          try simp only [Act.put, List.setIfInBounds_toArray, List.set_cons_zero, List.set_cons_succ]
                          refine wpAnyH_done (by kernel_rfl) ?_ _
                          refine NoPanic.normal ?_
                          go_wp2_with fail
                          go_roundw
                          case rel => exact ⟨j + 1, hjn, by go_num, HN2.out, HKn2.out⟩
                          case measure => simp [intOf]; omega
                      · have hjj : j = n := by omega
                        go_wp2
                        go_roundw
                        case rel => exact ⟨kk + 1, hkn2, by go_num, by rw [HF4.out, ← HE.out]; have h := HRd.out; rw [hjj] at h; exact h, HKd.out⟩
                        case measure => simp [intOf]; omega
                · have hkk3 : kk = n := by omega
                  go_wp2
                  go_roundw
                  case rel => exact ⟨ii + 1, hin, by go_num, by rw [HF3.out]; have h := HRc.out; rw [hkk3] at h; exact h, HKc.out⟩
                  case measure => simp [intOf]; omega
            · have hin2 : ii = n := by omega
              go_wp2
              go_roundw
              case rel => exact ⟨rd + 1, hrn, by go_num, by rw [HF2.out]; have h := HRb.out; rw [hin2] at h; exact h, HKb.out⟩
              case measure => simp [intOf]; omega
        · have hrn2 : rd = n := by omega
          go_wp2
          go_ret
          exact ⟨rfl, by unfold closeR; rw [← HF1.out]; have h := HRa.out; rw [hrn2] at h; exact h, HKa.out⟩
end Go.Proofs.YtagcnhiinmiklaaDoor
