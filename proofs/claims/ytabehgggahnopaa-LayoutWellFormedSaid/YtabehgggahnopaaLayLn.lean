/- Contract: layout.Lines. -/
import Derived.Test.YtabehgggahnopaaLayB
import Derived.Deep.LoopGhost
import Derived.Deep.RegionLaw
namespace Go.Proofs.Ytabehgggahnopaa
open Go.RowKit
set_option linter.unusedVariables false

instance instDatLine : Dat LineD where
  size := 2
  wraps := true
  rd w S r cs := ∃ v, cs = [.int .i64 r.depth, v] ∧ I64 r.depth ∧ Vl w S r.kinds v
  len h := by obtain ⟨v, rfl, _⟩ := h; rfl
  pos := by decide
  flat h := by simp at h
  one h := by
    obtain ⟨v, rfl, _, hv⟩ := h
    obtain ⟨A, c, rfl, _⟩ := hv.slice
    intro u hu; simp at hu; rcases hu with rfl | rfl <;> rfl
  keep hk hS h := by obtain ⟨v, h1, h2, h3⟩ := h; exact ⟨v, h1, h2, h3.keep hk hS⟩
theorem Els.line {w : World} {S : Nat → Prop} {A : Option Addr} {k : Nat} {xs : List LineD} {x : LineD} (h : Els w S xs A) (hk : xs[k]? = some x) :
    ∃ b o A' c, A = some ⟨b, o, none⟩ ∧ S b ∧ b < w.heap.size ∧ I64 x.depth ∧ x.kinds.length ≤ c ∧ c ≤ 9223372036854775807 ∧ Els w S x.kinds A' ∧ w.cell? ⟨b, o + k * 2, none⟩ = some (.int .i64 x.depth) ∧ w.cell? ⟨b, o + k * 2 + 1, none⟩ = some (.slice A' x.kinds.length c) := by
  obtain ⟨b, o, cs, hA, hS, hb, ⟨v, rfl, h1, hv⟩, hc⟩ := h.at_ hk
  obtain ⟨A', c, rfl, h2, h3, h4⟩ := hv.slice
  exact ⟨b, o, A', c, hA, hS, hb, h1, h2, h3, h4, hc.c0, hc.c1⟩
theorem infoLine : (Try.prog.info? 73).map (fun i => (i.zero, i.size, i.bytes)) = some (some (.agg #[.int .i64 0, .slice none 0 0]), 2, 32) := by kernel_rfl
theorem elemLine : ElemT Try.prog LineD 29 73 32 := by obtain ⟨i, h1, h2, h3, h4⟩ := info_parts infoLine; exact ⟨i, _, Try.underlying29, h1, h2, h3, h4, rfl⟩

/-! The plain side of the walk. -/
def stO (out : List LineD) (d : Int) : LSt := if out = [] then .S d out else .L d out
/-- What comes out, where a line begins or the text ends. -/
def AtE (k : K3) (l : List Tok) (out : List LineD) (dd : Int) (q : Nat) : Prop :=
  runL k (.S 0 []) (kindsT l) = if dd < 0 then none else if q = l.length then (if dd = 0 then some out else none) else runL k (.B dd out []) ((kindsT l).drop q)
section
variable {k : K3} {l : List Tok} {out : List LineD} {dd : Int} {q : Nat} {t : Tok}
theorem kinds_drop (h : l[q]? = some t) : (kindsT l).drop q = t.kind :: (kindsT l).drop (q + 1) := drop_cons (by simp [kindsT, h])
theorem kinds_end (h : l.length ≤ q) : (kindsT l).drop q = [] := List.drop_of_length_le (by simpa [kindsT] using h)
theorem runL_cons {st st' : LSt} {x : Int} {r : List Int} (h : stepL k st x = some st') : runL k st (x :: r) = runL k st' r := by unfold runL; rw [foldL, h, Option.bind_some]
theorem runL_bad {st : LSt} {x : Int} {r : List Int} (h : stepL k st x = none) : runL k st (x :: r) = none := by unfold runL; rw [foldL, h]; rfl
theorem runL_eq {st st' : LSt} {x : Int} {r : List Int} (h : stepL k st x = stepL k st' x) : runL k st (x :: r) = runL k st' (x :: r) := by unfold runL; rw [foldL, foldL, h]
theorem isB_at {i : Nat} (h : l[q]? = some t) : isB k l i q = decide (t.kind = kK k i) := by unfold isB; rw [h]
theorem atE_S (h : runL k (.S 0 []) (kindsT l) = runL k (.S dd out) ((kindsT l).drop q)) (h0 : 0 ≤ dd) (hq : q ≤ l.length) : AtE k l out dd q := by
  unfold AtE
  rw [if_neg (by omega), h]
  by_cases he : q = l.length
  · rw [if_pos he, kinds_end (by omega)]; rfl
  · obtain ⟨t, ht⟩ := get_some (show q < l.length by omega)
    rw [if_neg he, kinds_drop ht]
    exact runL_eq rfl
theorem atE_L (h : runL k (.S 0 []) (kindsT l) = runL k (.L dd out) ((kindsT l).drop q)) (h0 : 0 ≤ dd) (hq : q < l.length) (h1 : isB k l 0 q = false) (h2 : isB k l 1 q = false) : AtE k l out dd q := by
  unfold AtE
  obtain ⟨t, ht⟩ := get_some hq
  rw [isB_at ht] at h1 h2
  have h1 : ¬ t.kind = k.k0 := by simpa [kK] using h1
  have h2 : ¬ t.kind = k.k1 := by simpa [kK] using h2
  rw [if_neg (by omega), h, if_neg (by omega), kinds_drop ht]
  refine runL_eq ?_
  show (if _ then _ else if _ then _ else _) = _
  rw [if_neg h1, if_neg h2]; rfl
theorem atE_D (h : runL k (.S 0 []) (kindsT l) = runL k (.D dd out) ((kindsT l).drop q)) (hq : q ≤ l.length) (h2 : isB k l 1 q = false) : AtE k l out dd q := by
  unfold AtE
  rw [h]
  by_cases he : q = l.length
  · rw [kinds_end (by omega)]
    show finL (.D dd out) = _
    show (if _ then _ else _) = _
    by_cases hd : dd < 0
    · rw [if_pos hd, if_neg (by omega)]
    · rw [if_neg hd, if_pos he]
  · obtain ⟨t, ht⟩ := get_some (show q < l.length by omega)
    rw [isB_at ht] at h2
    have h2 : ¬ t.kind = k.k1 := by simpa [kK] using h2
    rw [kinds_drop ht]
    by_cases hd : dd < 0
    · rw [if_pos hd]
      refine runL_bad ?_
      show (if _ then _ else if _ then _ else _) = _
      rw [if_neg h2, if_pos hd]
    · rw [if_neg hd, if_neg he]
      refine runL_eq ?_
      show (if _ then _ else if _ then _ else _) = _
      rw [if_neg h2, if_neg hd]; rfl
theorem run_indent (h : runL k (.S 0 []) (kindsT l) = runL k (.L dd out) ((kindsT l).drop q)) (hq : q < l.length) (h1 : isB k l 0 q = true) : runL k (.S 0 []) (kindsT l) = runL k (.S (dd + 1) out) ((kindsT l).drop (q + 1)) := by
  obtain ⟨t, ht⟩ := get_some hq
  rw [isB_at ht] at h1
  have h1 : t.kind = k.k0 := by simpa [kK] using h1
  rw [h, kinds_drop ht]
  refine runL_cons ?_
  show (if _ then _ else if _ then _ else _) = _
  rw [if_pos h1]
theorem isB_lt {i : Nat} (h : isB k l i q = true) : q < l.length := by
  unfold isB at h
  split at h
  · rename_i t ht; exact (List.getElem?_eq_some_iff.1 ht).1
  · cases h
theorem run_dedent (h : runL k (.S 0 []) (kindsT l) = runL k (.L dd out) ((kindsT l).drop q) ∧ isB k l 0 q = false ∨ runL k (.S 0 []) (kindsT l) = runL k (.D dd out) ((kindsT l).drop q)) (h1 : isB k l 1 q = true) : runL k (.S 0 []) (kindsT l) = runL k (.D (dd - 1) out) ((kindsT l).drop (q + 1)) := by
  obtain ⟨t, ht⟩ := get_some (isB_lt h1)
  rw [isB_at ht] at h1
  have h1 : t.kind = k.k1 := by simpa [kK] using h1
  rcases h with ⟨h, h0⟩ | h
  · rw [isB_at ht] at h0
    have h0 : ¬ t.kind = k.k0 := by simpa [kK] using h0
    rw [h, kinds_drop ht]
    refine runL_cons ?_
    show (if _ then _ else if _ then _ else _) = _
    rw [if_neg h0, if_pos h1]
  · rw [h, kinds_drop ht]
    refine runL_cons ?_
    show (if _ then _ else if _ then _ else _) = _
    rw [if_pos h1]
theorem run_body {cur : List Int} (h : runL k (.S 0 []) (kindsT l) = runL k (.B dd out cur) ((kindsT l).drop q)) (ht : l[q]? = some t) (h1 : isK k t.kind = false) : runL k (.S 0 []) (kindsT l) = runL k (.B dd out (cur ++ [t.kind])) ((kindsT l).drop (q + 1)) := by
  rw [h, kinds_drop ht]
  exact runL_cons (bodyS_in h1)
theorem run_end {cur : List Int} (h : runL k (.S 0 []) (kindsT l) = runL k (.B dd out cur) ((kindsT l).drop q)) (hc : cur ≠ []) (h1 : isB k l 2 q = true) : runL k (.S 0 []) (kindsT l) = runL k (.L dd (out ++ [⟨dd, cur⟩])) ((kindsT l).drop (q + 1)) := by
  obtain ⟨t, ht⟩ := get_some (isB_lt h1)
  rw [isB_at ht] at h1
  have h1 : t.kind = k.k2 := by simpa [kK] using h1
  rw [h, kinds_drop ht]
  refine runL_cons ?_
  rw [h1]
  exact bodyS_end hc
theorem run_noend {cur : List Int} (h : runL k (.S 0 []) (kindsT l) = runL k (.B dd out cur) ((kindsT l).drop q)) (hk : ∀ t, l[q]? = some t → isK k t.kind = true) (hc : cur = [] ∨ isB k l 2 q = false) : runL k (.S 0 []) (kindsT l) = none := by
  rw [h]
  by_cases hq : q < l.length
  · obtain ⟨t, ht⟩ := get_some hq
    rw [kinds_drop ht]
    refine runL_bad ?_
    show bodyS _ _ _ _ _ = _
    unfold bodyS
    rw [if_pos (hk t ht), if_pos]
    rcases hc with hc | hc
    · exact .inl hc
    · rw [isB_at ht] at hc
      exact .inr (by simpa [kK] using hc)
  · rw [kinds_end (by omega)]; rfl
end
theorem linesL_bad {l : List Tok} {k : K3} (h1 : l.length ≤ 1600) (h2 : twiceK k = false) (h : runL k (.S 0 []) (kindsT l) = none) : linesL l k = ([], 3) := by
  unfold linesL; rw [if_neg (by omega), h2, if_neg (by decide), h]
theorem linesL_good {l : List Tok} {k : K3} {r : List LineD} (h1 : l.length ≤ 1600) (h2 : twiceK k = false) (h : runL k (.S 0 []) (kindsT l) = some r) : linesL l k = (r, 0) := by
  unfold linesL; rw [if_neg (by omega), h2, if_neg (by decide), h]
def RetLn (r : List LineD × Int) (w : World) (e : Ending) (w' : World) : Prop :=
  ∃ (A : Option Addr) (c : Nat), e = .returned (.tuple #[.slice A r.1.length c, .int .i64 r.2]) ∧ r.1.length ≤ c ∧ c ≤ 9223372036854775807 ∧ Els w' (fun b => w.heap.size ≤ b ∧ b < w'.heap.size) r.1 A ∧ Below w.heap.size w w'
theorem retLn_err {r : List LineD × Int} {E : Int} {w w' : World} (h : r = ([], E)) (hb : Below w.heap.size w w') : RetLn r w (.returned (.tuple #[.slice none 0 0, .int .i64 E])) w' :=
  ⟨none, 0, by rw [h]; rfl, by rw [h]; exact Nat.le_refl _, by omega, by rw [h]; exact fun h => absurd rfl h, hb⟩
theorem retLn_ok {r : List LineD × Int} {out : List LineD} {A : Option Addr} {c base : Nat} {w w' : World} (h : r = (out, 0)) (hown : Own w' (fun _ => False) base 73 (.slice A out.length c) out) (hz : w.heap.size ≤ base) (hb : Below w.heap.size w w') : RetLn r w (.returned (.tuple #[.slice A out.length c, .int .i64 0])) w' := by
  subst h
  obtain ⟨_, h1, h2, h3⟩ := hown.vl.els
  exact ⟨A, c, rfl, h1, h2, h3.keep (fun _ _ _ => rfl) (fun b hb => ⟨by rcases hb.1 with h | h; exact absurd h id; omega, hb.2⟩), hb⟩

def LnO (k : K3) (l : List Tok) (B : Nat) (w3 : World) (gk : Nat) (v dv : Value) (wr : World) : Prop :=
  ∃ (j : Nat) (out : List LineD) (d : Nat), j + gk = l.length ∧ dv = .int .i64 (d : Int) ∧ d ≤ j ∧ out.length ≤ j ∧ (out = [] → d = 0) ∧ runL k (.S 0 []) (kindsT l) = runL k (stO out d) ((kindsT l).drop j) ∧ Own wr (fun _ => False) w3.heap.size 73 v out ∧ Blk' wr B 3 #[.int .i64 j] ∧ Kept (fun b => b = B) w3 wr
def LnD (k : K3) (l : List Tok) (out : List LineD) (d j : Nat) (B : Nat) (wo : World) (gk : Nat) (dv : Value) (wr : World) : Prop :=
  ∃ (q : Nat) (dd : Int), q + gk = l.length ∧ j ≤ q ∧ dv = .int .i64 dd ∧ dd = (d : Int) - ((q : Int) - (j : Int)) ∧ (q = j ∨ out ≠ [] ∧ runL k (.S 0 []) (kindsT l) = runL k (.D dd out) ((kindsT l).drop q)) ∧ Blk' wr B 3 #[.int .i64 q] ∧ Kept (fun b => b = B) wo wr
def LnI (k : K3) (l : List Tok) (out : List LineD) (dd : Nat) (jb B P : Nat) (wl : World) (gk : Nat) (wr : World) : Prop :=
  ∃ (s : Nat) (cur : List Int) (vc : Value), s + gk = l.length ∧ jb ≤ s ∧ cur.length ≤ s ∧ runL k (.S 0 []) (kindsT l) = runL k (.B dd out cur) ((kindsT l).drop s) ∧ Blk' wr P 73 #[.int .i64 dd, vc] ∧ Own wr (fun _ => False) (P + 1) 3 vc cur ∧ Blk' wr B 3 #[.int .i64 s] ∧ Kept (fun b => b = B ∨ b = P) wl wr

set_option maxRecDepth 100000 in
set_option maxHeartbeats 16000000 in
theorem lines_any (l : List Tok) (k : K3) (A : Option Addr) (c : Nat) (S : Nat → Prop) (w : World) (hk : I64 k.k0 ∧ I64 k.k1 ∧ I64 k.k2) (hlc : l.length ≤ c) (hc : c ≤ 9223372036854775807) (hA : Els w S l A) (hS : ∀ b, S b → b < w.heap.size) :
    Calls Try.prog 8 #[.slice A l.length c, .agg #[.int .i64 k.k0, .int .i64 k.k1, .int .i64 k.k2]] w (RetLn (linesL l k) w) := by
  have HK := Lib.hid hk
  have HS := Lib.hid hS
  have HM := Lib.hid (fun z => isK_mem k z)
  have hl9 : l.length ≤ 9223372036854775807 := by omega
  obtain ⟨kk, hkk⟩ : ∃ kk, kk = k := ⟨_, rfl⟩
  have HKK := Lib.hid hkk
  obtain ⟨ka, kb, kc⟩ := k
  dsimp only at *
  clear hk hkk
  have KE_0 : Hid (Els w S l A) := Lib.hid (hA)
  clear hA hS
  obtain ⟨w_1, hww_1⟩ : ∃ w_1 : World, w_1 = (w.alloc (.cells #[.slice A l.length c] 22)).alloc (.cells #[.int .i64 ka, .int .i64 kb, .int .i64 kc] 23) := ⟨_, rfl⟩
  have hbw_1 : Below w.heap.size w w_1 := by rw [hww_1]; exact ((Below.refl _ _).alloc (by first | exact Nat.le_refl _ | (simp; done) | (simp; omega)) _).alloc (by first | exact Nat.le_refl _ | (simp; done) | (simp; omega)) _
  have sqw_1 : w_1.heap.size = w.heap.size + 1 + 1 := by rw [hww_1]; simp
  have KE_1 : Hid (Els w_1 S l A) := Lib.hid (KE_0.out.below hbw_1)
  have QB_1 : Hid (Below w.heap.size w w_1) := Lib.hid (hbw_1)
  have sz_1 : w.heap.size + 1 + 1 ≤ w_1.heap.size := by rw [sqw_1]; exact Nat.le_refl _
  have KL_1 : Hid (Blk' w_1 (w.heap.size) 22 #[.slice A l.length c]) := Lib.hid (by rw [hww_1]; exact (Blk'.new w _ _).alloc _)
  have KK_1 : Hid (Blk' w_1 (w.heap.size + 1) 23 #[.int .i64 ka, .int .i64 kb, .int .i64 kc]) := Lib.hid (by rw [hww_1]; exact Blk'.new' (g := w.heap.size + 1) _ _ _ (by simp))
  have HWw_1 := Lib.hid hww_1
  have SQw_1 := Lib.hid sqw_1
  clear hww_1 hbw_1 sqw_1
  clear KE_0
  go_enter Try.func8, Try.ntmps8
  go_upto_region 1 with (fail)
  rw [← HWw_1.out]
  have cL_1_0 : w_1.cell? ⟨w.heap.size, 0, none⟩ = some (.slice A l.length c) := KL_1.out.cell 0
  have zL_1 : w.heap.size < w_1.heap.size := KL_1.out.lt
  have cK_1_0 : w_1.cell? ⟨w.heap.size + 1, 0, none⟩ = some (.int .i64 ka) := KK_1.out.cell 0
  have cK_1_1 : w_1.cell? ⟨w.heap.size + 1, 1, none⟩ = some (.int .i64 kb) := KK_1.out.cell 1
  have cK_1_2 : w_1.cell? ⟨w.heap.size + 1, 2, none⟩ = some (.int .i64 kc) := KK_1.out.cell 2
  have zK_1 : w.heap.size + 1 < w_1.heap.size := KK_1.out.lt
  by_cases h1 : (1600 : Int) < (l.length : Int)
  · go_wp2
    go_ret2
    exact retLn_err (by unfold linesL; rw [if_pos (by omega)]) QB_1.out
  go_wp2_with fail
  refine (twice_any ⟨ka, kb, kc⟩ w_1).mono ?_
  rintro e w_2 ⟨rfl, hbz⟩
  clear cL_1_0 zL_1 cK_1_0 cK_1_1 cK_1_2 zK_1
  have KE_2 : Hid (Els w_2 S l A) := Lib.hid (KE_1.out.below hbz)
  have KL_2 : Hid (Blk' w_2 (w.heap.size) 22 #[.slice A l.length c]) := Lib.hid (KL_1.out.below hbz KL_1.out.lt)
  have KK_2 : Hid (Blk' w_2 (w.heap.size + 1) 23 #[.int .i64 ka, .int .i64 kb, .int .i64 kc]) := Lib.hid (KK_1.out.below hbz KK_1.out.lt)
  have QB_2 : Hid (Below w.heap.size w w_2) := Lib.hid (bthen QB_1.out hbz QB_1.out.size)
  have sz_2 : w_1.heap.size ≤ w_2.heap.size := (hbz).size
  clear hbz
  clear KE_1 KL_1 KK_1 QB_1
  obtain ⟨TT, hTT⟩ : ∃ TT, TT = twiceK ⟨ka, kb, kc⟩ := ⟨_, rfl⟩
  rw [← hTT]
  have HTT := Lib.hid hTT
  clear hTT
  cases TT
  rotate_left
  · go_wp2
    go_ret2
    exact retLn_err (by unfold linesL; rw [if_neg (by omega), if_pos HTT.out.symm]) QB_2.out
  have hl16 : l.length ≤ 1600 := by omega
  have HBad : Hid (runL kk (.S 0 []) (kindsT l) = none → linesL l ⟨ka, kb, kc⟩ = ([], 3)) := Lib.hid (fun h => by rw [HKK.out] at h; exact linesL_bad hl16 HTT.out.symm h)
  have HGood : Hid (∀ r, runL kk (.S 0 []) (kindsT l) = some r → linesL l ⟨ka, kb, kc⟩ = (r, 0)) := Lib.hid (fun r h => by rw [HKK.out] at h; exact linesL_good hl16 HTT.out.symm h)
  clear h1
  obtain ⟨w_3, hww_3⟩ : ∃ w_3 : World, w_3 = w_2.alloc (.cells #[.int .i64 0] 3) := ⟨_, rfl⟩
  have hbw_3 : Below w_2.heap.size w_2 w_3 := by rw [hww_3]; exact (Below.refl _ _).alloc (by first | exact Nat.le_refl _ | (simp; done) | (simp; omega)) _
  have sqw_3 : w_3.heap.size = w_2.heap.size + 1 := by rw [hww_3]; simp
  have KE_3 : Hid (Els w_3 S l A) := Lib.hid (KE_2.out.below hbw_3)
  have KL_3 : Hid (Blk' w_3 (w.heap.size) 22 #[.slice A l.length c]) := Lib.hid (KL_2.out.below hbw_3 KL_2.out.lt)
  have KK_3 : Hid (Blk' w_3 (w.heap.size + 1) 23 #[.int .i64 ka, .int .i64 kb, .int .i64 kc]) := Lib.hid (KK_2.out.below hbw_3 KK_2.out.lt)
  have QB_3 : Hid (Below w.heap.size w w_3) := Lib.hid (bthen QB_2.out hbw_3 QB_2.out.size)
  have sz_3 : w_2.heap.size + 1 ≤ w_3.heap.size := by rw [sqw_3]; exact Nat.le_refl _
  have KP_3 : Hid (Blk' w_3 (w_2.heap.size) 3 #[.int .i64 0]) := Lib.hid (by rw [hww_3]; exact Blk'.new w_2 _ _)
  have HWw_3 := Lib.hid hww_3
  have SQw_3 := Lib.hid sqw_3
  clear hww_3 hbw_3 sqw_3
  clear KE_2 KL_2 KK_2 QB_2
  go_upto_region 7 with (fail)
  rw [← HWw_3.out]
  go_wp2_with fail
  go_loopg [6, 7] l.length (fun gk v dv wr => LnO kk l w_2.heap.size w_3 gk v dv wr)
  case atStart => exact ⟨0, [], 0, by omega, rfl, Nat.le_refl _, Nat.le_refl _, fun _ => rfl, rfl, Own.nil _ _ _ _, KP_3.out, Kept.refl _ _⟩
  case round =>
    obtain ⟨wo, hwo⟩ : ∃ wo : World, wo = wr := ⟨_, rfl⟩
    subst hwo
    obtain ⟨j, out, d, hjg, rfl, hdj, hoj, ho0, hrun, hown, hat, hkp⟩ := hrel
    obtain ⟨Av, cv, rfl, hcv1, hcv2, _⟩ := hown.form
    have HOw := Lib.hid hown
    have HAt := Lib.hid hat
    have HKp := Lib.hid hkp
    have HRun := Lib.hid hrun
    have HO0 := Lib.hid ho0
    have HJg : Hid (∀ s, j ≤ s → s < l.length → l.length - (s + 1) < gk) := Lib.hid (fun s h1 h2 => by omega)
    have hsz0 : w_3.heap.size ≤ wo.heap.size := hkp.size
    have HBo : Hid (Below w.heap.size w wo) := Lib.hid (QB_3.out.trans (hkp.to_below (B := w.heap.size) (fun b (h : b = w_2.heap.size) => by omega) QB_3.out.size))
    have HL0 : Hid (Blk' wo w.heap.size 22 #[.slice A l.length c]) := Lib.hid (KL_3.out.kept hkp (fun h : w.heap.size = w_2.heap.size => by omega))
    have HK0 : Hid (Blk' wo (w.heap.size + 1) 23 #[.int .i64 ka, .int .i64 kb, .int .i64 kc]) := Lib.hid (KK_3.out.kept hkp (fun h : w.heap.size + 1 = w_2.heap.size => by omega))
    have HE0 : Hid (Els wo S l A) := Lib.hid (KE_3.out.kept hkp (fun b hb (h : b = w_2.heap.size) => by have := HS.out b hb; omega))
    have hjl : j ≤ l.length := by omega
    have hj0 : (0 : Int) ≤ (j : Int) := by omega
    clear hown hat hkp hrun ho0
    have l0 : wo.cell? ⟨w.heap.size, 0, none⟩ = some (.slice A l.length c) := HL0.out.cell 0
    have a0 : wo.cell? ⟨w_2.heap.size, 0, none⟩ = some (.int .i64 (j : Int)) := HAt.out.cell 0
    have zl : w.heap.size < wo.heap.size := HL0.out.lt
    have za : w_2.heap.size < wo.heap.size := HAt.out.lt
    have zk : w.heap.size + 1 < wo.heap.size := HK0.out.lt
    by_cases hlt : j < l.length
    rotate_left
    · have hje : j = l.length := by omega
      have hrun := HRun.out
      rw [kinds_end (by omega)] at hrun
      have hjn : ¬ (j : Int) < (l.length : Int) := by omega
      have hfin : runL kk (.S 0 []) (kindsT l) = if d = 0 then some out else none := by
        rw [hrun]
        unfold stO
        split
        · show (if _ then _ else _) = _
          by_cases hd : d = 0
          · rw [if_pos hd, if_pos (by omega)]
          · rw [if_neg hd, if_neg (by omega)]
        · show (if _ then _ else _) = _
          by_cases hd : d = 0
          · rw [if_pos hd, if_pos (by omega)]
          · rw [if_neg hd, if_neg (by omega)]
      have HF := Lib.hid hfin
      clear hfin hrun hje
      by_cases hd : d = 0
      · subst hd
        have HF2 := Lib.hid (HGood.out out (by rw [HF.out, if_pos rfl]))
        clear HF
        go_wp2
        go_ret2
        exact retLn_ok HF2.out HOw.out QB_3.out.size HBo.out
      · have HF2 := Lib.hid (HBad.out (by rw [HF.out, if_neg hd]))
        have hd2 : ¬ (d : Int) = 0 := by omega
        clear HF
        go_wp2
        go_ret2
        exact retLn_err HF2.out HBo.out
    have hjl2 : (j : Int) < (l.length : Int) := by omega
    have HOo := HOw
    have HAo := HAt
    have HLo := HL0
    have HKKo := HK0
    have HEo := HE0
    have HPo := HKp
    clear HOw HAt HL0 HK0 HE0 HKp
    by_cases hout : out = []
    · skip
      have hd0 : d = 0 := HO0.out hout
      have hol0 : ¬ (0 : Int) < (out.length : Int) := by rw [hout]; simp
      obtain ⟨dd, hdd⟩ : ∃ dd : Int, dd = (d : Int) := ⟨_, rfl⟩
      have HAE : Hid (AtE kk l out dd j) := Lib.hid (by rw [hdd]; exact atE_S (by have h := HRun.out; unfold stO at h; rw [if_pos hout] at h; exact h) (by omega) hjl)
      have hdq : dd ≤ (j : Int) := by omega
      have hjq : j ≤ j := Nat.le_refl _
      rw [← hdd]
      clear hout hdd hd0
      go_wp2_with fail
      go_loopg [7] 0 (fun gk dv wr => dv = .int .i64 dd ∧ wr = wo)
      case atStart => exact ⟨rfl, rfl⟩
      case round =>
        obtain ⟨rfl, hwr⟩ := hrel
        replace hwr := hwr.symm
        subst hwr
        by_cases hneg : dd < 0
        · have HF2 := Lib.hid (HBad.out (by have h := HAE.out; unfold AtE at h; rw [h, if_pos hneg]))
          go_wp2
          go_ret2
          exact retLn_err HF2.out HBo.out
        have l0 : wo.cell? ⟨w.heap.size, 0, none⟩ = some (.slice A l.length c) := HLo.out.cell 0
        have a0 : wo.cell? ⟨w_2.heap.size, 0, none⟩ = some (.int .i64 (j : Int)) := HAo.out.cell 0
        have zl : w.heap.size < wo.heap.size := HLo.out.lt
        have za : w_2.heap.size < wo.heap.size := HAo.out.lt
        have zk : w.heap.size + 1 < wo.heap.size := HKKo.out.lt
        by_cases hqe : j = l.length
        · have hqe2 : (j : Int) = (l.length : Int) := by omega
          have hfin : runL kk (.S 0 []) (kindsT l) = if dd = 0 then some out else none := by
            have h := HAE.out; unfold AtE at h; rw [h, if_neg hneg, if_pos hqe]
          have HF := Lib.hid hfin
          clear hfin hqe
          by_cases hd : dd = 0
          · have HF2 := Lib.hid (HGood.out out (by rw [HF.out, if_pos hd]))
            subst hd
            clear HF
            go_wp2
            all_goals
              go_ret2
              exact retLn_ok HF2.out HOo.out QB_3.out.size HBo.out
          · have HF2 := Lib.hid (HBad.out (by rw [HF.out, if_neg hd]))
            clear HF
            go_wp2
            all_goals
              go_ret2
              exact retLn_err HF2.out HBo.out
        have hql : j < l.length := by omega
        have hszb : w_3.heap.size ≤ wo.heap.size := HPo.out.size
        have hqe2 : ¬ (j : Int) = (l.length : Int) := by omega
        have HRb : Hid (runL kk (.S 0 []) (kindsT l) = runL kk (.B dd out []) ((kindsT l).drop j)) := Lib.hid (by have h := HAE.out; unfold AtE at h; rw [h, if_neg hneg, if_neg hqe])
        obtain ⟨n, rfl⟩ : ∃ n : Nat, dd = (n : Int) := ⟨dd.toNat, by omega⟩
        have hn0 : ¬ (n : Int) < 0 := by omega
        have hn1 : decide ((n : Int) < 0) = false := by simp
        have hqe3 : ((j : Int) == (l.length : Int)) = false := by simp; omega
        clear HAE hqe hneg
        obtain ⟨wl, hwl⟩ : ∃ wl : World, wl = wo.alloc (.cells #[.int .i64 (n : Int), .slice none 0 0] 73) := ⟨_, rfl⟩
        have hbl : Below wo.heap.size wo wl := by rw [hwl]; exact (Below.refl _ _).alloc (Nat.le_refl _) _
        have hzl : wl.heap.size = wo.heap.size + 1 := by rw [hwl]; simp
        have HPl : Hid (Blk' wl wo.heap.size 73 #[.int .i64 (n : Int), .slice none 0 0]) := Lib.hid (by rw [hwl]; exact Blk'.new _ _ _)
        have HAl := Lib.hid (HAo.out.below hbl HAo.out.lt)
        have HWl := Lib.hid hwl
        have HBl := Lib.hid hbl
        have HZl := Lib.hid hzl
        have hzl2 : wo.heap.size < wl.heap.size := by omega
        clear hwl hbl hzl
        go_upto_region 19 with (fail)
        rw [← HWl.out]
        clear l0 a0 zl za zk
        go_loopg [] (l.length - j) (fun gk wr => LnI kk l out n j w_2.heap.size wo.heap.size wl gk wr)
        case atStart => exact ⟨j, [], _, by omega, Nat.le_refl _, Nat.zero_le _, HRb.out, HPl.out, Own.nil _ _ _ _, HAl.out, Kept.refl _ _⟩
        case round =>
          obtain ⟨wi, hwi⟩ : ∃ wi : World, wi = wr := ⟨_, rfl⟩
          subst hwi
          obtain ⟨s, cur, vc, hsg, hqs, hcs, hrun, hPb, hcown, hat, hki⟩ := hrel
          obtain ⟨Ac, cc, rfl, hcc1, hcc2, _⟩ := hcown.form
          have HPi := Lib.hid hPb
          have HCo := Lib.hid hcown
          have HAi := Lib.hid hat
          have HRi := Lib.hid hrun
          have hkw : Kept (fun b => b = w_2.heap.size) wo wi := ((Kept.of_below (fun b => b = w_2.heap.size ∨ b = wo.heap.size) HBl.out).trans hki).mono (fun b hb h => by rcases h with h | h; exact h; omega)
          have HKi := Lib.hid hki
          have HKw := Lib.hid hkw
          have HLi := Lib.hid (HLo.out.kept hkw (fun h : w.heap.size = w_2.heap.size => by omega))
          have HKKi := Lib.hid (HKKo.out.kept hkw (fun h : w.heap.size + 1 = w_2.heap.size => by omega))
          have HKq : Hid (Blk' wi (w.heap.size + 1) 23 #[.int .i64 kk.k0, .int .i64 kk.k1, .int .i64 kk.k2]) := Lib.hid (by rw [HKK.out]; exact HKKi.out)
          have HEi := Lib.hid (HEo.out.kept hkw (fun b hb (h : b = w_2.heap.size) => by have := HS.out b hb; omega))
          have HOi := Lib.hid (HOo.out.kept hkw (fun b (hb : b = w_2.heap.size) h => h.elim id (fun h => by omega)))
          have HBi : Hid (Below w.heap.size w wi) := Lib.hid (HBo.out.trans (hkw.to_below (B := w.heap.size) (fun b (h : b = w_2.heap.size) => by omega) HBo.out.size))
          have hszi : wl.heap.size ≤ wi.heap.size := hki.size
          have HSg : Hid (s < l.length → l.length - (s + 1) < gk ∧ s + 1 + (l.length - (s + 1)) = l.length ∧ j ≤ s + 1 ∧ cur.length + 1 ≤ s + 1) := Lib.hid (fun h => ⟨by omega, by omega, by omega, by omega⟩)
          have hs0 : (0 : Int) ≤ (s : Int) := by omega
          have hsl : s ≤ l.length := by omega
          clear hPb hcown hat hrun hki hkw hsg
          have l0 : wi.cell? ⟨w.heap.size, 0, none⟩ = some (.slice A l.length c) := HLi.out.cell 0
          have a0 : wi.cell? ⟨w_2.heap.size, 0, none⟩ = some (.int .i64 (s : Int)) := HAi.out.cell 0
          have zl : w.heap.size < wi.heap.size := HLi.out.lt
          have za : w_2.heap.size < wi.heap.size := HAi.out.lt
          have zk : w.heap.size + 1 < wi.heap.size := HKKi.out.lt
          have p1 : wi.cell? ⟨wo.heap.size, 1, none⟩ = some (.slice Ac cur.length cc) := HPi.out.cell 1
          have p0 : wi.cell? ⟨wo.heap.size, 0, none⟩ = some (.int .i64 (n : Int)) := HPi.out.cell 0
          have zp : wo.heap.size < wi.heap.size := HPi.out.lt
          have HKe : Hid (Els wi (fun b => b = w.heap.size + 1) [ka, kb, kc] (some ⟨w.heap.size + 1, 0, none⟩)) := Lib.hid (els_of_blk [[.int .i64 ka], [.int .i64 kb], [.int .i64 kc]] HKKi.out rfl rfl (fun i x cs hi hc => by
            match i, hi, hc with
            | 0, hi, hc => simp at hi hc; subst hi; subst hc; exact ⟨rfl, HK.out.1⟩
            | 1, hi, hc => simp at hi hc; subst hi; subst hc; exact ⟨rfl, HK.out.2.1⟩
            | 2, hi, hc => simp at hi hc; subst hi; subst hc; exact ⟨rfl, HK.out.2.2⟩) rfl)
          by_cases hlt2 : s < l.length
          rotate_left
          · skip
            have hd1 : decide ((s : Int) < (l.length : Int)) = false := by simp; omega
            have hsl2 : ¬ (s : Int) < (l.length : Int) := by omega
            have HKt : Hid (∀ t, l[s]? = some t → isK kk t.kind = true) := Lib.hid (fun t ht => by rw [List.getElem?_eq_none (by omega)] at ht; cases ht)
            have hib : isB kk l 2 s = false := by unfold isB; rw [List.getElem?_eq_none (by omega)]
            have HIb := Lib.hid hib
            clear hib
            go_wp2_with fail
            go_quiet (fail)
            clear hd1
            generalize hwd : World.drewN wi _ = wd
            have hbd : Below wi.heap.size wi wd := hwd ▸ bdrewN (Below.refl _ _)
            have hzd : wi.heap.size ≤ wd.heap.size := hbd.size
            have HCd := Lib.hid (HCo.out.below hbd (Nat.le_refl _))
            have HOd := Lib.hid (HOi.out.below hbd (Nat.le_refl _))
            have HPd := Lib.hid (HPi.out.below hbd HPi.out.lt)
            have HAd := Lib.hid (HAi.out.below hbd HAi.out.lt)
            have HLd := Lib.hid (HLi.out.below hbd HLi.out.lt)
            have HKqd := Lib.hid (HKq.out.below hbd HKq.out.lt)
            have HEd := Lib.hid (HEi.out.below hbd)
            have HBd := Lib.hid (bthen HBi.out hbd HBi.out.size)
            have HKd := Lib.hid (HKi.out.below hbd)
            have HKw2 := Lib.hid (HKw.out.below hbd)
            clear hwd hbd l0 a0 zl za zk p0 p1 zp
            have l0 : wd.cell? ⟨w.heap.size, 0, none⟩ = some (.slice A l.length c) := HLd.out.cell 0
            have a0 : wd.cell? ⟨w_2.heap.size, 0, none⟩ = some (.int .i64 (s : Int)) := HAd.out.cell 0
            have zl : w.heap.size < wd.heap.size := HLd.out.lt
            have za : w_2.heap.size < wd.heap.size := HAd.out.lt
            have p1 : wd.cell? ⟨wo.heap.size, 1, none⟩ = some (.slice Ac cur.length cc) := HPd.out.cell 1
            have zp : wo.heap.size < wd.heap.size := HPd.out.lt
            by_cases hcur : cur = []
            · have HF2 := Lib.hid (HBad.out (run_noend HRi.out HKt.out (.inl hcur)))
              have hc1 : cur.length = 0 := by rw [hcur]; rfl
              have hc2 : (cur.length : Int) = 0 := by omega
              clear hcur
              go_wp2
              go_ret2
              exact retLn_err HF2.out HBd.out
            · have HF2 := Lib.hid (HBad.out (run_noend HRi.out HKt.out (.inr HIb.out)))
              have hc2 : ¬ (cur.length : Int) = 0 := by have := List.length_pos_iff.2 hcur; omega
              have hc3 : ¬ cur.length = 0 := by omega
              go_wp2_with fail
              refine (lis_any kk l _ c S 2 s w.heap.size (w.heap.size + 1) w_2.heap.size wd (by omega) hsl (by omega) HEd.out HLd.out HKqd.out HAd.out).mono ?_
              rintro e wz ⟨rfl, hbz⟩
              rw [HIb.out]
              have HBz := Lib.hid (bthen HBd.out hbz HBd.out.size)
              clear hbz
              go_wp2
              go_ret2
              exact retLn_err HF2.out HBz.out
          have hsl2 : (s : Int) < (l.length : Int) := by omega
          obtain ⟨t, ht⟩ := get_some hlt2
          obtain ⟨tb, to_, hbe, hSb, hbs, ti0, ti1, ti2, c0, c1, c2, c2'⟩ := HEi.out.tok ht
          obtain ⟨tk, tf, tt⟩ := t
          dsimp only at ti0 ti1 ti2 c0 c1 c2 c2'
          have HTi := Lib.hid ti0
          have HGt := Lib.hid ht
          subst hbe
          clear ht ti0 ti1 ti2 c1 c2 c2'
          have hd1 : decide ((s : Int) < (l.length : Int)) = true := by simp; omega
          have hmk := HM.out tk
          obtain ⟨Q, hQ⟩ : ∃ Q, Q = isK ⟨ka, kb, kc⟩ tk := ⟨_, rfl⟩
          have HQ := Lib.hid hQ
          rw [← hQ] at hmk
          have HMk := Lib.hid hmk
          clear hQ hmk
          cases Q
          · skip
            go_wp2_with fail
            go_quiet ((go_at_call 32; refine Calls.quiet_of_same ((containsInt_any (some ⟨w.heap.size + 1, 0, none⟩) 3 3 [ka, kb, kc] tk (fun b => b = w.heap.size + 1) _ rfl (by simp) (HKe.out.below (below_drewN (Below.refl _ _) _))).mono fun e w' hh => ⟨hh.1.trans (by rw [HMk.out]), hh.2.symm⟩)))
            clear hd1
            have HR2 := Lib.hid (run_body HRi.out HGt.out (by rw [HKK.out]; exact HQ.out.symm))
            generalize hwd : World.drewN wi _ = wd
            have hbd : Below wi.heap.size wi wd := hwd ▸ bdrewN (Below.refl _ _)
            have hzd : wi.heap.size ≤ wd.heap.size := hbd.size
            have HCd := Lib.hid (HCo.out.below hbd (Nat.le_refl _))
            have HPd := Lib.hid (HPi.out.below hbd HPi.out.lt)
            have HAd := Lib.hid (HAi.out.below hbd HAi.out.lt)
            have HLd := Lib.hid (HLi.out.below hbd HLi.out.lt)
            have HKd := Lib.hid (HKi.out.below hbd)
            have c0d : wd.cell? ⟨tb, to_ + s * 3, none⟩ = some (.int .i64 tk) := by rw [hbd.cell (by exact hbs)]; exact c0
            have hbs2 : tb < wd.heap.size := by omega
            clear hwd hbd l0 a0 zl za zk p0 p1 zp c0 hbs
            have l0 : wd.cell? ⟨w.heap.size, 0, none⟩ = some (.slice (some ⟨tb, to_, none⟩) l.length c) := HLd.out.cell 0
            have a0 : wd.cell? ⟨w_2.heap.size, 0, none⟩ = some (.int .i64 (s : Int)) := HAd.out.cell 0
            have zl : w.heap.size < wd.heap.size := HLd.out.lt
            have za : w_2.heap.size < wd.heap.size := HAd.out.lt
            have p1 : wd.cell? ⟨wo.heap.size, 1, none⟩ = some (.slice Ac cur.length cc) := HPd.out.cell 1
            have zp : wo.heap.size < wd.heap.size := HPd.out.lt
            have hcap1 : (cur.length + 1) * 8 ≤ 140737488355328 := by omega
            have hcap2 : cur.length + 1 ≤ 9223372036854775807 := by omega
            have hPz : wo.heap.size + 1 ≤ wd.heap.size := by omega
            have Hw1 : Hid (IntKind.i64.wrap ((s : Int) + 1) = (s : Int) + 1 ∧ wrap64 ((s : Int) + 1) = (s : Int) + 1) := Lib.hid ⟨IntWalk.i64_in _ (by omega), IntWalk.wrap64_in _ (by omega)⟩
            have hnb : ¬ w_2.heap.size = wo.heap.size := by omega
            have HNo : Hid (∀ k, (Value.slice Ac cur.length cc).ownBlock = some k → wo.heap.size + 1 ≤ k) := Lib.hid (fun k hk => (HCd.out.block k hk).1)
            go_wp2_with fail
            go_region_law
              (first
              | (refine step_own1 _ (by rfl) _ _ elemInt (by rfl) (by rfl) ((HCd.out.alloc _).drew) tk [.int .i64 tk] (by rfl) (At.drew (At.new _ _ _)) ⟨rfl, HTi.out⟩ hcap1 hcap2 (by simp; omega) ?_
                 intro v' wA hA gA aA
                 obtain ⟨A3, k3, e3, _⟩ := hA.form; rw [snoc_len] at e3; subst e3
                 have bP : Blk' wA wo.heap.size 73 #[.int .i64 (n : Int), .slice Ac cur.length cc] := ((HPd.out.alloc _).drew).grown gA (fun e => by have := HNo.out _ e.symm; omega)
                 have bA : Blk' wA w_2.heap.size 3 #[.int .i64 (s : Int)] := ((HAd.out.alloc _).drew).grown gA (fun e => by have := HNo.out _ e.symm; omega)
                 have q1 : wA.cell? ⟨wo.heap.size, 1, none⟩ = some (.slice Ac cur.length cc) := bP.cell 1
                 have fq := bP.frozen 1
                 have zq : wo.heap.size < wA.heap.size := bP.lt
                 have r0 : wA.cell? ⟨w_2.heap.size, 0, none⟩ = some (.int .i64 (s : Int)) := bA.cell 0
                 have fr := bA.frozen 0
                 have zr : w_2.heap.size < wA.heap.size := bA.lt
                 have HA := Lib.hid (And.intro hA (And.intro gA (And.intro bP bA)))
                 clear hA gA aA bP bA))
            all_goals
              have hw1 := Hw1.out.1
              have hw2 := Hw1.out.2
              go_wp2
              clear hw1 hw2
              go_roundg (l.length - (s + 1))
              case measure => exact (HSg.out hlt2).1
              case rel =>
                obtain ⟨hA, gA, bP, bA⟩ := HA.out
                obtain ⟨_, g1, g2, g3⟩ := HSg.out hlt2
                refine ⟨s + 1, cur ++ [tk], .slice A3 (cur.length + 1) k3, g1, g2, by rw [snoc_len]; exact g3, HR2.out, ?_, ?_, ?_, ?_⟩
                · exact (bP.set_ 1 _).far (p := ⟨w_2.heap.size, 0, none⟩) (fun e => hnb e.symm) _
                · exact (hA.setCell (p := ⟨wo.heap.size, 1, none⟩) (fun e => by have h9 := (hA.block _ e).1; dsimp only at h9; omega) (by simp) _).setCell (p := ⟨w_2.heap.size, 0, none⟩) (fun e => by have h9 := (hA.block _ e).1; dsimp only at h9; omega) (by simp; omega) _
                · exact (bA.far (p := ⟨wo.heap.size, 1, none⟩) hnb _).set_ 0 _
                · exact ((((HKd.out.alloc _).drew).grown gA (fun k hk => .inr (by have := HNo.out k hk; have := HZl.out; omega))).setCell (p := ⟨wo.heap.size, 1, none⟩) (.inl (.inr rfl)) _).setCell (p := ⟨w_2.heap.size, 0, none⟩) (.inl (.inl rfl)) _
          · skip
            have HKt : Hid (∀ t, l[s]? = some t → isK kk t.kind = true) := Lib.hid (fun t ht => by rw [HGt.out] at ht; injection ht with ht; subst ht; rw [HKK.out]; exact HQ.out.symm)
            obtain ⟨ib, hib⟩ : ∃ ib, ib = isB kk l 2 s := ⟨_, rfl⟩
            have HIbq := Lib.hid hib
            clear hib
            go_wp2_with fail
            go_quiet ((go_at_call 32; refine Calls.quiet_of_same ((containsInt_any (some ⟨w.heap.size + 1, 0, none⟩) 3 3 [ka, kb, kc] tk (fun b => b = w.heap.size + 1) _ rfl (by simp) (HKe.out.below (below_drewN (Below.refl _ _) _))).mono fun e w' hh => ⟨hh.1.trans (by rw [HMk.out]), hh.2.symm⟩)))
            clear hd1
            generalize hwd : World.drewN wi _ = wd
            have hbd : Below wi.heap.size wi wd := hwd ▸ bdrewN (Below.refl _ _)
            have hzd : wi.heap.size ≤ wd.heap.size := hbd.size
            have HCd := Lib.hid (HCo.out.below hbd (Nat.le_refl _))
            have HOd := Lib.hid (HOi.out.below hbd (Nat.le_refl _))
            have HPd := Lib.hid (HPi.out.below hbd HPi.out.lt)
            have HAd := Lib.hid (HAi.out.below hbd HAi.out.lt)
            have HLd := Lib.hid (HLi.out.below hbd HLi.out.lt)
            have HKqd := Lib.hid (HKq.out.below hbd HKq.out.lt)
            have HEd := Lib.hid (HEi.out.below hbd)
            have HBd := Lib.hid (bthen HBi.out hbd HBi.out.size)
            have HKd := Lib.hid (HKi.out.below hbd)
            have HKw2 := Lib.hid (HKw.out.below hbd)
            have c0d : wd.cell? ⟨tb, to_ + s * 3, none⟩ = some (.int .i64 tk) := by rw [hbd.cell (by exact hbs)]; exact c0
            have hbs2 : tb < wd.heap.size := by omega
            clear hwd hbd l0 a0 zl za zk p0 p1 zp c0 hbs
            have l0 : wd.cell? ⟨w.heap.size, 0, none⟩ = some (.slice (some ⟨tb, to_, none⟩) l.length c) := HLd.out.cell 0
            have a0 : wd.cell? ⟨w_2.heap.size, 0, none⟩ = some (.int .i64 (s : Int)) := HAd.out.cell 0
            have zl : w.heap.size < wd.heap.size := HLd.out.lt
            have za : w_2.heap.size < wd.heap.size := HAd.out.lt
            have p1 : wd.cell? ⟨wo.heap.size, 1, none⟩ = some (.slice Ac cur.length cc) := HPd.out.cell 1
            have zp : wo.heap.size < wd.heap.size := HPd.out.lt
            cases ib
            · have HIb : Hid (isB kk l 2 s = false) := Lib.hid HIbq.out.symm
              by_cases hcur : cur = []
              · have HF2 := Lib.hid (HBad.out (run_noend HRi.out HKt.out (.inl hcur)))
                have hc1 : cur.length = 0 := by rw [hcur]; rfl
                have hc2 : (cur.length : Int) = 0 := by omega
                clear hcur
                go_wp2
                go_ret2
                exact retLn_err HF2.out HBd.out
              · have HF2 := Lib.hid (HBad.out (run_noend HRi.out HKt.out (.inr HIb.out)))
                have hc2 : ¬ (cur.length : Int) = 0 := by have := List.length_pos_iff.2 hcur; omega
                have hc3 : ¬ cur.length = 0 := by omega
                go_wp2_with fail
                refine (lis_any kk l _ c S 2 s w.heap.size (w.heap.size + 1) w_2.heap.size wd (by omega) hsl (by omega) HEd.out HLd.out HKqd.out HAd.out).mono ?_
                rintro e wz ⟨rfl, hbz⟩
                rw [HIb.out]
                have HBz := Lib.hid (bthen HBd.out hbz HBd.out.size)
                clear hbz
                go_wp2
                go_ret2
                exact retLn_err HF2.out HBz.out
            · have HIb : Hid (isB kk l 2 s = true) := Lib.hid HIbq.out.symm
              by_cases hcur : cur = []
              · have HF2 := Lib.hid (HBad.out (run_noend HRi.out HKt.out (.inl hcur)))
                have hc1 : cur.length = 0 := by rw [hcur]; rfl
                have hc2 : (cur.length : Int) = 0 := by omega
                clear hcur
                go_wp2
                go_ret2
                exact retLn_err HF2.out HBd.out
              have HR2 := Lib.hid (run_end HRi.out hcur HIb.out)
              have hc2 : ¬ (cur.length : Int) = 0 := by have := List.length_pos_iff.2 hcur; omega
              have hc3 : ¬ cur.length = 0 := by omega
              go_wp2_with fail
              refine (lis_any kk l _ c S 2 s w.heap.size (w.heap.size + 1) w_2.heap.size wd (by omega) hsl (by omega) HEd.out HLd.out HKqd.out HAd.out).mono ?_
              rintro e wz ⟨rfl, hbz⟩
              rw [HIb.out]
              have HOz := Lib.hid (HOd.out.below hbz (Nat.le_refl _))
              have HAz := Lib.hid (HAd.out.below hbz HAd.out.lt)
              have HCz := Lib.hid (HCd.out.below hbz (Nat.le_refl _))
              have HPz := Lib.hid (HPd.out.below hbz HPd.out.lt)
              have HKz : Hid (Kept (fun b => b = w_2.heap.size) w_3 wz) := Lib.hid ((HPo.out.trans HKw2.out).below hbz)
              have hszz : wd.heap.size ≤ wz.heap.size := hbz.size
              clear hbz l0 a0 zl za p1 zp
              have Hw1 : Hid (IntKind.i64.wrap ((s : Int) + 1) = (s : Int) + 1 ∧ wrap64 ((s : Int) + 1) = (s : Int) + 1) := Lib.hid ⟨IntWalk.i64_in _ (by omega), IntWalk.wrap64_in _ (by omega)⟩
              have HJs : Hid (j ≤ s ∧ s < l.length ∧ s + 1 + (l.length - (s + 1)) = l.length ∧ n ≤ s + 1 ∧ out.length + 1 ≤ s + 1) := Lib.hid ⟨by omega, by omega, by omega, by omega, by omega⟩
              obtain ⟨wA, hwA⟩ : ∃ wA : World, wA = wz.setCell ⟨w_2.heap.size, 0, none⟩ (.int .i64 ((s : Int) + 1)) := ⟨_, rfl⟩
              have hkA : Kept (fun b => b = w_2.heap.size) wz wA := by rw [hwA]; exact Kept.setCell (X := fun b => b = w_2.heap.size) (Kept.refl _ _) (p := ⟨w_2.heap.size, 0, none⟩) (.inl rfl) _
              have HAA : Hid (Blk' wA w_2.heap.size 3 #[.int .i64 ((s : Int) + 1)]) := Lib.hid (by rw [hwA]; exact HAz.out.set_ 0 _)
              have HOA := Lib.hid (HOz.out.kept hkA (fun b (hb : b = w_2.heap.size) h => h.elim id (fun h => by omega)))
              have HCA := Lib.hid (HCz.out.kept hkA (fun b (hb : b = w_2.heap.size) h => h.elim id (fun h => by omega)))
              have HPA := Lib.hid (HPz.out.kept hkA (fun h : wo.heap.size = w_2.heap.size => by omega))
              have HKA : Hid (Kept (fun b => b = w_2.heap.size) w_3 wA) := Lib.hid (HKz.out.trans hkA)
              have hszA : wz.heap.size ≤ wA.heap.size := hkA.size
              have HWA := Lib.hid hwA
              have a0 : wz.cell? ⟨w_2.heap.size, 0, none⟩ = some (.int .i64 (s : Int)) := HAz.out.cell 0
              have f0 := HAz.out.frozen 0
              have za : w_2.heap.size < wz.heap.size := HAz.out.lt
              clear hkA hwA
              have hw1 := Hw1.out.1
              have hw2 := Hw1.out.2
              go_upto_region 25 with (fail)
              rw [← HWA.out]
              clear a0 f0 za hw1 hw2
              have p1 : wA.cell? ⟨wo.heap.size, 1, none⟩ = some (.slice Ac cur.length cc) := HPA.out.cell 1
              have p0 : wA.cell? ⟨wo.heap.size, 0, none⟩ = some (.int .i64 (n : Int)) := HPA.out.cell 0
              have zp : wo.heap.size < wA.heap.size := HPA.out.lt
              have hba : Below wA.heap.size wA (wA.alloc (.cells #[.int .i64 (n : Int), .slice Ac cur.length cc] 73)) := (Below.refl _ _).alloc (Nat.le_refl _) _
              have HOn := Lib.hid (HOA.out.alloc (.cells #[.int .i64 (n : Int), .slice Ac cur.length cc] 73))
              have HRd : Hid (Dat.rd (wA.alloc (.cells #[.int .i64 (n : Int), .slice Ac cur.length cc] 73)) (OwnT (fun _ => False) w_3.heap.size (.slice Av out.length cv) (wA.alloc (.cells #[.int .i64 (n : Int), .slice Ac cur.length cc] 73))) (⟨(n : Int), cur⟩ : LineD) [.int .i64 (n : Int), .slice Ac cur.length cc]) := Lib.hid ⟨_, rfl, by show I64 (n : Int); unfold I64; omega, Vl.of_slice rfl hcc1 hcc2 ((HCA.out.vl.els.2.2.2.below hba).keep (fun _ _ _ => rfl) (fun b hb => by
                refine ⟨.inr (by rcases hb.1 with h | h; exact h.elim; omega), fun e => ?_, Nat.lt_of_lt_of_le hb.2 hba.size⟩
                have h3 := (HOo.out.block b e).2
                rcases hb.1 with h | h
                · exact h
                · omega))⟩
              have hcap1 : (out.length + 1) * 32 ≤ 140737488355328 := by omega
              have hcap2 : out.length + 1 ≤ 9223372036854775807 := by omega
              have hzz : w_3.heap.size ≤ (wA.alloc (.cells #[.int .i64 (n : Int), .slice Ac cur.length cc] 73)).heap.size := by simp; omega
              have HHb := Lib.hid hba
              clear hba
              go_wp2_with ((at_builtin); (refine wpList_own1 _ rfl _ _ elemLine rfl rfl HOn.out ⟨(n : Int), cur⟩ [.int .i64 (n : Int), .slice Ac cur.length cc] rfl (At.new _ _ _) HRd.out hcap1 hcap2 hzz ?_); (intro v' w9 hown9 hg9 hat9); (obtain ⟨A9, k9, hv9, _⟩ := hown9.form); (rw [snoc_len] at hv9); (subst hv9); (have H9 := Lib.hid (And.intro hown9 (And.intro hg9 hat9))); (clear hown9 hg9 hat9))
              go_roundg (l.length - (s + 1))
              case measure => exact HJg.out s HJs.out.1 HJs.out.2.1
              case rel =>
                obtain ⟨hown9, hg9, hat9⟩ := H9.out
                refine ⟨s + 1, out ++ [⟨(n : Int), cur⟩], n, HJs.out.2.2.1, rfl, HJs.out.2.2.2.1, by rw [snoc_len]; exact HJs.out.2.2.2.2, fun h => by simp at h, ?_, hown9, (HAA.out.alloc _).grown hg9 (fun e => by have h9 := (HOn.out.block _ e.symm).1; omega), (HKA.out.alloc _).grown hg9 (fun k hk => .inr (HOn.out.block k hk).1)⟩
                unfold stO
                rw [if_neg (by simp)]
                exact HR2.out
    have hol1 : (0 : Int) < (out.length : Int) := by have := List.length_pos_iff.2 hout; omega
    have HOut := Lib.hid hout
    have hrunL : runL kk (.S 0 []) (kindsT l) = runL kk (.L (d : Int) out) ((kindsT l).drop j) := by have h := HRun.out; unfold stO at h; rw [if_neg hout] at h; exact h
    have HRL := Lib.hid hrunL
    have HKq0 : Hid (Blk' wo (w.heap.size + 1) 23 #[.int .i64 kk.k0, .int .i64 kk.k1, .int .i64 kk.k2]) := Lib.hid (by rw [HKK.out]; exact HKKo.out)
    obtain ⟨ib, hib⟩ : ∃ ib, ib = isB kk l 0 j := ⟨_, rfl⟩
    have HIb0 := Lib.hid hib
    clear hout hrunL hib
    go_wp2_with fail
    refine (lis_any kk l _ c S 0 j w.heap.size (w.heap.size + 1) w_2.heap.size wo (by omega) hjl (by omega) HEo.out HLo.out HKq0.out HAo.out).mono ?_
    rintro e w4 ⟨rfl, hb4⟩
    rw [← HIb0.out]
    have hsz4 : wo.heap.size ≤ w4.heap.size := hb4.size
    have HO4 := Lib.hid (HOo.out.below hb4 (Nat.le_refl _))
    have HA4 := Lib.hid (HAo.out.below hb4 HAo.out.lt)
    have HL4 := Lib.hid (HLo.out.below hb4 HLo.out.lt)
    have HKK4 := Lib.hid (HKKo.out.below hb4 HKKo.out.lt)
    have HE4 := Lib.hid (HEo.out.below hb4)
    have HB4 := Lib.hid (bthen HBo.out hb4 HBo.out.size)
    have HP4 := Lib.hid (HPo.out.below hb4)
    clear hb4 l0 a0 zl za zk HKq0
    cases ib
    rotate_left
    · skip
      obtain ⟨dd, hdd⟩ : ∃ dd : Int, dd = (d : Int) + 1 := ⟨_, rfl⟩
      obtain ⟨q, hq⟩ : ∃ q : Nat, q = j + 1 := ⟨_, rfl⟩
      have Hw1 : Hid (IntKind.i64.wrap ((d : Int) + 1) = dd) := Lib.hid (by rw [hdd]; exact IntWalk.i64_in _ (by omega))
      have Hw2 : Hid (wrap64 ((d : Int) + 1) = dd) := Lib.hid (by rw [hdd]; exact IntWalk.wrap64_in _ (by omega))
      have Hw3 : Hid (IntKind.i64.wrap ((j : Int) + 1) = (q : Int)) := Lib.hid (by rw [show (q : Int) = (j : Int) + 1 by omega]; exact IntWalk.i64_in _ (by omega))
      have Hw4 : Hid (wrap64 ((j : Int) + 1) = (q : Int)) := Lib.hid (by rw [show (q : Int) = (j : Int) + 1 by omega]; exact IntWalk.wrap64_in _ (by omega))
      have HAE : Hid (AtE kk l out dd q) := Lib.hid (by rw [hdd, hq]; exact atE_S (run_indent HRL.out hlt HIb0.out.symm) (by omega) (by omega))
      have hdq : dd ≤ (q : Int) := by omega
      have hjq : j ≤ q := by omega
      have hqle : q ≤ l.length := by omega
      obtain ⟨w5, hw5⟩ : ∃ w5 : World, w5 = w4.setCell ⟨w_2.heap.size, 0, none⟩ (.int .i64 (q : Int)) := ⟨_, rfl⟩
      have hk5 : Kept (fun b => b = w_2.heap.size) w4 w5 := by rw [hw5]; exact Kept.setCell (X := fun b => b = w_2.heap.size) (Kept.refl _ _) (p := ⟨w_2.heap.size, 0, none⟩) (.inl rfl) _
      have HA5 : Hid (Blk' w5 w_2.heap.size 3 #[.int .i64 (q : Int)]) := Lib.hid (by rw [hw5]; exact HA4.out.set_ 0 _)
      have HO5 := Lib.hid (HO4.out.kept hk5 (fun b (hb : b = w_2.heap.size) h => h.elim id (fun h => by omega)))
      have HL5 := Lib.hid (HL4.out.kept hk5 (fun h : w.heap.size = w_2.heap.size => by omega))
      have HKK5 := Lib.hid (HKK4.out.kept hk5 (fun h : w.heap.size + 1 = w_2.heap.size => by omega))
      have HE5 := Lib.hid (HE4.out.kept hk5 (fun b hb (h : b = w_2.heap.size) => by have := HS.out b hb; omega))
      have HB5 : Hid (Below w.heap.size w w5) := Lib.hid (HB4.out.trans (hk5.to_below (B := w.heap.size) (fun b (h : b = w_2.heap.size) => by omega) HB4.out.size))
      have HP5 := Lib.hid (HP4.out.trans hk5)
      have hsz5 : w4.heap.size ≤ w5.heap.size := hk5.size
      have HW5 := Lib.hid hw5
      have a0 : w4.cell? ⟨w_2.heap.size, 0, none⟩ = some (.int .i64 (j : Int)) := HA4.out.cell 0
      have f0 := HA4.out.frozen 0
      have za : w_2.heap.size < w4.heap.size := HA4.out.lt
      have HQe := Lib.hid (And.intro hdd hq)
      clear hk5 hw5 hdd hq
      have hw1 := Hw1.out
      have hw2 := Hw2.out
      have hw3 := Hw3.out
      have hw4 := Hw4.out
      go_upto_region 15 with (fail)
      rw [← HW5.out]
      clear a0 f0 za hw1 hw2 hw3 hw4
      by_cases hneg : dd < 0
      · have HF2 := Lib.hid (HBad.out (by have h := HAE.out; unfold AtE at h; rw [h, if_pos hneg]))
        go_wp2
        go_ret2
        exact retLn_err HF2.out HB5.out
      have l0 : w5.cell? ⟨w.heap.size, 0, none⟩ = some (.slice A l.length c) := HL5.out.cell 0
      have a0 : w5.cell? ⟨w_2.heap.size, 0, none⟩ = some (.int .i64 (q : Int)) := HA5.out.cell 0
      have zl : w.heap.size < w5.heap.size := HL5.out.lt
      have za : w_2.heap.size < w5.heap.size := HA5.out.lt
      have zk : w.heap.size + 1 < w5.heap.size := HKK5.out.lt
      by_cases hqe : q = l.length
      · have hqe2 : (q : Int) = (l.length : Int) := by omega
        have hfin : runL kk (.S 0 []) (kindsT l) = if dd = 0 then some out else none := by
          have h := HAE.out; unfold AtE at h; rw [h, if_neg hneg, if_pos hqe]
        have HF := Lib.hid hfin
        clear hfin hqe
        by_cases hd : dd = 0
        · have HF2 := Lib.hid (HGood.out out (by rw [HF.out, if_pos hd]))
          subst hd
          clear HF
          go_wp2
          all_goals
            go_ret2
            exact retLn_ok HF2.out HO5.out QB_3.out.size HB5.out
        · have HF2 := Lib.hid (HBad.out (by rw [HF.out, if_neg hd]))
          clear HF
          go_wp2
          all_goals
            go_ret2
            exact retLn_err HF2.out HB5.out
      have hql : q < l.length := by omega
      have hszb : w_3.heap.size ≤ w5.heap.size := HP5.out.size
      have hqe2 : ¬ (q : Int) = (l.length : Int) := by omega
      have HRb : Hid (runL kk (.S 0 []) (kindsT l) = runL kk (.B dd out []) ((kindsT l).drop q)) := Lib.hid (by have h := HAE.out; unfold AtE at h; rw [h, if_neg hneg, if_neg hqe])
      obtain ⟨n, rfl⟩ : ∃ n : Nat, dd = (n : Int) := ⟨dd.toNat, by omega⟩
      have hn0 : ¬ (n : Int) < 0 := by omega
      have hn1 : decide ((n : Int) < 0) = false := by simp
      have hqe3 : ((q : Int) == (l.length : Int)) = false := by simp; omega
      clear HAE hqe hneg
      obtain ⟨wl, hwl⟩ : ∃ wl : World, wl = w5.alloc (.cells #[.int .i64 (n : Int), .slice none 0 0] 73) := ⟨_, rfl⟩
      have hbl : Below w5.heap.size w5 wl := by rw [hwl]; exact (Below.refl _ _).alloc (Nat.le_refl _) _
      have hzl : wl.heap.size = w5.heap.size + 1 := by rw [hwl]; simp
      have HPl : Hid (Blk' wl w5.heap.size 73 #[.int .i64 (n : Int), .slice none 0 0]) := Lib.hid (by rw [hwl]; exact Blk'.new _ _ _)
      have HAl := Lib.hid (HA5.out.below hbl HA5.out.lt)
      have HWl := Lib.hid hwl
      have HBl := Lib.hid hbl
      have HZl := Lib.hid hzl
      have hzl2 : w5.heap.size < wl.heap.size := by omega
      clear hwl hbl hzl
      go_upto_region 19 with (fail)
      rw [← HWl.out]
      clear l0 a0 zl za zk
      go_loopg [] (l.length - q) (fun gk wr => LnI kk l out n q w_2.heap.size w5.heap.size wl gk wr)
      case atStart => exact ⟨q, [], _, by omega, Nat.le_refl _, Nat.zero_le _, HRb.out, HPl.out, Own.nil _ _ _ _, HAl.out, Kept.refl _ _⟩
      case round =>
        obtain ⟨wi, hwi⟩ : ∃ wi : World, wi = wr := ⟨_, rfl⟩
        subst hwi
        obtain ⟨s, cur, vc, hsg, hqs, hcs, hrun, hPb, hcown, hat, hki⟩ := hrel
        obtain ⟨Ac, cc, rfl, hcc1, hcc2, _⟩ := hcown.form
        have HPi := Lib.hid hPb
        have HCo := Lib.hid hcown
        have HAi := Lib.hid hat
        have HRi := Lib.hid hrun
        have hkw : Kept (fun b => b = w_2.heap.size) w5 wi := ((Kept.of_below (fun b => b = w_2.heap.size ∨ b = w5.heap.size) HBl.out).trans hki).mono (fun b hb h => by rcases h with h | h; exact h; omega)
        have HKi := Lib.hid hki
        have HKw := Lib.hid hkw
        have HLi := Lib.hid (HL5.out.kept hkw (fun h : w.heap.size = w_2.heap.size => by omega))
        have HKKi := Lib.hid (HKK5.out.kept hkw (fun h : w.heap.size + 1 = w_2.heap.size => by omega))
        have HKq : Hid (Blk' wi (w.heap.size + 1) 23 #[.int .i64 kk.k0, .int .i64 kk.k1, .int .i64 kk.k2]) := Lib.hid (by rw [HKK.out]; exact HKKi.out)
        have HEi := Lib.hid (HE5.out.kept hkw (fun b hb (h : b = w_2.heap.size) => by have := HS.out b hb; omega))
        have HOi := Lib.hid (HO5.out.kept hkw (fun b (hb : b = w_2.heap.size) h => h.elim id (fun h => by omega)))
        have HBi : Hid (Below w.heap.size w wi) := Lib.hid (HB5.out.trans (hkw.to_below (B := w.heap.size) (fun b (h : b = w_2.heap.size) => by omega) HB5.out.size))
        have hszi : wl.heap.size ≤ wi.heap.size := hki.size
        have HSg : Hid (s < l.length → l.length - (s + 1) < gk ∧ s + 1 + (l.length - (s + 1)) = l.length ∧ q ≤ s + 1 ∧ cur.length + 1 ≤ s + 1) := Lib.hid (fun h => ⟨by omega, by omega, by omega, by omega⟩)
        have hs0 : (0 : Int) ≤ (s : Int) := by omega
        have hsl : s ≤ l.length := by omega
        clear hPb hcown hat hrun hki hkw hsg
        have l0 : wi.cell? ⟨w.heap.size, 0, none⟩ = some (.slice A l.length c) := HLi.out.cell 0
        have a0 : wi.cell? ⟨w_2.heap.size, 0, none⟩ = some (.int .i64 (s : Int)) := HAi.out.cell 0
        have zl : w.heap.size < wi.heap.size := HLi.out.lt
        have za : w_2.heap.size < wi.heap.size := HAi.out.lt
        have zk : w.heap.size + 1 < wi.heap.size := HKKi.out.lt
        have p1 : wi.cell? ⟨w5.heap.size, 1, none⟩ = some (.slice Ac cur.length cc) := HPi.out.cell 1
        have p0 : wi.cell? ⟨w5.heap.size, 0, none⟩ = some (.int .i64 (n : Int)) := HPi.out.cell 0
        have zp : w5.heap.size < wi.heap.size := HPi.out.lt
        have HKe : Hid (Els wi (fun b => b = w.heap.size + 1) [ka, kb, kc] (some ⟨w.heap.size + 1, 0, none⟩)) := Lib.hid (els_of_blk [[.int .i64 ka], [.int .i64 kb], [.int .i64 kc]] HKKi.out rfl rfl (fun i x cs hi hc => by
          match i, hi, hc with
          | 0, hi, hc => simp at hi hc; subst hi; subst hc; exact ⟨rfl, HK.out.1⟩
          | 1, hi, hc => simp at hi hc; subst hi; subst hc; exact ⟨rfl, HK.out.2.1⟩
          | 2, hi, hc => simp at hi hc; subst hi; subst hc; exact ⟨rfl, HK.out.2.2⟩) rfl)
        by_cases hlt2 : s < l.length
        rotate_left
        · skip
          have hd1 : decide ((s : Int) < (l.length : Int)) = false := by simp; omega
          have hsl2 : ¬ (s : Int) < (l.length : Int) := by omega
          have HKt : Hid (∀ t, l[s]? = some t → isK kk t.kind = true) := Lib.hid (fun t ht => by rw [List.getElem?_eq_none (by omega)] at ht; cases ht)
          have hib : isB kk l 2 s = false := by unfold isB; rw [List.getElem?_eq_none (by omega)]
          have HIb := Lib.hid hib
          clear hib
          go_wp2_with fail
          go_quiet (fail)
          clear hd1
          generalize hwd : World.drewN wi _ = wd
          have hbd : Below wi.heap.size wi wd := hwd ▸ bdrewN (Below.refl _ _)
          have hzd : wi.heap.size ≤ wd.heap.size := hbd.size
          have HCd := Lib.hid (HCo.out.below hbd (Nat.le_refl _))
          have HOd := Lib.hid (HOi.out.below hbd (Nat.le_refl _))
          have HPd := Lib.hid (HPi.out.below hbd HPi.out.lt)
          have HAd := Lib.hid (HAi.out.below hbd HAi.out.lt)
          have HLd := Lib.hid (HLi.out.below hbd HLi.out.lt)
          have HKqd := Lib.hid (HKq.out.below hbd HKq.out.lt)
          have HEd := Lib.hid (HEi.out.below hbd)
          have HBd := Lib.hid (bthen HBi.out hbd HBi.out.size)
          have HKd := Lib.hid (HKi.out.below hbd)
          have HKw2 := Lib.hid (HKw.out.below hbd)
          clear hwd hbd l0 a0 zl za zk p0 p1 zp
          have l0 : wd.cell? ⟨w.heap.size, 0, none⟩ = some (.slice A l.length c) := HLd.out.cell 0
          have a0 : wd.cell? ⟨w_2.heap.size, 0, none⟩ = some (.int .i64 (s : Int)) := HAd.out.cell 0
          have zl : w.heap.size < wd.heap.size := HLd.out.lt
          have za : w_2.heap.size < wd.heap.size := HAd.out.lt
          have p1 : wd.cell? ⟨w5.heap.size, 1, none⟩ = some (.slice Ac cur.length cc) := HPd.out.cell 1
          have zp : w5.heap.size < wd.heap.size := HPd.out.lt
          by_cases hcur : cur = []
          · have HF2 := Lib.hid (HBad.out (run_noend HRi.out HKt.out (.inl hcur)))
            have hc1 : cur.length = 0 := by rw [hcur]; rfl
            have hc2 : (cur.length : Int) = 0 := by omega
            clear hcur
            go_wp2
            go_ret2
            exact retLn_err HF2.out HBd.out
          · have HF2 := Lib.hid (HBad.out (run_noend HRi.out HKt.out (.inr HIb.out)))
            have hc2 : ¬ (cur.length : Int) = 0 := by have := List.length_pos_iff.2 hcur; omega
            have hc3 : ¬ cur.length = 0 := by omega
            go_wp2_with fail
            refine (lis_any kk l _ c S 2 s w.heap.size (w.heap.size + 1) w_2.heap.size wd (by omega) hsl (by omega) HEd.out HLd.out HKqd.out HAd.out).mono ?_
            rintro e wz ⟨rfl, hbz⟩
            rw [HIb.out]
            have HBz := Lib.hid (bthen HBd.out hbz HBd.out.size)
            clear hbz
            go_wp2
            go_ret2
            exact retLn_err HF2.out HBz.out
        have hsl2 : (s : Int) < (l.length : Int) := by omega
        obtain ⟨t, ht⟩ := get_some hlt2
        obtain ⟨tb, to_, hbe, hSb, hbs, ti0, ti1, ti2, c0, c1, c2, c2'⟩ := HEi.out.tok ht
        obtain ⟨tk, tf, tt⟩ := t
        dsimp only at ti0 ti1 ti2 c0 c1 c2 c2'
        have HTi := Lib.hid ti0
        have HGt := Lib.hid ht
        subst hbe
        clear ht ti0 ti1 ti2 c1 c2 c2'
        have hd1 : decide ((s : Int) < (l.length : Int)) = true := by simp; omega
        have hmk := HM.out tk
        obtain ⟨Q, hQ⟩ : ∃ Q, Q = isK ⟨ka, kb, kc⟩ tk := ⟨_, rfl⟩
        have HQ := Lib.hid hQ
        rw [← hQ] at hmk
        have HMk := Lib.hid hmk
        clear hQ hmk
        cases Q
        · skip
          go_wp2_with fail
          go_quiet ((go_at_call 32; refine Calls.quiet_of_same ((containsInt_any (some ⟨w.heap.size + 1, 0, none⟩) 3 3 [ka, kb, kc] tk (fun b => b = w.heap.size + 1) _ rfl (by simp) (HKe.out.below (below_drewN (Below.refl _ _) _))).mono fun e w' hh => ⟨hh.1.trans (by rw [HMk.out]), hh.2.symm⟩)))
          clear hd1
          have HR2 := Lib.hid (run_body HRi.out HGt.out (by rw [HKK.out]; exact HQ.out.symm))
          generalize hwd : World.drewN wi _ = wd
          have hbd : Below wi.heap.size wi wd := hwd ▸ bdrewN (Below.refl _ _)
          have hzd : wi.heap.size ≤ wd.heap.size := hbd.size
          have HCd := Lib.hid (HCo.out.below hbd (Nat.le_refl _))
          have HPd := Lib.hid (HPi.out.below hbd HPi.out.lt)
          have HAd := Lib.hid (HAi.out.below hbd HAi.out.lt)
          have HLd := Lib.hid (HLi.out.below hbd HLi.out.lt)
          have HKd := Lib.hid (HKi.out.below hbd)
          have c0d : wd.cell? ⟨tb, to_ + s * 3, none⟩ = some (.int .i64 tk) := by rw [hbd.cell (by exact hbs)]; exact c0
          have hbs2 : tb < wd.heap.size := by omega
          clear hwd hbd l0 a0 zl za zk p0 p1 zp c0 hbs
          have l0 : wd.cell? ⟨w.heap.size, 0, none⟩ = some (.slice (some ⟨tb, to_, none⟩) l.length c) := HLd.out.cell 0
          have a0 : wd.cell? ⟨w_2.heap.size, 0, none⟩ = some (.int .i64 (s : Int)) := HAd.out.cell 0
          have zl : w.heap.size < wd.heap.size := HLd.out.lt
          have za : w_2.heap.size < wd.heap.size := HAd.out.lt
          have p1 : wd.cell? ⟨w5.heap.size, 1, none⟩ = some (.slice Ac cur.length cc) := HPd.out.cell 1
          have zp : w5.heap.size < wd.heap.size := HPd.out.lt
          have hcap1 : (cur.length + 1) * 8 ≤ 140737488355328 := by omega
          have hcap2 : cur.length + 1 ≤ 9223372036854775807 := by omega
          have hPz : w5.heap.size + 1 ≤ wd.heap.size := by omega
          have Hw1 : Hid (IntKind.i64.wrap ((s : Int) + 1) = (s : Int) + 1 ∧ wrap64 ((s : Int) + 1) = (s : Int) + 1) := Lib.hid ⟨IntWalk.i64_in _ (by omega), IntWalk.wrap64_in _ (by omega)⟩
          have hnb : ¬ w_2.heap.size = w5.heap.size := by omega
          have HNo : Hid (∀ k, (Value.slice Ac cur.length cc).ownBlock = some k → w5.heap.size + 1 ≤ k) := Lib.hid (fun k hk => (HCd.out.block k hk).1)
          go_wp2_with fail
          go_region_law
            (first
            | (refine step_own1 _ (by rfl) _ _ elemInt (by rfl) (by rfl) ((HCd.out.alloc _).drew) tk [.int .i64 tk] (by rfl) (At.drew (At.new _ _ _)) ⟨rfl, HTi.out⟩ hcap1 hcap2 (by simp; omega) ?_
               intro v' wA hA gA aA
               obtain ⟨A3, k3, e3, _⟩ := hA.form; rw [snoc_len] at e3; subst e3
               have bP : Blk' wA w5.heap.size 73 #[.int .i64 (n : Int), .slice Ac cur.length cc] := ((HPd.out.alloc _).drew).grown gA (fun e => by have := HNo.out _ e.symm; omega)
               have bA : Blk' wA w_2.heap.size 3 #[.int .i64 (s : Int)] := ((HAd.out.alloc _).drew).grown gA (fun e => by have := HNo.out _ e.symm; omega)
               have q1 : wA.cell? ⟨w5.heap.size, 1, none⟩ = some (.slice Ac cur.length cc) := bP.cell 1
               have fq := bP.frozen 1
               have zq : w5.heap.size < wA.heap.size := bP.lt
               have r0 : wA.cell? ⟨w_2.heap.size, 0, none⟩ = some (.int .i64 (s : Int)) := bA.cell 0
               have fr := bA.frozen 0
               have zr : w_2.heap.size < wA.heap.size := bA.lt
               have HA := Lib.hid (And.intro hA (And.intro gA (And.intro bP bA)))
               clear hA gA aA bP bA))
          all_goals
            have hw1 := Hw1.out.1
            have hw2 := Hw1.out.2
            go_wp2
            clear hw1 hw2
            go_roundg (l.length - (s + 1))
            case measure => exact (HSg.out hlt2).1
            case rel =>
              obtain ⟨hA, gA, bP, bA⟩ := HA.out
              obtain ⟨_, g1, g2, g3⟩ := HSg.out hlt2
              refine ⟨s + 1, cur ++ [tk], .slice A3 (cur.length + 1) k3, g1, g2, by rw [snoc_len]; exact g3, HR2.out, ?_, ?_, ?_, ?_⟩
              · exact (bP.set_ 1 _).far (p := ⟨w_2.heap.size, 0, none⟩) (fun e => hnb e.symm) _
              · exact (hA.setCell (p := ⟨w5.heap.size, 1, none⟩) (fun e => by have h9 := (hA.block _ e).1; dsimp only at h9; omega) (by simp) _).setCell (p := ⟨w_2.heap.size, 0, none⟩) (fun e => by have h9 := (hA.block _ e).1; dsimp only at h9; omega) (by simp; omega) _
              · exact (bA.far (p := ⟨w5.heap.size, 1, none⟩) hnb _).set_ 0 _
              · exact ((((HKd.out.alloc _).drew).grown gA (fun k hk => .inr (by have := HNo.out k hk; have := HZl.out; omega))).setCell (p := ⟨w5.heap.size, 1, none⟩) (.inl (.inr rfl)) _).setCell (p := ⟨w_2.heap.size, 0, none⟩) (.inl (.inl rfl)) _
        · skip
          have HKt : Hid (∀ t, l[s]? = some t → isK kk t.kind = true) := Lib.hid (fun t ht => by rw [HGt.out] at ht; injection ht with ht; subst ht; rw [HKK.out]; exact HQ.out.symm)
          obtain ⟨ib, hib⟩ : ∃ ib, ib = isB kk l 2 s := ⟨_, rfl⟩
          have HIbq := Lib.hid hib
          clear hib
          go_wp2_with fail
          go_quiet ((go_at_call 32; refine Calls.quiet_of_same ((containsInt_any (some ⟨w.heap.size + 1, 0, none⟩) 3 3 [ka, kb, kc] tk (fun b => b = w.heap.size + 1) _ rfl (by simp) (HKe.out.below (below_drewN (Below.refl _ _) _))).mono fun e w' hh => ⟨hh.1.trans (by rw [HMk.out]), hh.2.symm⟩)))
          clear hd1
          generalize hwd : World.drewN wi _ = wd
          have hbd : Below wi.heap.size wi wd := hwd ▸ bdrewN (Below.refl _ _)
          have hzd : wi.heap.size ≤ wd.heap.size := hbd.size
          have HCd := Lib.hid (HCo.out.below hbd (Nat.le_refl _))
          have HOd := Lib.hid (HOi.out.below hbd (Nat.le_refl _))
          have HPd := Lib.hid (HPi.out.below hbd HPi.out.lt)
          have HAd := Lib.hid (HAi.out.below hbd HAi.out.lt)
          have HLd := Lib.hid (HLi.out.below hbd HLi.out.lt)
          have HKqd := Lib.hid (HKq.out.below hbd HKq.out.lt)
          have HEd := Lib.hid (HEi.out.below hbd)
          have HBd := Lib.hid (bthen HBi.out hbd HBi.out.size)
          have HKd := Lib.hid (HKi.out.below hbd)
          have HKw2 := Lib.hid (HKw.out.below hbd)
          have c0d : wd.cell? ⟨tb, to_ + s * 3, none⟩ = some (.int .i64 tk) := by rw [hbd.cell (by exact hbs)]; exact c0
          have hbs2 : tb < wd.heap.size := by omega
          clear hwd hbd l0 a0 zl za zk p0 p1 zp c0 hbs
          have l0 : wd.cell? ⟨w.heap.size, 0, none⟩ = some (.slice (some ⟨tb, to_, none⟩) l.length c) := HLd.out.cell 0
          have a0 : wd.cell? ⟨w_2.heap.size, 0, none⟩ = some (.int .i64 (s : Int)) := HAd.out.cell 0
          have zl : w.heap.size < wd.heap.size := HLd.out.lt
          have za : w_2.heap.size < wd.heap.size := HAd.out.lt
          have p1 : wd.cell? ⟨w5.heap.size, 1, none⟩ = some (.slice Ac cur.length cc) := HPd.out.cell 1
          have zp : w5.heap.size < wd.heap.size := HPd.out.lt
          cases ib
          · have HIb : Hid (isB kk l 2 s = false) := Lib.hid HIbq.out.symm
            by_cases hcur : cur = []
            · have HF2 := Lib.hid (HBad.out (run_noend HRi.out HKt.out (.inl hcur)))
              have hc1 : cur.length = 0 := by rw [hcur]; rfl
              have hc2 : (cur.length : Int) = 0 := by omega
              clear hcur
              go_wp2
              go_ret2
              exact retLn_err HF2.out HBd.out
            · have HF2 := Lib.hid (HBad.out (run_noend HRi.out HKt.out (.inr HIb.out)))
              have hc2 : ¬ (cur.length : Int) = 0 := by have := List.length_pos_iff.2 hcur; omega
              have hc3 : ¬ cur.length = 0 := by omega
              go_wp2_with fail
              refine (lis_any kk l _ c S 2 s w.heap.size (w.heap.size + 1) w_2.heap.size wd (by omega) hsl (by omega) HEd.out HLd.out HKqd.out HAd.out).mono ?_
              rintro e wz ⟨rfl, hbz⟩
              rw [HIb.out]
              have HBz := Lib.hid (bthen HBd.out hbz HBd.out.size)
              clear hbz
              go_wp2
              go_ret2
              exact retLn_err HF2.out HBz.out
          · have HIb : Hid (isB kk l 2 s = true) := Lib.hid HIbq.out.symm
            by_cases hcur : cur = []
            · have HF2 := Lib.hid (HBad.out (run_noend HRi.out HKt.out (.inl hcur)))
              have hc1 : cur.length = 0 := by rw [hcur]; rfl
              have hc2 : (cur.length : Int) = 0 := by omega
              clear hcur
              go_wp2
              go_ret2
              exact retLn_err HF2.out HBd.out
            have HR2 := Lib.hid (run_end HRi.out hcur HIb.out)
            have hc2 : ¬ (cur.length : Int) = 0 := by have := List.length_pos_iff.2 hcur; omega
            have hc3 : ¬ cur.length = 0 := by omega
            go_wp2_with fail
            refine (lis_any kk l _ c S 2 s w.heap.size (w.heap.size + 1) w_2.heap.size wd (by omega) hsl (by omega) HEd.out HLd.out HKqd.out HAd.out).mono ?_
            rintro e wz ⟨rfl, hbz⟩
            rw [HIb.out]
            have HOz := Lib.hid (HOd.out.below hbz (Nat.le_refl _))
            have HAz := Lib.hid (HAd.out.below hbz HAd.out.lt)
            have HCz := Lib.hid (HCd.out.below hbz (Nat.le_refl _))
            have HPz := Lib.hid (HPd.out.below hbz HPd.out.lt)
            have HKz : Hid (Kept (fun b => b = w_2.heap.size) w_3 wz) := Lib.hid ((HP5.out.trans HKw2.out).below hbz)
            have hszz : wd.heap.size ≤ wz.heap.size := hbz.size
            clear hbz l0 a0 zl za p1 zp
            have Hw1 : Hid (IntKind.i64.wrap ((s : Int) + 1) = (s : Int) + 1 ∧ wrap64 ((s : Int) + 1) = (s : Int) + 1) := Lib.hid ⟨IntWalk.i64_in _ (by omega), IntWalk.wrap64_in _ (by omega)⟩
            have HJs : Hid (j ≤ s ∧ s < l.length ∧ s + 1 + (l.length - (s + 1)) = l.length ∧ n ≤ s + 1 ∧ out.length + 1 ≤ s + 1) := Lib.hid ⟨by omega, by omega, by omega, by omega, by omega⟩
            obtain ⟨wA, hwA⟩ : ∃ wA : World, wA = wz.setCell ⟨w_2.heap.size, 0, none⟩ (.int .i64 ((s : Int) + 1)) := ⟨_, rfl⟩
            have hkA : Kept (fun b => b = w_2.heap.size) wz wA := by rw [hwA]; exact Kept.setCell (X := fun b => b = w_2.heap.size) (Kept.refl _ _) (p := ⟨w_2.heap.size, 0, none⟩) (.inl rfl) _
            have HAA : Hid (Blk' wA w_2.heap.size 3 #[.int .i64 ((s : Int) + 1)]) := Lib.hid (by rw [hwA]; exact HAz.out.set_ 0 _)
            have HOA := Lib.hid (HOz.out.kept hkA (fun b (hb : b = w_2.heap.size) h => h.elim id (fun h => by omega)))
            have HCA := Lib.hid (HCz.out.kept hkA (fun b (hb : b = w_2.heap.size) h => h.elim id (fun h => by omega)))
            have HPA := Lib.hid (HPz.out.kept hkA (fun h : w5.heap.size = w_2.heap.size => by omega))
            have HKA : Hid (Kept (fun b => b = w_2.heap.size) w_3 wA) := Lib.hid (HKz.out.trans hkA)
            have hszA : wz.heap.size ≤ wA.heap.size := hkA.size
            have HWA := Lib.hid hwA
            have a0 : wz.cell? ⟨w_2.heap.size, 0, none⟩ = some (.int .i64 (s : Int)) := HAz.out.cell 0
            have f0 := HAz.out.frozen 0
            have za : w_2.heap.size < wz.heap.size := HAz.out.lt
            clear hkA hwA
            have hw1 := Hw1.out.1
            have hw2 := Hw1.out.2
            go_upto_region 25 with (fail)
            rw [← HWA.out]
            clear a0 f0 za hw1 hw2
            have p1 : wA.cell? ⟨w5.heap.size, 1, none⟩ = some (.slice Ac cur.length cc) := HPA.out.cell 1
            have p0 : wA.cell? ⟨w5.heap.size, 0, none⟩ = some (.int .i64 (n : Int)) := HPA.out.cell 0
            have zp : w5.heap.size < wA.heap.size := HPA.out.lt
            have hba : Below wA.heap.size wA (wA.alloc (.cells #[.int .i64 (n : Int), .slice Ac cur.length cc] 73)) := (Below.refl _ _).alloc (Nat.le_refl _) _
            have HOn := Lib.hid (HOA.out.alloc (.cells #[.int .i64 (n : Int), .slice Ac cur.length cc] 73))
            have HRd : Hid (Dat.rd (wA.alloc (.cells #[.int .i64 (n : Int), .slice Ac cur.length cc] 73)) (OwnT (fun _ => False) w_3.heap.size (.slice Av out.length cv) (wA.alloc (.cells #[.int .i64 (n : Int), .slice Ac cur.length cc] 73))) (⟨(n : Int), cur⟩ : LineD) [.int .i64 (n : Int), .slice Ac cur.length cc]) := Lib.hid ⟨_, rfl, by show I64 (n : Int); unfold I64; omega, Vl.of_slice rfl hcc1 hcc2 ((HCA.out.vl.els.2.2.2.below hba).keep (fun _ _ _ => rfl) (fun b hb => by
              refine ⟨.inr (by rcases hb.1 with h | h; exact h.elim; omega), fun e => ?_, Nat.lt_of_lt_of_le hb.2 hba.size⟩
              have h3 := (HO5.out.block b e).2
              rcases hb.1 with h | h
              · exact h
              · omega))⟩
            have hcap1 : (out.length + 1) * 32 ≤ 140737488355328 := by omega
            have hcap2 : out.length + 1 ≤ 9223372036854775807 := by omega
            have hzz : w_3.heap.size ≤ (wA.alloc (.cells #[.int .i64 (n : Int), .slice Ac cur.length cc] 73)).heap.size := by simp; omega
            have HHb := Lib.hid hba
            clear hba
            go_wp2_with ((at_builtin); (refine wpList_own1 _ rfl _ _ elemLine rfl rfl HOn.out ⟨(n : Int), cur⟩ [.int .i64 (n : Int), .slice Ac cur.length cc] rfl (At.new _ _ _) HRd.out hcap1 hcap2 hzz ?_); (intro v' w9 hown9 hg9 hat9); (obtain ⟨A9, k9, hv9, _⟩ := hown9.form); (rw [snoc_len] at hv9); (subst hv9); (have H9 := Lib.hid (And.intro hown9 (And.intro hg9 hat9))); (clear hown9 hg9 hat9))
            go_roundg (l.length - (s + 1))
            case measure => exact HJg.out s HJs.out.1 HJs.out.2.1
            case rel =>
              obtain ⟨hown9, hg9, hat9⟩ := H9.out
              refine ⟨s + 1, out ++ [⟨(n : Int), cur⟩], n, HJs.out.2.2.1, rfl, HJs.out.2.2.2.1, by rw [snoc_len]; exact HJs.out.2.2.2.2, fun h => by simp at h, ?_, hown9, (HAA.out.alloc _).grown hg9 (fun e => by have h9 := (HOn.out.block _ e.symm).1; omega), (HKA.out.alloc _).grown hg9 (fun k hk => .inr (HOn.out.block k hk).1)⟩
              unfold stO
              rw [if_neg (by simp)]
              exact HR2.out
    go_wp2_with fail
    go_loopg [7] (l.length - j) (fun gk dv wr => LnD kk l out d j w_2.heap.size w4 gk dv wr)
    case atStart => exact ⟨j, d, by omega, Nat.le_refl _, rfl, by omega, .inl rfl, HA4.out, Kept.refl _ _⟩
    case round =>
      obtain ⟨w6, hw6⟩ : ∃ w6 : World, w6 = wr := ⟨_, rfl⟩
      subst hw6
      obtain ⟨q, dd, hqg, hjq, rfl, hdd, hst, hat, hk6⟩ := hrel
      have HSt := Lib.hid hst
      have HA6 := Lib.hid hat
      have HO6 := Lib.hid (HO4.out.kept hk6 (fun b (hb : b = w_2.heap.size) h => h.elim id (fun h => by omega)))
      have HL6 := Lib.hid (HL4.out.kept hk6 (fun h : w.heap.size = w_2.heap.size => by omega))
      have HKK6 := Lib.hid (HKK4.out.kept hk6 (fun h : w.heap.size + 1 = w_2.heap.size => by omega))
      have HE6 := Lib.hid (HE4.out.kept hk6 (fun b hb (h : b = w_2.heap.size) => by have := HS.out b hb; omega))
      have HB6 : Hid (Below w.heap.size w w6) := Lib.hid (HB4.out.trans (hk6.to_below (B := w.heap.size) (fun b (h : b = w_2.heap.size) => by omega) HB4.out.size))
      have HP6 := Lib.hid (HP4.out.trans hk6)
      have hsz6 : w4.heap.size ≤ w6.heap.size := hk6.size
      have HK6 := Lib.hid hk6
      have HQg : Hid (q < l.length → l.length - (q + 1) < gk ∧ q + 1 + (l.length - (q + 1)) = l.length ∧ j ≤ q + 1 ∧ dd - 1 = (d : Int) - (((q + 1 : Nat) : Int) - (j : Int))) := Lib.hid (fun h => ⟨by omega, by omega, by omega, by omega⟩)
      have HDd := Lib.hid hdd
      have hqle : q ≤ l.length := by omega
      have hq0 : (0 : Int) ≤ (q : Int) := by omega
      have hdq : dd ≤ (q : Int) := by omega
      have HKq6 : Hid (Blk' w6 (w.heap.size + 1) 23 #[.int .i64 kk.k0, .int .i64 kk.k1, .int .i64 kk.k2]) := Lib.hid (by rw [HKK.out]; exact HKK6.out)
      have Hd2 : Hid (IntKind.i64.wrap (dd - 1) = dd - 1 ∧ wrap64 (dd - 1) = dd - 1) := Lib.hid ⟨IntWalk.i64_in _ (by omega), IntWalk.wrap64_in _ (by omega)⟩
      obtain ⟨ib, hib⟩ : ∃ ib, ib = isB kk l 1 q := ⟨_, rfl⟩
      have HIb1 := Lib.hid hib
      clear hst hat hk6 hqg hib hdd
      go_wp2_with fail
      refine (lis_any kk l _ c S 1 q w.heap.size (w.heap.size + 1) w_2.heap.size w6 (by omega) hqle (by omega) HE6.out HL6.out HKq6.out HA6.out).mono ?_
      rintro e w7 ⟨rfl, hb7⟩
      rw [← HIb1.out]
      have hsz7 : w6.heap.size ≤ w7.heap.size := hb7.size
      have HK7 := Lib.hid (HK6.out.below hb7)
      have HO7 := Lib.hid (HO6.out.below hb7 (Nat.le_refl _))
      have HA7 := Lib.hid (HA6.out.below hb7 HA6.out.lt)
      have HL7 := Lib.hid (HL6.out.below hb7 HL6.out.lt)
      have HKK7 := Lib.hid (HKK6.out.below hb7 HKK6.out.lt)
      have HE7 := Lib.hid (HE6.out.below hb7)
      have HB7 := Lib.hid (bthen HB6.out hb7 HB6.out.size)
      have HP7 := Lib.hid (HP6.out.below hb7)
      clear hb7 HKq6
      have hst2 : runL kk (.S 0 []) (kindsT l) = runL kk (.L dd out) ((kindsT l).drop q) ∧ isB kk l 0 q = false ∨ runL kk (.S 0 []) (kindsT l) = runL kk (.D dd out) ((kindsT l).drop q) := by
        rcases HSt.out with h | h
        · have e : dd = (d : Int) := by have := HDd.out; omega
          rw [h, e]; exact .inl ⟨HRL.out, HIb0.out.symm⟩
        · exact .inr h.2
      have HSt2 := Lib.hid hst2
      clear hst2
      cases ib
      rotate_left
      · skip
        have a0 : w7.cell? ⟨w_2.heap.size, 0, none⟩ = some (.int .i64 (q : Int)) := HA7.out.cell 0
        have f0 := HA7.out.frozen 0
        have za : w_2.heap.size < w7.heap.size := HA7.out.lt
        have hql := isB_lt HIb1.out.symm
        have HR2 := Lib.hid (run_dedent HSt2.out HIb1.out.symm)
        have Hw1 : Hid (IntKind.i64.wrap ((q : Int) + 1) = (q : Int) + 1 ∧ wrap64 ((q : Int) + 1) = (q : Int) + 1) := Lib.hid ⟨IntWalk.i64_in _ (by omega), IntWalk.wrap64_in _ (by omega)⟩
        have hw1 := Hw1.out.1
        have hw2 := Hw1.out.2
        have hd2 := Hd2.out.1
        have hd3 := Hd2.out.2
        go_wp2
        clear hw1 hw2 hd2 hd3
        go_roundg (l.length - (q + 1))
        case measure => exact (HQg.out hql).1
        case rel =>
          obtain ⟨_, g1, g2, g3⟩ := HQg.out hql
          exact ⟨q + 1, dd - 1, g1, g2, rfl, g3, .inr ⟨HOut.out, HR2.out⟩, HA7.out.set_ 0 _, HK7.out.setCell (p := ⟨w_2.heap.size, 0, none⟩) (.inl rfl) _⟩
      have HAE : Hid (AtE kk l out dd q) := Lib.hid (by
        rcases HSt.out with h | h
        · have e : dd = (d : Int) := by have := HDd.out; omega
          subst h
          rw [e]
          exact atE_L HRL.out (by omega) hlt HIb0.out.symm HIb1.out.symm
        · exact atE_D h.2 hqle HIb1.out.symm)
      by_cases hneg : dd < 0
      · have HF2 := Lib.hid (HBad.out (by have h := HAE.out; unfold AtE at h; rw [h, if_pos hneg]))
        go_wp2
        go_ret2
        exact retLn_err HF2.out HB7.out
      have l0 : w7.cell? ⟨w.heap.size, 0, none⟩ = some (.slice A l.length c) := HL7.out.cell 0
      have a0 : w7.cell? ⟨w_2.heap.size, 0, none⟩ = some (.int .i64 (q : Int)) := HA7.out.cell 0
      have zl : w.heap.size < w7.heap.size := HL7.out.lt
      have za : w_2.heap.size < w7.heap.size := HA7.out.lt
      have zk : w.heap.size + 1 < w7.heap.size := HKK7.out.lt
      by_cases hqe : q = l.length
      · have hqe2 : (q : Int) = (l.length : Int) := by omega
        have hfin : runL kk (.S 0 []) (kindsT l) = if dd = 0 then some out else none := by
          have h := HAE.out; unfold AtE at h; rw [h, if_neg hneg, if_pos hqe]
        have HF := Lib.hid hfin
        clear hfin hqe
        by_cases hd : dd = 0
        · have HF2 := Lib.hid (HGood.out out (by rw [HF.out, if_pos hd]))
          subst hd
          clear HF
          go_wp2
          all_goals
            go_ret2
            exact retLn_ok HF2.out HO7.out QB_3.out.size HB7.out
        · have HF2 := Lib.hid (HBad.out (by rw [HF.out, if_neg hd]))
          clear HF
          go_wp2
          all_goals
            go_ret2
            exact retLn_err HF2.out HB7.out
      have hql : q < l.length := by omega
      have hszb : w_3.heap.size ≤ w7.heap.size := HP7.out.size
      have hqe2 : ¬ (q : Int) = (l.length : Int) := by omega
      have HRb : Hid (runL kk (.S 0 []) (kindsT l) = runL kk (.B dd out []) ((kindsT l).drop q)) := Lib.hid (by have h := HAE.out; unfold AtE at h; rw [h, if_neg hneg, if_neg hqe])
      obtain ⟨n, rfl⟩ : ∃ n : Nat, dd = (n : Int) := ⟨dd.toNat, by omega⟩
      have hn0 : ¬ (n : Int) < 0 := by omega
      have hn1 : decide ((n : Int) < 0) = false := by simp
      have hqe3 : ((q : Int) == (l.length : Int)) = false := by simp; omega
      clear HAE hqe hneg
      obtain ⟨wl, hwl⟩ : ∃ wl : World, wl = w7.alloc (.cells #[.int .i64 (n : Int), .slice none 0 0] 73) := ⟨_, rfl⟩
      have hbl : Below w7.heap.size w7 wl := by rw [hwl]; exact (Below.refl _ _).alloc (Nat.le_refl _) _
      have hzl : wl.heap.size = w7.heap.size + 1 := by rw [hwl]; simp
      have HPl : Hid (Blk' wl w7.heap.size 73 #[.int .i64 (n : Int), .slice none 0 0]) := Lib.hid (by rw [hwl]; exact Blk'.new _ _ _)
      have HAl := Lib.hid (HA7.out.below hbl HA7.out.lt)
      have HWl := Lib.hid hwl
      have HBl := Lib.hid hbl
      have HZl := Lib.hid hzl
      have hzl2 : w7.heap.size < wl.heap.size := by omega
      clear hwl hbl hzl
      go_upto_region 19 with (fail)
      rw [← HWl.out]
      clear l0 a0 zl za zk
      go_loopg [] (l.length - q) (fun gk wr => LnI kk l out n q w_2.heap.size w7.heap.size wl gk wr)
      case atStart => exact ⟨q, [], _, by omega, Nat.le_refl _, Nat.zero_le _, HRb.out, HPl.out, Own.nil _ _ _ _, HAl.out, Kept.refl _ _⟩
      case round =>
        obtain ⟨wi, hwi⟩ : ∃ wi : World, wi = wr := ⟨_, rfl⟩
        subst hwi
        obtain ⟨s, cur, vc, hsg, hqs, hcs, hrun, hPb, hcown, hat, hki⟩ := hrel
        obtain ⟨Ac, cc, rfl, hcc1, hcc2, _⟩ := hcown.form
        have HPi := Lib.hid hPb
        have HCo := Lib.hid hcown
        have HAi := Lib.hid hat
        have HRi := Lib.hid hrun
        have hkw : Kept (fun b => b = w_2.heap.size) w7 wi := ((Kept.of_below (fun b => b = w_2.heap.size ∨ b = w7.heap.size) HBl.out).trans hki).mono (fun b hb h => by rcases h with h | h; exact h; omega)
        have HKi := Lib.hid hki
        have HKw := Lib.hid hkw
        have HLi := Lib.hid (HL7.out.kept hkw (fun h : w.heap.size = w_2.heap.size => by omega))
        have HKKi := Lib.hid (HKK7.out.kept hkw (fun h : w.heap.size + 1 = w_2.heap.size => by omega))
        have HKq : Hid (Blk' wi (w.heap.size + 1) 23 #[.int .i64 kk.k0, .int .i64 kk.k1, .int .i64 kk.k2]) := Lib.hid (by rw [HKK.out]; exact HKKi.out)
        have HEi := Lib.hid (HE7.out.kept hkw (fun b hb (h : b = w_2.heap.size) => by have := HS.out b hb; omega))
        have HOi := Lib.hid (HO7.out.kept hkw (fun b (hb : b = w_2.heap.size) h => h.elim id (fun h => by omega)))
        have HBi : Hid (Below w.heap.size w wi) := Lib.hid (HB7.out.trans (hkw.to_below (B := w.heap.size) (fun b (h : b = w_2.heap.size) => by omega) HB7.out.size))
        have hszi : wl.heap.size ≤ wi.heap.size := hki.size
        have HSg : Hid (s < l.length → l.length - (s + 1) < gk ∧ s + 1 + (l.length - (s + 1)) = l.length ∧ q ≤ s + 1 ∧ cur.length + 1 ≤ s + 1) := Lib.hid (fun h => ⟨by omega, by omega, by omega, by omega⟩)
        have hs0 : (0 : Int) ≤ (s : Int) := by omega
        have hsl : s ≤ l.length := by omega
        clear hPb hcown hat hrun hki hkw hsg
        have l0 : wi.cell? ⟨w.heap.size, 0, none⟩ = some (.slice A l.length c) := HLi.out.cell 0
        have a0 : wi.cell? ⟨w_2.heap.size, 0, none⟩ = some (.int .i64 (s : Int)) := HAi.out.cell 0
        have zl : w.heap.size < wi.heap.size := HLi.out.lt
        have za : w_2.heap.size < wi.heap.size := HAi.out.lt
        have zk : w.heap.size + 1 < wi.heap.size := HKKi.out.lt
        have p1 : wi.cell? ⟨w7.heap.size, 1, none⟩ = some (.slice Ac cur.length cc) := HPi.out.cell 1
        have p0 : wi.cell? ⟨w7.heap.size, 0, none⟩ = some (.int .i64 (n : Int)) := HPi.out.cell 0
        have zp : w7.heap.size < wi.heap.size := HPi.out.lt
        have HKe : Hid (Els wi (fun b => b = w.heap.size + 1) [ka, kb, kc] (some ⟨w.heap.size + 1, 0, none⟩)) := Lib.hid (els_of_blk [[.int .i64 ka], [.int .i64 kb], [.int .i64 kc]] HKKi.out rfl rfl (fun i x cs hi hc => by
          match i, hi, hc with
          | 0, hi, hc => simp at hi hc; subst hi; subst hc; exact ⟨rfl, HK.out.1⟩
          | 1, hi, hc => simp at hi hc; subst hi; subst hc; exact ⟨rfl, HK.out.2.1⟩
          | 2, hi, hc => simp at hi hc; subst hi; subst hc; exact ⟨rfl, HK.out.2.2⟩) rfl)
        by_cases hlt2 : s < l.length
        rotate_left
        · skip
          have hd1 : decide ((s : Int) < (l.length : Int)) = false := by simp; omega
          have hsl2 : ¬ (s : Int) < (l.length : Int) := by omega
          have HKt : Hid (∀ t, l[s]? = some t → isK kk t.kind = true) := Lib.hid (fun t ht => by rw [List.getElem?_eq_none (by omega)] at ht; cases ht)
          have hib : isB kk l 2 s = false := by unfold isB; rw [List.getElem?_eq_none (by omega)]
          have HIb := Lib.hid hib
          clear hib
          go_wp2_with fail
          go_quiet (fail)
          clear hd1
          generalize hwd : World.drewN wi _ = wd
          have hbd : Below wi.heap.size wi wd := hwd ▸ bdrewN (Below.refl _ _)
          have hzd : wi.heap.size ≤ wd.heap.size := hbd.size
          have HCd := Lib.hid (HCo.out.below hbd (Nat.le_refl _))
          have HOd := Lib.hid (HOi.out.below hbd (Nat.le_refl _))
          have HPd := Lib.hid (HPi.out.below hbd HPi.out.lt)
          have HAd := Lib.hid (HAi.out.below hbd HAi.out.lt)
          have HLd := Lib.hid (HLi.out.below hbd HLi.out.lt)
          have HKqd := Lib.hid (HKq.out.below hbd HKq.out.lt)
          have HEd := Lib.hid (HEi.out.below hbd)
          have HBd := Lib.hid (bthen HBi.out hbd HBi.out.size)
          have HKd := Lib.hid (HKi.out.below hbd)
          have HKw2 := Lib.hid (HKw.out.below hbd)
          clear hwd hbd l0 a0 zl za zk p0 p1 zp
          have l0 : wd.cell? ⟨w.heap.size, 0, none⟩ = some (.slice A l.length c) := HLd.out.cell 0
          have a0 : wd.cell? ⟨w_2.heap.size, 0, none⟩ = some (.int .i64 (s : Int)) := HAd.out.cell 0
          have zl : w.heap.size < wd.heap.size := HLd.out.lt
          have za : w_2.heap.size < wd.heap.size := HAd.out.lt
          have p1 : wd.cell? ⟨w7.heap.size, 1, none⟩ = some (.slice Ac cur.length cc) := HPd.out.cell 1
          have zp : w7.heap.size < wd.heap.size := HPd.out.lt
          by_cases hcur : cur = []
          · have HF2 := Lib.hid (HBad.out (run_noend HRi.out HKt.out (.inl hcur)))
            have hc1 : cur.length = 0 := by rw [hcur]; rfl
            have hc2 : (cur.length : Int) = 0 := by omega
            clear hcur
            go_wp2
            go_ret2
            exact retLn_err HF2.out HBd.out
          · have HF2 := Lib.hid (HBad.out (run_noend HRi.out HKt.out (.inr HIb.out)))
            have hc2 : ¬ (cur.length : Int) = 0 := by have := List.length_pos_iff.2 hcur; omega
            have hc3 : ¬ cur.length = 0 := by omega
            go_wp2_with fail
            refine (lis_any kk l _ c S 2 s w.heap.size (w.heap.size + 1) w_2.heap.size wd (by omega) hsl (by omega) HEd.out HLd.out HKqd.out HAd.out).mono ?_
            rintro e wz ⟨rfl, hbz⟩
            rw [HIb.out]
            have HBz := Lib.hid (bthen HBd.out hbz HBd.out.size)
            clear hbz
            go_wp2
            go_ret2
            exact retLn_err HF2.out HBz.out
        have hsl2 : (s : Int) < (l.length : Int) := by omega
        obtain ⟨t, ht⟩ := get_some hlt2
        obtain ⟨tb, to_, hbe, hSb, hbs, ti0, ti1, ti2, c0, c1, c2, c2'⟩ := HEi.out.tok ht
        obtain ⟨tk, tf, tt⟩ := t
        dsimp only at ti0 ti1 ti2 c0 c1 c2 c2'
        have HTi := Lib.hid ti0
        have HGt := Lib.hid ht
        subst hbe
        clear ht ti0 ti1 ti2 c1 c2 c2'
        have hd1 : decide ((s : Int) < (l.length : Int)) = true := by simp; omega
        have hmk := HM.out tk
        obtain ⟨Q, hQ⟩ : ∃ Q, Q = isK ⟨ka, kb, kc⟩ tk := ⟨_, rfl⟩
        have HQ := Lib.hid hQ
        rw [← hQ] at hmk
        have HMk := Lib.hid hmk
        clear hQ hmk
        cases Q
        · skip
          go_wp2_with fail
          go_quiet ((go_at_call 32; refine Calls.quiet_of_same ((containsInt_any (some ⟨w.heap.size + 1, 0, none⟩) 3 3 [ka, kb, kc] tk (fun b => b = w.heap.size + 1) _ rfl (by simp) (HKe.out.below (below_drewN (Below.refl _ _) _))).mono fun e w' hh => ⟨hh.1.trans (by rw [HMk.out]), hh.2.symm⟩)))
          clear hd1
          have HR2 := Lib.hid (run_body HRi.out HGt.out (by rw [HKK.out]; exact HQ.out.symm))
          generalize hwd : World.drewN wi _ = wd
          have hbd : Below wi.heap.size wi wd := hwd ▸ bdrewN (Below.refl _ _)
          have hzd : wi.heap.size ≤ wd.heap.size := hbd.size
          have HCd := Lib.hid (HCo.out.below hbd (Nat.le_refl _))
          have HPd := Lib.hid (HPi.out.below hbd HPi.out.lt)
          have HAd := Lib.hid (HAi.out.below hbd HAi.out.lt)
          have HLd := Lib.hid (HLi.out.below hbd HLi.out.lt)
          have HKd := Lib.hid (HKi.out.below hbd)
          have c0d : wd.cell? ⟨tb, to_ + s * 3, none⟩ = some (.int .i64 tk) := by rw [hbd.cell (by exact hbs)]; exact c0
          have hbs2 : tb < wd.heap.size := by omega
          clear hwd hbd l0 a0 zl za zk p0 p1 zp c0 hbs
          have l0 : wd.cell? ⟨w.heap.size, 0, none⟩ = some (.slice (some ⟨tb, to_, none⟩) l.length c) := HLd.out.cell 0
          have a0 : wd.cell? ⟨w_2.heap.size, 0, none⟩ = some (.int .i64 (s : Int)) := HAd.out.cell 0
          have zl : w.heap.size < wd.heap.size := HLd.out.lt
          have za : w_2.heap.size < wd.heap.size := HAd.out.lt
          have p1 : wd.cell? ⟨w7.heap.size, 1, none⟩ = some (.slice Ac cur.length cc) := HPd.out.cell 1
          have zp : w7.heap.size < wd.heap.size := HPd.out.lt
          have hcap1 : (cur.length + 1) * 8 ≤ 140737488355328 := by omega
          have hcap2 : cur.length + 1 ≤ 9223372036854775807 := by omega
          have hPz : w7.heap.size + 1 ≤ wd.heap.size := by omega
          have Hw1 : Hid (IntKind.i64.wrap ((s : Int) + 1) = (s : Int) + 1 ∧ wrap64 ((s : Int) + 1) = (s : Int) + 1) := Lib.hid ⟨IntWalk.i64_in _ (by omega), IntWalk.wrap64_in _ (by omega)⟩
          have hnb : ¬ w_2.heap.size = w7.heap.size := by omega
          have HNo : Hid (∀ k, (Value.slice Ac cur.length cc).ownBlock = some k → w7.heap.size + 1 ≤ k) := Lib.hid (fun k hk => (HCd.out.block k hk).1)
          go_wp2_with fail
          go_region_law
            (first
            | (refine step_own1 _ (by rfl) _ _ elemInt (by rfl) (by rfl) ((HCd.out.alloc _).drew) tk [.int .i64 tk] (by rfl) (At.drew (At.new _ _ _)) ⟨rfl, HTi.out⟩ hcap1 hcap2 (by simp; omega) ?_
               intro v' wA hA gA aA
               obtain ⟨A3, k3, e3, _⟩ := hA.form; rw [snoc_len] at e3; subst e3
               have bP : Blk' wA w7.heap.size 73 #[.int .i64 (n : Int), .slice Ac cur.length cc] := ((HPd.out.alloc _).drew).grown gA (fun e => by have := HNo.out _ e.symm; omega)
               have bA : Blk' wA w_2.heap.size 3 #[.int .i64 (s : Int)] := ((HAd.out.alloc _).drew).grown gA (fun e => by have := HNo.out _ e.symm; omega)
               have q1 : wA.cell? ⟨w7.heap.size, 1, none⟩ = some (.slice Ac cur.length cc) := bP.cell 1
               have fq := bP.frozen 1
               have zq : w7.heap.size < wA.heap.size := bP.lt
               have r0 : wA.cell? ⟨w_2.heap.size, 0, none⟩ = some (.int .i64 (s : Int)) := bA.cell 0
               have fr := bA.frozen 0
               have zr : w_2.heap.size < wA.heap.size := bA.lt
               have HA := Lib.hid (And.intro hA (And.intro gA (And.intro bP bA)))
               clear hA gA aA bP bA))
          all_goals
            have hw1 := Hw1.out.1
            have hw2 := Hw1.out.2
            go_wp2
            clear hw1 hw2
            go_roundg (l.length - (s + 1))
            case measure => exact (HSg.out hlt2).1
            case rel =>
              obtain ⟨hA, gA, bP, bA⟩ := HA.out
              obtain ⟨_, g1, g2, g3⟩ := HSg.out hlt2
              refine ⟨s + 1, cur ++ [tk], .slice A3 (cur.length + 1) k3, g1, g2, by rw [snoc_len]; exact g3, HR2.out, ?_, ?_, ?_, ?_⟩
              · exact (bP.set_ 1 _).far (p := ⟨w_2.heap.size, 0, none⟩) (fun e => hnb e.symm) _
              · exact (hA.setCell (p := ⟨w7.heap.size, 1, none⟩) (fun e => by have h9 := (hA.block _ e).1; dsimp only at h9; omega) (by simp) _).setCell (p := ⟨w_2.heap.size, 0, none⟩) (fun e => by have h9 := (hA.block _ e).1; dsimp only at h9; omega) (by simp; omega) _
              · exact (bA.far (p := ⟨w7.heap.size, 1, none⟩) hnb _).set_ 0 _
              · exact ((((HKd.out.alloc _).drew).grown gA (fun k hk => .inr (by have := HNo.out k hk; have := HZl.out; omega))).setCell (p := ⟨w7.heap.size, 1, none⟩) (.inl (.inr rfl)) _).setCell (p := ⟨w_2.heap.size, 0, none⟩) (.inl (.inl rfl)) _
        · skip
          have HKt : Hid (∀ t, l[s]? = some t → isK kk t.kind = true) := Lib.hid (fun t ht => by rw [HGt.out] at ht; injection ht with ht; subst ht; rw [HKK.out]; exact HQ.out.symm)
          obtain ⟨ib, hib⟩ : ∃ ib, ib = isB kk l 2 s := ⟨_, rfl⟩
          have HIbq := Lib.hid hib
          clear hib
          go_wp2_with fail
          go_quiet ((go_at_call 32; refine Calls.quiet_of_same ((containsInt_any (some ⟨w.heap.size + 1, 0, none⟩) 3 3 [ka, kb, kc] tk (fun b => b = w.heap.size + 1) _ rfl (by simp) (HKe.out.below (below_drewN (Below.refl _ _) _))).mono fun e w' hh => ⟨hh.1.trans (by rw [HMk.out]), hh.2.symm⟩)))
          clear hd1
          generalize hwd : World.drewN wi _ = wd
          have hbd : Below wi.heap.size wi wd := hwd ▸ bdrewN (Below.refl _ _)
          have hzd : wi.heap.size ≤ wd.heap.size := hbd.size
          have HCd := Lib.hid (HCo.out.below hbd (Nat.le_refl _))
          have HOd := Lib.hid (HOi.out.below hbd (Nat.le_refl _))
          have HPd := Lib.hid (HPi.out.below hbd HPi.out.lt)
          have HAd := Lib.hid (HAi.out.below hbd HAi.out.lt)
          have HLd := Lib.hid (HLi.out.below hbd HLi.out.lt)
          have HKqd := Lib.hid (HKq.out.below hbd HKq.out.lt)
          have HEd := Lib.hid (HEi.out.below hbd)
          have HBd := Lib.hid (bthen HBi.out hbd HBi.out.size)
          have HKd := Lib.hid (HKi.out.below hbd)
          have HKw2 := Lib.hid (HKw.out.below hbd)
          have c0d : wd.cell? ⟨tb, to_ + s * 3, none⟩ = some (.int .i64 tk) := by rw [hbd.cell (by exact hbs)]; exact c0
          have hbs2 : tb < wd.heap.size := by omega
          clear hwd hbd l0 a0 zl za zk p0 p1 zp c0 hbs
          have l0 : wd.cell? ⟨w.heap.size, 0, none⟩ = some (.slice (some ⟨tb, to_, none⟩) l.length c) := HLd.out.cell 0
          have a0 : wd.cell? ⟨w_2.heap.size, 0, none⟩ = some (.int .i64 (s : Int)) := HAd.out.cell 0
          have zl : w.heap.size < wd.heap.size := HLd.out.lt
          have za : w_2.heap.size < wd.heap.size := HAd.out.lt
          have p1 : wd.cell? ⟨w7.heap.size, 1, none⟩ = some (.slice Ac cur.length cc) := HPd.out.cell 1
          have zp : w7.heap.size < wd.heap.size := HPd.out.lt
          cases ib
          · have HIb : Hid (isB kk l 2 s = false) := Lib.hid HIbq.out.symm
            by_cases hcur : cur = []
            · have HF2 := Lib.hid (HBad.out (run_noend HRi.out HKt.out (.inl hcur)))
              have hc1 : cur.length = 0 := by rw [hcur]; rfl
              have hc2 : (cur.length : Int) = 0 := by omega
              clear hcur
              go_wp2
              go_ret2
              exact retLn_err HF2.out HBd.out
            · have HF2 := Lib.hid (HBad.out (run_noend HRi.out HKt.out (.inr HIb.out)))
              have hc2 : ¬ (cur.length : Int) = 0 := by have := List.length_pos_iff.2 hcur; omega
              have hc3 : ¬ cur.length = 0 := by omega
              go_wp2_with fail
              refine (lis_any kk l _ c S 2 s w.heap.size (w.heap.size + 1) w_2.heap.size wd (by omega) hsl (by omega) HEd.out HLd.out HKqd.out HAd.out).mono ?_
              rintro e wz ⟨rfl, hbz⟩
              rw [HIb.out]
              have HBz := Lib.hid (bthen HBd.out hbz HBd.out.size)
              clear hbz
              go_wp2
              go_ret2
              exact retLn_err HF2.out HBz.out
          · have HIb : Hid (isB kk l 2 s = true) := Lib.hid HIbq.out.symm
            by_cases hcur : cur = []
            · have HF2 := Lib.hid (HBad.out (run_noend HRi.out HKt.out (.inl hcur)))
              have hc1 : cur.length = 0 := by rw [hcur]; rfl
              have hc2 : (cur.length : Int) = 0 := by omega
              clear hcur
              go_wp2
              go_ret2
              exact retLn_err HF2.out HBd.out
            have HR2 := Lib.hid (run_end HRi.out hcur HIb.out)
            have hc2 : ¬ (cur.length : Int) = 0 := by have := List.length_pos_iff.2 hcur; omega
            have hc3 : ¬ cur.length = 0 := by omega
            go_wp2_with fail
            refine (lis_any kk l _ c S 2 s w.heap.size (w.heap.size + 1) w_2.heap.size wd (by omega) hsl (by omega) HEd.out HLd.out HKqd.out HAd.out).mono ?_
            rintro e wz ⟨rfl, hbz⟩
            rw [HIb.out]
            have HOz := Lib.hid (HOd.out.below hbz (Nat.le_refl _))
            have HAz := Lib.hid (HAd.out.below hbz HAd.out.lt)
            have HCz := Lib.hid (HCd.out.below hbz (Nat.le_refl _))
            have HPz := Lib.hid (HPd.out.below hbz HPd.out.lt)
            have HKz : Hid (Kept (fun b => b = w_2.heap.size) w_3 wz) := Lib.hid ((HP7.out.trans HKw2.out).below hbz)
            have hszz : wd.heap.size ≤ wz.heap.size := hbz.size
            clear hbz l0 a0 zl za p1 zp
            have Hw1 : Hid (IntKind.i64.wrap ((s : Int) + 1) = (s : Int) + 1 ∧ wrap64 ((s : Int) + 1) = (s : Int) + 1) := Lib.hid ⟨IntWalk.i64_in _ (by omega), IntWalk.wrap64_in _ (by omega)⟩
            have HJs : Hid (j ≤ s ∧ s < l.length ∧ s + 1 + (l.length - (s + 1)) = l.length ∧ n ≤ s + 1 ∧ out.length + 1 ≤ s + 1) := Lib.hid ⟨by omega, by omega, by omega, by omega, by omega⟩
            obtain ⟨wA, hwA⟩ : ∃ wA : World, wA = wz.setCell ⟨w_2.heap.size, 0, none⟩ (.int .i64 ((s : Int) + 1)) := ⟨_, rfl⟩
            have hkA : Kept (fun b => b = w_2.heap.size) wz wA := by rw [hwA]; exact Kept.setCell (X := fun b => b = w_2.heap.size) (Kept.refl _ _) (p := ⟨w_2.heap.size, 0, none⟩) (.inl rfl) _
            have HAA : Hid (Blk' wA w_2.heap.size 3 #[.int .i64 ((s : Int) + 1)]) := Lib.hid (by rw [hwA]; exact HAz.out.set_ 0 _)
            have HOA := Lib.hid (HOz.out.kept hkA (fun b (hb : b = w_2.heap.size) h => h.elim id (fun h => by omega)))
            have HCA := Lib.hid (HCz.out.kept hkA (fun b (hb : b = w_2.heap.size) h => h.elim id (fun h => by omega)))
            have HPA := Lib.hid (HPz.out.kept hkA (fun h : w7.heap.size = w_2.heap.size => by omega))
            have HKA : Hid (Kept (fun b => b = w_2.heap.size) w_3 wA) := Lib.hid (HKz.out.trans hkA)
            have hszA : wz.heap.size ≤ wA.heap.size := hkA.size
            have HWA := Lib.hid hwA
            have a0 : wz.cell? ⟨w_2.heap.size, 0, none⟩ = some (.int .i64 (s : Int)) := HAz.out.cell 0
            have f0 := HAz.out.frozen 0
            have za : w_2.heap.size < wz.heap.size := HAz.out.lt
            clear hkA hwA
            have hw1 := Hw1.out.1
            have hw2 := Hw1.out.2
            go_upto_region 25 with (fail)
            rw [← HWA.out]
            clear a0 f0 za hw1 hw2
            have p1 : wA.cell? ⟨w7.heap.size, 1, none⟩ = some (.slice Ac cur.length cc) := HPA.out.cell 1
            have p0 : wA.cell? ⟨w7.heap.size, 0, none⟩ = some (.int .i64 (n : Int)) := HPA.out.cell 0
            have zp : w7.heap.size < wA.heap.size := HPA.out.lt
            have hba : Below wA.heap.size wA (wA.alloc (.cells #[.int .i64 (n : Int), .slice Ac cur.length cc] 73)) := (Below.refl _ _).alloc (Nat.le_refl _) _
            have HOn := Lib.hid (HOA.out.alloc (.cells #[.int .i64 (n : Int), .slice Ac cur.length cc] 73))
            have HRd : Hid (Dat.rd (wA.alloc (.cells #[.int .i64 (n : Int), .slice Ac cur.length cc] 73)) (OwnT (fun _ => False) w_3.heap.size (.slice Av out.length cv) (wA.alloc (.cells #[.int .i64 (n : Int), .slice Ac cur.length cc] 73))) (⟨(n : Int), cur⟩ : LineD) [.int .i64 (n : Int), .slice Ac cur.length cc]) := Lib.hid ⟨_, rfl, by show I64 (n : Int); unfold I64; omega, Vl.of_slice rfl hcc1 hcc2 ((HCA.out.vl.els.2.2.2.below hba).keep (fun _ _ _ => rfl) (fun b hb => by
              refine ⟨.inr (by rcases hb.1 with h | h; exact h.elim; omega), fun e => ?_, Nat.lt_of_lt_of_le hb.2 hba.size⟩
              have h3 := (HO7.out.block b e).2
              rcases hb.1 with h | h
              · exact h
              · omega))⟩
            have hcap1 : (out.length + 1) * 32 ≤ 140737488355328 := by omega
            have hcap2 : out.length + 1 ≤ 9223372036854775807 := by omega
            have hzz : w_3.heap.size ≤ (wA.alloc (.cells #[.int .i64 (n : Int), .slice Ac cur.length cc] 73)).heap.size := by simp; omega
            have HHb := Lib.hid hba
            clear hba
            go_wp2_with ((at_builtin); (refine wpList_own1 _ rfl _ _ elemLine rfl rfl HOn.out ⟨(n : Int), cur⟩ [.int .i64 (n : Int), .slice Ac cur.length cc] rfl (At.new _ _ _) HRd.out hcap1 hcap2 hzz ?_); (intro v' w9 hown9 hg9 hat9); (obtain ⟨A9, k9, hv9, _⟩ := hown9.form); (rw [snoc_len] at hv9); (subst hv9); (have H9 := Lib.hid (And.intro hown9 (And.intro hg9 hat9))); (clear hown9 hg9 hat9))
            go_roundg (l.length - (s + 1))
            case measure => exact HJg.out s HJs.out.1 HJs.out.2.1
            case rel =>
              obtain ⟨hown9, hg9, hat9⟩ := H9.out
              refine ⟨s + 1, out ++ [⟨(n : Int), cur⟩], n, HJs.out.2.2.1, rfl, HJs.out.2.2.2.1, by rw [snoc_len]; exact HJs.out.2.2.2.2, fun h => by simp at h, ?_, hown9, (HAA.out.alloc _).grown hg9 (fun e => by have h9 := (HOn.out.block _ e.symm).1; omega), (HKA.out.alloc _).grown hg9 (fun k hk => .inr (HOn.out.block k hk).1)⟩
              unfold stO
              rw [if_neg (by simp)]
              exact HR2.out
end Go.Proofs.Ytabehgggahnopaa
