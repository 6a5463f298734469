/- Contracts: first.Follow, first.Predict, of a valid grammar. -/
import Derived.Test.YtbboceklkjfimaaDoorQFollow
import Derived.Test.YtbboceklkjfimaaDoorQUnionS
namespace Go.Proofs.YtbboceklkjfimaaDoor
open Go.RowKit
set_option linter.unusedVariables false

theorem map_flat (l : List Bool) : (l.map fun x => [Value.bool x]).flatten = l.map Value.bool := by
  induction l with
  | nil => rfl
  | cons x l ih => simp only [List.map_cons, List.flatten_cons, ih]; rfl
theorem own_of_blk {w : World} (S : Nat → Prop) {base b : Nat} {l : List Bool} (hb : Blk' w b 4 (bcells l)) (hB : base ≤ b) (hm : l.length ≤ 9223372036854775807) : Own w S base 4 (.slice (some ⟨b, 0, none⟩) l.length l.length) l := by
  refine ⟨l.map fun x => [Value.bool x], ⟨by rw [map_flat]; show _ = _ * 1; simp, .inr ⟨b, l.length, bcells l, rfl, hB, hb, Nat.le_refl _, by simpa [maxLen] using hm, by show _ = _ * 1; simp [bcells], ?_⟩⟩, by simp, fun i x cs hi hc => ?_⟩
  · rw [map_flat]
    show List.take (l.length * 1) _ = _
    rw [Nat.mul_one]
    show List.take l.length (l.map Value.bool) = _
    exact List.take_of_length_le (by simp)
  · simp [hi] at hc
    subst hc
    rfl
theorem own_slack {w : World} {S : Nat → Prop} {base : Nat} {v : Value} {l : List Bool} (h : Own w S base 4 v l) (hne : l ≠ []) :
    ∃ (g cap : Nat) (z : Array Value), v = .slice (some ⟨g, 0, none⟩) l.length cap ∧ base ≤ g ∧ g < w.heap.size ∧ l.length ≤ cap ∧ cap ≤ 9223372036854775807 ∧ Blk' w g 4 (bcells l ++ z) := by
  obtain ⟨css, h1, h2, h3⟩ := h
  rcases h1.2 with ⟨_, hn⟩ | ⟨g, cap, cur, rfl, hg, hh, hnc, hcm, hsz, htk⟩
  · exact absurd (List.eq_nil_of_length_eq_zero hn) hne
  · have hcs : css = l.map fun x => [Value.bool x] := by
      apply List.ext_getElem?
      intro i
      rcases Nat.lt_or_ge i l.length with hlt | hge
      · obtain ⟨x, hx⟩ := get_some hlt
        obtain ⟨cs, hc⟩ := get_some (show i < css.length by omega)
        rw [hc]
        have := h3 i x cs hx hc
        rw [show cs = [Value.bool x] from this]
        simp [hx]
      · rw [List.getElem?_eq_none (by omega), List.getElem?_eq_none (by simpa using hge)]
    rw [hcs, map_flat] at htk
    have htk' : cur.toList.take l.length = l.map Value.bool := by rw [← htk]; show _ = List.take (_ * 1) _; rw [Nat.mul_one]
    have hcur : cur = bcells l ++ (cur.toList.drop l.length).toArray := by
      apply Array.ext'
      rw [Array.toList_append]
      show cur.toList = (l.map Value.bool) ++ cur.toList.drop l.length
      rw [← htk', List.take_append_drop]
    exact ⟨g, cap, _, rfl, hg, (Array.getElem?_eq_some_iff.1 hh).1, hnc, by simpa [maxLen] using hcm, by unfold Blk'; rw [← hcur]; exact hh⟩
theorem els_slack {w : World} {S : Nat → Prop} {g : Nat} {l : List Bool} {z : Array Value} (h : Blk' w g 4 (bcells l ++ z)) (hS : S g) : Els w S l (some ⟨g, 0, none⟩) := by
  intro _
  refine ⟨g, 0, rfl, hS, fun i x hi => ⟨[.bool x], rfl, fun j u hu => ?_⟩⟩
  match j, hu with
  | 0, hu =>
    simp at hu
    subst hu
    have hl := (List.getElem?_eq_some_iff.1 hi).1
    rw [show (0 + i * Dat.size Bool + 0) = i from by show 0 + i * 1 + 0 = i; omega, h.cell, slack_get (by rw [bcells_size]; exact hl)]
    exact bcells_get hi

def RetFolP (g : Gram) (m n : Nat) (w : World) (en : Ending) (w' : World) : Prop :=
  ∃ e f inn bf bs cf fol, en = .returned (.tuple #[.slice (some ⟨bf, 0, none⟩) n cf, .int .i64 0]) ∧ Stable g m n e f ∧ RFix g (fun _ => true) n inn ∧ RowsM w' bf bs (m + 1) n cf fol ∧ ClosedFol g m e f inn fol ∧ (∀ F, ClosedFol g m e f inn F → LeF F fol) ∧ (∀ b ∈ bf :: bs, w.heap.size ≤ b) ∧ Below w.heap.size w w'

set_option maxRecDepth 100000 in
set_option maxHeartbeats 1000000 in
theorem followPub_any (g : Gram) (m n : Nat) (A : Option Addr) (c : Nat) (S : Nat → Prop) (w : World) (hgt : g.terms = (m : Int)) (hgn : g.nons = (n : Int)) (hck : checkI g = 0) (hlc : g.rules.length ≤ c) (hc : c ≤ 9223372036854775807) (hA : Els w S g.rules A) (hS : ∀ b, S b → b < w.heap.size) :
    Calls Tryd.prog 41 #[.agg #[.int .i64 g.terms, .int .i64 g.nons, .int .i64 g.start, .slice A g.rules.length c]] w (RetFolP g m n w) := by
  have hv := validG_of hck
  obtain ⟨gt, gn, gs, rs⟩ := g
  dsimp only at *
  have hmm : m ≤ 100 ∧ 1 ≤ n ∧ n ≤ 100 := by have := hv.t8; have := hv.n1; have := hv.n10; dsimp only at *; omega
  have HV := Lib.hid hv
  have HT := Lib.hid (And.intro hgt hgn)
  have HA := Lib.hid hA
  have HS := Lib.hid hS
  have HC := Lib.hid hck
  have HB0 : Hid (Below w.heap.size w (w.alloc (.cells #[.int .i64 gt, .int .i64 gn, .int .i64 gs, .slice A rs.length c] 35))) := Lib.hid ((Below.refl _ _).alloc (Nat.le_refl _) _)
  clear hv hgt hgn hA hS hck
  go_enter Tryd.func41, Tryd.ntmps41
  go_wp2_with fail
  refine (check_any ⟨gt, gn, gs, rs⟩ A c S _ hlc hc (HA.out.below HB0.out)).mono ?_
  rintro e w1 ⟨rfl, hb1⟩
  rw [HC.out]
  have hG := (Blk'.new w 35 #[.int .i64 gt, .int .i64 gn, .int .i64 gs, .slice A rs.length c]).below hb1 (by simp)
  have g0 : w1.cell? ⟨w.heap.size, 0, none⟩ = some (.int .i64 gt) := hG.cell 0
  have g1 : w1.cell? ⟨w.heap.size, 1, none⟩ = some (.int .i64 gn) := hG.cell 1
  have g2 : w1.cell? ⟨w.heap.size, 2, none⟩ = some (.int .i64 gs) := hG.cell 2
  have g3 : w1.cell? ⟨w.heap.size, 3, none⟩ = some (.slice A rs.length c) := hG.cell 3
  have HB1 := Lib.hid (bthen HB0.out hb1 (by simp))
  clear hb1 hG
  go_wp2_with fail
  refine (make_any ⟨gt, gn, gs, rs⟩ m n A c S _ HT.out.1 HT.out.2 hmm.1 hmm.2 hlc hc (HA.out.below HB1.out) (fun b hb => by have := HS.out b hb; have := HB1.out.size; omega) (by have := HV.out.len; dsimp only at *; omega) (fun q hq => by have h := HV.out.rules q hq; have e1 := HT.out.1; have e2 := HT.out.2; dsimp only at *; rw [← e1, ← e2]; exact ⟨h.1, h.2.1, h.2.2.2⟩)).mono ?_
  rintro e w2 ⟨p, be, bf, bs, cf, e, f, k, rfl, hM, hsh, hit, hfx, hge, hb2⟩
  have H2 := Lib.hid (And.intro hM (And.intro (Stable.mk (g := ⟨gt, gn, gs, rs⟩) hsh ⟨k, hit⟩ hfx) (And.intro hge (bthen HB1.out hb2 HB1.out.size))))
  have hz := HB1.out.size
  clear hM hsh hit hfx hge hb2 g0 g1 g2 g3
  go_wp2_with fail
  refine (follow_any p be bf bs m n ⟨gt, gn, gs, rs⟩ A c cf e f S w2 HC.out HT.out.1 HT.out.2 H2.out.1 hlc hc (HA.out.below H2.out.2.2.2) (fun b hb => Nat.lt_of_lt_of_le (HS.out b hb) H2.out.2.2.2.size)).mono ?_
  rintro en w3 ⟨inn, bf3, bs3, cf3, fol, rfl, hfix, hR, hcl, hle, hbs, hb3⟩
  have H3 := Lib.hid (And.intro hfix (And.intro hR (And.intro hcl (And.intro hle (And.intro hbs hb3)))))
  clear hfix hR hcl hle hbs hb3
  go_wp2
  go_ret2
  exact ⟨e, f, inn, bf3, bs3, cf3, fol, rfl, H2.out.2.1, H3.out.1, H3.out.2.1, H3.out.2.2.1, H3.out.2.2.2.1, fun b hb => by have := H3.out.2.2.2.2.1 b hb; have := H2.out.2.2.2.size; omega, bthen H2.out.2.2.2 H3.out.2.2.2.2.2 H2.out.2.2.2.size⟩
def RetPre (g : Gram) (m n : Nat) (w : World) (en : Ending) (w' : World) : Prop :=
  ∃ e f inn fol v, en = .returned (.tuple #[v, .int .i64 0]) ∧ Stable g m n e f ∧ RFix g (fun _ => true) n inn ∧ ClosedFol g m e f inn fol ∧ (∀ F, ClosedFol g m e f inn F → LeF F fol) ∧ Vl w' (fun b => w.heap.size ≤ b ∧ b < w'.heap.size) (g.rules.map (predRow m e f fol)) v ∧ Below w.heap.size w w'
/-- What stays while Predict works. -/
structure PrK (w w3 : World) (p be bf : Nat) (bs : List Nat) (m n : Nat) (g : Gram) (A : Option Addr) (c cf : Nat) (e : List Bool) (f : List (List Bool)) (S : Nat → Prop) (bf3 : Nat) (bs3 : List Nat) (cf3 : Nat) (fol : List (List Bool)) (wr : World) : Prop where
  bel : Below w.heap.size w wr
  sz : w.heap.size ≤ w3.heap.size
  sets : SetsM wr p be bf bs m n g.terms g.nons g.start (.slice A g.rules.length c) cf e f
  old : ∀ b ∈ p :: be :: bf :: bs, b < w3.heap.size
  rows : RowsM wr bf3 bs3 (m + 1) n cf3 fol
  rold : ∀ b ∈ bf3 :: bs3, b < w3.heap.size
  gb : Blk' wr w.heap.size 35 #[.int .i64 g.terms, .int .i64 g.nons, .int .i64 g.start, .slice A g.rules.length c]
  gl : w.heap.size < w3.heap.size
  els : Els wr S g.rules A
  sl : ∀ b, S b → b < w3.heap.size
  gz : w3.heap.size ≤ wr.heap.size
section
variable {w w3 : World} {p be bf : Nat} {bs : List Nat} {m n : Nat} {g : Gram} {A : Option Addr} {c cf : Nat} {e : List Bool} {f : List (List Bool)} {S : Nat → Prop} {bf3 : Nat} {bs3 : List Nat} {cf3 : Nat} {fol : List (List Bool)} {wr wr' : World}
theorem PrK.kept {X : Nat → Prop} (h : PrK w w3 p be bf bs m n g A c cf e f S bf3 bs3 cf3 fol wr) (k : Kept X wr wr') (hX : ∀ b, X b → w3.heap.size ≤ b) : PrK w w3 p be bf bs m n g A c cf e f S bf3 bs3 cf3 fol wr' :=
  ⟨h.bel.trans (k.to_below (fun b hb => Nat.le_trans h.sz (hX b hb)) h.bel.size), h.sz, h.sets.kept k (fun b hb hx => by have := h.old b hb; have := hX b hx; omega), h.old, h.rows.kept k (fun b hb hx => by have := h.rold b hb; have := hX b hx; omega), h.rold, h.gb.kept k (fun hx => by have := h.gl; have := hX _ hx; omega), h.gl, h.els.kept k (fun b hb hx => by have := h.sl b hb; have := hX b hx; omega), h.sl, Nat.le_trans h.gz k.size⟩
theorem PrK.below (h : PrK w w3 p be bf bs m n g A c cf e f S bf3 bs3 cf3 fol wr) (k : Below wr.heap.size wr wr') : PrK w w3 p be bf bs m n g A c cf e f S bf3 bs3 cf3 fol wr' :=
  h.kept (Kept.of_below (fun _ => False) k) (fun _ h => h.elim)
end
def PrL (w w3 : World) (p be bf : Nat) (bs : List Nat) (m n : Nat) (g : Gram) (A : Option Addr) (c cf : Nat) (e : List Bool) (f : List (List Bool)) (S : Nat → Prop) (bf3 : Nat) (bs3 : List Nat) (cf3 : Nat) (fol : List (List Bool)) (sv i : Value) (wr : World) : Prop :=
  ∃ (j : Nat) (v : Value), j ≤ g.rules.length ∧ i = .int .i64 j ∧ sv = v ∧ Own wr (fun _ => False) w3.heap.size 37 v ((g.rules.take j).map (predRow m e f fol)) ∧ PrK w w3 p be bf bs m n g A c cf e f S bf3 bs3 cf3 fol wr

set_option maxRecDepth 100000 in
set_option maxHeartbeats 2000000 in
theorem predict_any (g : Gram) (m n : Nat) (A : Option Addr) (c : Nat) (S : Nat → Prop) (w : World) (hgt : g.terms = (m : Int)) (hgn : g.nons = (n : Int)) (hck : checkI g = 0) (hlc : g.rules.length ≤ c) (hc : c ≤ 9223372036854775807) (hA : Els w S g.rules A) (hS : ∀ b, S b → b < w.heap.size) :
    Calls Tryd.prog 42 #[.agg #[.int .i64 g.terms, .int .i64 g.nons, .int .i64 g.start, .slice A g.rules.length c]] w (RetPre g m n w) := by
  have hv := validG_of hck
  obtain ⟨gt, gn, gs, rs⟩ := g
  dsimp only at *
  have hmm : m ≤ 100 ∧ 1 ≤ n ∧ n ≤ 100 := by have := hv.t8; have := hv.n1; have := hv.n10; dsimp only at *; omega
  have HV := Lib.hid hv
  have HT := Lib.hid (And.intro hgt hgn)
  have HA := Lib.hid hA
  have HS := Lib.hid hS
  have HC := Lib.hid hck
  have HB0 : Hid (Below w.heap.size w (w.alloc (.cells #[.int .i64 gt, .int .i64 gn, .int .i64 gs, .slice A rs.length c] 35))) := Lib.hid ((Below.refl _ _).alloc (Nat.le_refl _) _)
  clear hv hgt hgn hA hS hck
  go_enter Tryd.func42, Tryd.ntmps42
  go_wp2_with fail
  refine (check_any ⟨gt, gn, gs, rs⟩ A c S _ hlc hc (HA.out.below HB0.out)).mono ?_
  rintro e w1 ⟨rfl, hb1⟩
  rw [HC.out]
  have hG := (Blk'.new w 35 #[.int .i64 gt, .int .i64 gn, .int .i64 gs, .slice A rs.length c]).below hb1 (by simp)
  have g0 : w1.cell? ⟨w.heap.size, 0, none⟩ = some (.int .i64 gt) := hG.cell 0
  have g1 : w1.cell? ⟨w.heap.size, 1, none⟩ = some (.int .i64 gn) := hG.cell 1
  have g2 : w1.cell? ⟨w.heap.size, 2, none⟩ = some (.int .i64 gs) := hG.cell 2
  have g3 : w1.cell? ⟨w.heap.size, 3, none⟩ = some (.slice A rs.length c) := hG.cell 3
  have HB1 := Lib.hid (bthen HB0.out hb1 (by simp))
  have HG1 := Lib.hid hG
  clear hb1 hG
  go_wp2_with fail
  refine (make_any ⟨gt, gn, gs, rs⟩ m n A c S _ HT.out.1 HT.out.2 hmm.1 hmm.2 hlc hc (HA.out.below HB1.out) (fun b hb => by have := HS.out b hb; have := HB1.out.size; omega) (by have := HV.out.len; dsimp only at *; omega) (fun q hq => by have h := HV.out.rules q hq; have e1 := HT.out.1; have e2 := HT.out.2; dsimp only at *; rw [← e1, ← e2]; exact ⟨h.1, h.2.1, h.2.2.2⟩)).mono ?_
  rintro e w2 ⟨p, be, bf, bs, cf, e, f, k, rfl, hM, hsh, hit, hfx, hge, hb2⟩
  have H2 := Lib.hid (And.intro hM (And.intro (Stable.mk (g := ⟨gt, gn, gs, rs⟩) hsh ⟨k, hit⟩ hfx) (And.intro hge (bthen HB1.out hb2 HB1.out.size))))
  have hz := HB1.out.size
  have HG2 := Lib.hid (HG1.out.below hb2 HG1.out.lt)
  clear hM hsh hit hfx hge hb2 g0 g1 g2 g3
  go_wp2_with fail
  refine (follow_any p be bf bs m n ⟨gt, gn, gs, rs⟩ A c cf e f S w2 HC.out HT.out.1 HT.out.2 H2.out.1 hlc hc (HA.out.below H2.out.2.2.2) (fun b hb => Nat.lt_of_lt_of_le (HS.out b hb) H2.out.2.2.2.size)).mono ?_
  rintro en w3 ⟨inn, bf3, bs3, cf3, fol, rfl, hfix, hR, hcl, hle, hbs, hb3⟩
  have H3 := Lib.hid (And.intro hfix (And.intro hR (And.intro hcl (And.intro hle (And.intro hbs hb3)))))
  clear hfix hR hcl hle hbs hb3
  have hwz : w.heap.size ≤ w3.heap.size := by have := H2.out.2.2.2.size; have := H3.out.2.2.2.2.2.size; omega
  have HK3 : Hid (PrK w w3 p be bf bs m n ⟨gt, gn, gs, rs⟩ A c cf e f S bf3 bs3 cf3 fol w3) := Lib.hid
    ⟨bthen H2.out.2.2.2 H3.out.2.2.2.2.2 H2.out.2.2.2.size, hwz, H2.out.1.below H3.out.2.2.2.2.2, fun b hb => (H2.out.1.below H3.out.2.2.2.2.2).lt b hb, H3.out.2.1, fun b hb => H3.out.2.1.lt b hb, HG2.out.below H3.out.2.2.2.2.2 HG2.out.lt, (HG2.out.below H3.out.2.2.2.2.2 HG2.out.lt).lt, (HA.out.below H2.out.2.2.2).below H3.out.2.2.2.2.2, fun b hb => Nat.lt_of_lt_of_le (HS.out b hb) hwz, Nat.le_refl _⟩
  have g3 : w3.cell? ⟨w.heap.size, 3, none⟩ = some (.slice A rs.length c) := HK3.out.gb.cell 3
  have zg : w.heap.size < w3.heap.size := HK3.out.gl
  have HRL := Lib.hid (show rs.length ≤ 32 from HV.out.len)
  have hrl9 : rs.length ≤ 9223372036854775807 := by have := HRL.out; omega
  go_wp2_with fail
  go_loopw [7, 24] (fun sv i wr => PrL w w3 p be bf bs m n ⟨gt, gn, gs, rs⟩ A c cf e f S bf3 bs3 cf3 fol sv i wr) (fun _ i _ => rs.length - (intOf i).toNat)
  case atStart => exact ⟨0, _, Nat.zero_le _, rfl, rfl, Own.nil _ _ _ _, HK3.out⟩
  case round =>
    obtain ⟨wz, hwz'⟩ : ∃ wz : World, wz = wr := ⟨_, rfl⟩
    subst hwz'
    obtain ⟨j, v, hj, rfl, rfl, hown, hK⟩ := hrel
    dsimp only at hj hown
    have HO := Lib.hid hown
    have HK := Lib.hid hK
    have HZ := Lib.hid (And.intro hK.gz hK)
    clear hown hK g3 zg
    by_cases hlt : j < rs.length
    · obtain ⟨q, hq⟩ := get_some hlt
      obtain ⟨bq, oq, Aq, cq, eA, hSb, hbs, hi, hrc, hcr, hEr, hc0, hc1⟩ := HK.out.els.rule hq
      have hr := HV.out.rules q (List.mem_of_getElem? hq)
      have HQ := Lib.hid (And.intro hq hr)
      obtain ⟨ql, qr⟩ := q
      dsimp only at hi hrc hcr hEr hc0 hc1 hr
      have hql0 : 0 ≤ ql := hr.1
      have hql1 : ql < gn := hr.2.1
      have hin : ∀ y ∈ qr, 0 ≤ y.n ∧ if y.term then y.n < (m : Int) else y.n < (n : Int) := fun y hy => by have h := hr.2.2.2 y hy; rw [HT.out.1, HT.out.2] at h; exact h
      have hqln : ql.toNat < n := by have := HT.out.2; omega
      have hqln2 : ql < (n : Int) := by have := HT.out.2; omega
      have HIn := Lib.hid hin
      have hj0 : (0 : Int) ≤ (j : Int) := by omega
      have hj1 : (j : Int) < (rs.length : Int) := by omega
      have hba : Below wz.heap.size wz (wz.alloc (.cells #[.int .i64 ql, .slice Aq qr.length cq] 72)) := (Below.refl _ _).alloc (Nat.le_refl _) _
      have H4 := Lib.hid (And.intro hba (And.intro (HK.out.sets.below hba) (And.intro (hEr.below hba) (Blk'.new wz 72 #[.int .i64 ql, .slice Aq qr.length cq]))))
      have HSz : Hid (∀ b, S b → b < (wz.alloc (.cells #[.int .i64 ql, .slice Aq qr.length cq] 72)).heap.size) := Lib.hid (fun b hb => by have := HK.out.sl b hb; have := HK.out.gz; simp; omega)
      obtain ⟨fr, em, hof⟩ : ∃ fr em, ofFrom e f (List.replicate m false) qr = (fr, em) := ⟨_, _, rfl⟩
      have hfl : fr.length = m := by have h := ofFrom_len e f qr (List.replicate m false); rw [hof] at h; simpa using h
      have HOf := Lib.hid (And.intro hof hfl)
      have HLn := Lib.hid (show (((rs.take j).map (predRow m e f fol)).length = j) by rw [List.length_map, List.length_take]; omega)
      have hj32 : j < 32 := by have := HRL.out; omega
      obtain ⟨bl, hbl⟩ := get_some (show ql.toNat < bs3.length by rw [HK.out.rows.blen]; exact hqln)
      obtain ⟨lr, hlr⟩ := get_some (show ql.toNat < fol.length by rw [HK.out.rows.flen]; exact hqln)
      have HL := Lib.hid (And.intro hbl (And.intro hlr (HK.out.rows.rows _ _ _ hbl hlr).2))
      have hblw : bl < w3.heap.size := HK.out.rold bl (by simp [List.mem_of_getElem? hbl])
      subst eA
      clear hq hr hi hEr hin hba hof hfl hbl hlr
      go_wp2_with fail
      refine (setsOf_any p be bf bs m n gt gn gs _ cf e f qr Aq cq S _ H4.out.2.1 HT.out.1 (by omega) (by omega) hrc hcr H4.out.2.2.1 HSz.out HIn.out).mono ?_
      rintro en w4 ⟨b0, rfl, hb0, hB0, hb4⟩
      rw [HOf.out.1] at hB0 ⊢
      have hb0' : wz.heap.size < b0 := by simp at hb0; omega
      have H5 := Lib.hid (And.intro (H4.out.1.trans (hb4.mono (by simp))) (H4.out.2.2.2.below hb4 (by simp)))
      have hO5 : Own (w4.alloc (.cells #[.bool false] 4)) (fun _ => False) (wz.heap.size + 1) 4 (.slice (some ⟨b0, 0, none⟩) m m) fr := by
        have h := own_of_blk (fun _ => False) (base := wz.heap.size + 1) (hB0.alloc (.cells #[.bool false] 4)) (by omega) (by rw [HOf.out.2]; omega)
        rw [HOf.out.2] at h
        exact h
      have HO5 := Lib.hid hO5
      have hb40 : b0 < w4.heap.size := hB0.lt
      clear hB0 hb0 hb4 hO5
      obtain ⟨Av, cv, ev, hav1, hav2, _⟩ := HO.out.form
      rw [HLn.out] at ev hav1
      subst ev
      cases em
      · have HPd := Lib.hid (show predRow m e f fol ⟨ql, qr⟩ = fr ++ [false] by simp only [predRow, HOf.out.1]; rfl)
        go_wp2_with (first | (at_builtin; refine wpList_own1 _ rfl _ _ elemBool rfl rfl HO5.out false [.bool false] rfl (At.new w4 [.bool false] 4) rfl (by rw [HOf.out.2]; omega) (by rw [HOf.out.2]; omega) (by have := H5.out.1.size; simp; omega) ?_; intro v5 w5 hown5 hg5 hat5; obtain ⟨g, cap, z, hv5, hgb, hgw, hgc, hgm, hBg⟩ := own_slack hown5 (by simp); rw [snoc_len, HOf.out.2] at hv5 hgc; subst hv5; have hk5 : Kept (fun b => b = b0) wz w5 := ((Kept.of_below _ H5.out.1).alloc _).grown hg5 (fun k hk => .inl (by have hk' : some b0 = some k := hk; injection hk' with hk'; exact hk'.symm)); have H6 := Lib.hid (And.intro (hk5.to_below (B := wz.heap.size) (fun b hb => by omega) (Nat.le_refl _)) (And.intro hBg ((H5.out.2.alloc (.cells #[.bool false] 4)).grown hg5 (fun e1 => by have e2 : some wz.heap.size = some b0 := e1; injection e2 with e2; omega)))); clear hown5 hg5 hat5 hBg hk5; have q50 : w5.cell? ⟨wz.heap.size, 0, none⟩ = some (.int .i64 ql) := H6.out.2.2.cell 0; have o50 : w5.cell? ⟨bf3, ql.toNat, none⟩ = some (.slice (some ⟨bl, 0, none⟩) (m + 1) (m + 1)) := (HZ.out.2.rows.below H6.out.1).outer _ _ HL.out.1; have zq5 : wz.heap.size < w5.heap.size := H6.out.2.2.lt; have HP : Hid (Below wz.heap.size wz w5 ∧ Blk' w5 g 4 (bcells (predRow m e f fol ⟨ql, qr⟩) ++ z)) := Lib.hid ⟨H6.out.1, by rw [HPd.out]; exact H6.out.2.1⟩; have HPr := Lib.hid (show Els (w5.alloc (.cells #[.slice (some ⟨g, 0, none⟩) (m + 1) cap] 37)) (OwnT (fun _ => False) w3.heap.size (.slice Av j cv) (w5.alloc (.cells #[.slice (some ⟨g, 0, none⟩) (m + 1) cap] 37))) (predRow m e f fol ⟨ql, qr⟩) (some ⟨g, 0, none⟩) from els_slack (HP.out.2.alloc _) ⟨.inr (by have := HZ.out.1; omega), fun e1 => by have := (HO.out.block _ e1).2; omega, by have := HP.out.2.lt; simp; omega⟩); have HO6 := Lib.hid ((HO.out.below HP.out.1 (Nat.le_refl _)).alloc (.cells #[.slice (some ⟨g, 0, none⟩) (m + 1) cap] 37)); have HB6 := Lib.hid (HP.out.1.alloc HP.out.1.size (.cells #[.slice (some ⟨g, 0, none⟩) (m + 1) cap] 37))) | (at_builtin; refine wpList_own1 _ rfl _ _ elemBools rfl rfl HO6.out (predRow m e f fol ⟨ql, qr⟩) [.slice (some ⟨g, 0, none⟩) (m + 1) cap] rfl (At.new w5 [.slice (some ⟨g, 0, none⟩) (m + 1) cap] 37) ⟨some ⟨g, 0, none⟩, cap, by rw [predRow_len], by rw [predRow_len]; omega, by simp only [maxLen]; omega, HPr.out⟩ (by rw [HLn.out]; omega) (by rw [HLn.out]; omega) (by have := HZ.out.1; have := HB6.out.size; omega) ?_; intro v9 w9 hown9 hg9 hat9; have H9 := Lib.hid (And.intro hown9 hg9); clear hown9 hg9 hat9))
        go_roundw
        case rel =>
          refine ⟨j + 1, v9, hlt, by go_num, rfl, ?_, ?_⟩
          · show Own w9 _ _ _ v9 ((rs.take (j + 1)).map (predRow m e f fol))
            rw [take_snoc HQ.out.1, List.map_append]; exact H9.out.1
          · exact (HZ.out.2.below HB6.out).kept (X := fun b => (Value.slice Av j cv).ownBlock = some b) ((Kept.refl _ _).grown H9.out.2 (fun k hk => .inl hk)) (fun b hb => (HO.out.block b hb).1)
        case measure => simp [intOf]; omega
      · have HPd := Lib.hid (show predRow m e f fol ⟨ql, qr⟩ = orRow (fr ++ [false]) lr by simp only [predRow, HOf.out.1]; rw [List.getD_eq_getElem?_getD, HL.out.2.1]; rfl)
        go_wp2_with (at_builtin; refine wpList_own1 _ rfl _ _ elemBool rfl rfl HO5.out false [.bool false] rfl (At.new w4 [.bool false] 4) rfl (by rw [HOf.out.2]; omega) (by rw [HOf.out.2]; omega) (by have := H5.out.1.size; simp; omega) ?_; intro v5 w5 hown5 hg5 hat5; obtain ⟨g, cap, z, hv5, hgb, hgw, hgc, hgm, hBg⟩ := own_slack hown5 (by simp); rw [snoc_len, HOf.out.2] at hv5 hgc; subst hv5; have hk5 : Kept (fun b => b = b0) wz w5 := ((Kept.of_below _ H5.out.1).alloc _).grown hg5 (fun k hk => .inl (by have hk' : some b0 = some k := hk; injection hk' with hk'; exact hk'.symm)); have H6 := Lib.hid (And.intro (hk5.to_below (B := wz.heap.size) (fun b hb => by omega) (Nat.le_refl _)) (And.intro hBg ((H5.out.2.alloc (.cells #[.bool false] 4)).grown hg5 (fun e1 => by have e2 : some wz.heap.size = some b0 := e1; injection e2 with e2; omega)))); clear hown5 hg5 hat5 hBg hk5; have q50 : w5.cell? ⟨wz.heap.size, 0, none⟩ = some (.int .i64 ql) := H6.out.2.2.cell 0; have o50 : w5.cell? ⟨bf3, ql.toNat, none⟩ = some (.slice (some ⟨bl, 0, none⟩) (m + 1) (m + 1)) := (HZ.out.2.rows.below H6.out.1).outer _ _ HL.out.1; have zq5 : wz.heap.size < w5.heap.size := H6.out.2.2.lt)
        have HBl := Lib.hid ((HZ.out.2.rows.below H6.out.1).rows _ _ _ HL.out.1 HL.out.2.1).1
        have HEl := Lib.hid (els_of_blk (S := fun b => b = bl) (xs := lr) (lr.map fun x => [Value.bool x]) HBl.out (bcells_flat lr) (by simp) (by intro i x cs hi hc; simp [hi] at hc; subst hc; rfl) rfl)
        have hfl1 : (fr ++ [false]).length = m + 1 := by rw [snoc_len, HOf.out.2]
        have HFl := Lib.hid hfl1
        clear hfl1 q50 o50
        go_wp2_with fail
        refine (union_slack (fr ++ [false]) lr z g cap (some ⟨bl, 0, none⟩) (m + 1) (m + 1) (m + 1) (fun b => b = bl) _ HFl.out.symm HL.out.2.2.symm (by rw [HFl.out, HL.out.2.2]; exact Nat.le_refl _) (by rw [HL.out.2.2]; omega) H6.out.2.1 HEl.out (fun e1 => by have := HZ.out.1; have e2 : g = bl := e1; omega)).mono ?_
        rintro en w6 ⟨he6, hg6, hb6⟩
        subst he6
        have HP : Hid (Below wz.heap.size wz w6 ∧ Blk' w6 g 4 (bcells (predRow m e f fol ⟨ql, qr⟩) ++ z)) := Lib.hid ⟨H6.out.1.grown hg6 H6.out.1.size (fun k hk => by injection hk with hk; omega), by rw [HPd.out]; exact hb6⟩
        clear hg6 hb6
        have HPr := Lib.hid (show Els (w6.alloc (.cells #[.slice (some ⟨g, 0, none⟩) (m + 1) cap] 37)) (OwnT (fun _ => False) w3.heap.size (.slice Av j cv) (w6.alloc (.cells #[.slice (some ⟨g, 0, none⟩) (m + 1) cap] 37))) (predRow m e f fol ⟨ql, qr⟩) (some ⟨g, 0, none⟩) from els_slack (HP.out.2.alloc _) ⟨.inr (by have := HZ.out.1; omega), fun e1 => by have := (HO.out.block _ e1).2; omega, by have := HP.out.2.lt; simp; omega⟩)
        have HO6 := Lib.hid ((HO.out.below HP.out.1 (Nat.le_refl _)).alloc (.cells #[.slice (some ⟨g, 0, none⟩) (m + 1) cap] 37))
        have HB6 := Lib.hid (HP.out.1.alloc HP.out.1.size (.cells #[.slice (some ⟨g, 0, none⟩) (m + 1) cap] 37))
        go_wp2_with (at_builtin; refine wpList_own1 _ rfl _ _ elemBools rfl rfl HO6.out (predRow m e f fol ⟨ql, qr⟩) [.slice (some ⟨g, 0, none⟩) (m + 1) cap] rfl (At.new w6 [.slice (some ⟨g, 0, none⟩) (m + 1) cap] 37) ⟨some ⟨g, 0, none⟩, cap, by rw [predRow_len], by rw [predRow_len]; omega, by simp only [maxLen]; omega, HPr.out⟩ (by rw [HLn.out]; omega) (by rw [HLn.out]; omega) (by have := HZ.out.1; have := HB6.out.size; omega) ?_; intro v9 w9 hown9 hg9 hat9; have H9 := Lib.hid (And.intro hown9 hg9); clear hown9 hg9 hat9)
        go_roundw
        case rel =>
          refine ⟨j + 1, v9, hlt, by go_num, rfl, ?_, ?_⟩
          · show Own w9 _ _ _ v9 ((rs.take (j + 1)).map (predRow m e f fol))
            rw [take_snoc HQ.out.1, List.map_append]; exact H9.out.1
          · exact (HZ.out.2.below HB6.out).kept (X := fun b => (Value.slice Av j cv).ownBlock = some b) ((Kept.refl _ _).grown H9.out.2 (fun k hk => .inl hk)) (fun b hb => (HO.out.block b hb).1)
        case measure => simp [intOf]; omega
    · have HT2 := Lib.hid (show (rs.take j).map (predRow m e f fol) = rs.map (predRow m e f fol) by rw [List.take_of_length_le (by omega)])
      have hvl := HO.out.vl
      rw [HT2.out] at hvl
      obtain ⟨Av, cv, ev, _⟩ := hvl.slice
      have HVl := Lib.hid (hvl.mono (S' := fun b => w.heap.size ≤ b ∧ b < wz.heap.size) (fun b hb => ⟨by have := hb.1; simp at this; omega, hb.2⟩))
      clear hvl
      subst ev
      go_wp2
      go_ret2
      exact ⟨e, f, inn, fol, _, rfl, H2.out.2.1, H3.out.1, H3.out.2.2.1, H3.out.2.2.2.1, HVl.out, HK.out.bel⟩
end Go.Proofs.YtbboceklkjfimaaDoor
