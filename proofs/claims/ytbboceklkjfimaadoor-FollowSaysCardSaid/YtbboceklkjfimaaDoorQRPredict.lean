/- Contract: parlref2.PredictOf: the rules' rows. -/
import Derived.Test.YtbboceklkjfimaaDoorQRFollow
namespace Go.Proofs.YtbboceklkjfimaaDoor
open Go.RowKit
set_option linter.unusedVariables false

structure PrH (g : Gram) (m n : Nat) (A : Option Addr) (c : Nat) (L : List Int) (fol : List (List Bool)) (nb bf : Nat) (bs : List Nat) (B : Nat) (w wr : World) : Prop where
  G : Blk' wr w.heap.size 35 #[.int .i64 (m : Int), .int .i64 (n : Int), .int .i64 g.start, .slice A g.rules.length c]
  Nb : Blk' wr nb 4 (bcells (nullB L))
  F : RowsM wr bf bs (m + 1) n n fol
  lt : w.heap.size < B ∧ nb < B ∧ (∀ b ∈ bf :: bs, b < B)
  bel : Below w.heap.size w wr
  size : B ≤ wr.heap.size
section
variable {g : Gram} {m n : Nat} {A : Option Addr} {c : Nat} {L : List Int} {fol : List (List Bool)} {nb bf : Nat} {bs : List Nat} {B : Nat} {w wr w' : World}
theorem PrH.kept {X : Nat → Prop} (h : PrH g m n A c L fol nb bf bs B w wr) (k : Kept X wr w') (hX : ∀ b, X b → B ≤ b) : PrH g m n A c L fol nb bf bs B w w' :=
  ⟨h.G.kept k (fun e => by have := hX _ e; have := h.lt.1; omega), h.Nb.kept k (fun e => by have := hX _ e; have := h.lt.2.1; omega),
    h.F.kept k (fun b hb e => by have := hX _ e; have := h.lt.2.2 b hb; omega), h.lt,
    bthen h.bel (k.to_below (B := w.heap.size) (fun b hb => by have := hX b hb; have := h.lt.1; omega) h.bel.size) (Nat.le_refl _), Nat.le_trans h.size k.size⟩
theorem PrH.below (h : PrH g m n A c L fol nb bf bs B w wr) (k : Below wr.heap.size wr w') : PrH g m n A c L fol nb bf bs B w w' :=
  h.kept (Kept.of_below (fun _ => False) k) (fun _ h => h.elim)
end
/-- The row on the way: of the places before t0 those of B are in. -/
def PP (R0 B : Nat → Prop) (t0 t : Nat) : Prop := R0 t ∨ (t < t0 ∧ B t)
theorem PP.far {R0 B : Nat → Prop} {t0 t : Nat} (h : t ≠ t0) : PP R0 B t0 t ↔ PP R0 B (t0 + 1) t := by
  unfold PP
  constructor
  · rintro (h | ⟨h, hq⟩)
    · exact .inl h
    · exact .inr ⟨by omega, hq⟩
  · rintro (h | ⟨h, hq⟩)
    · exact .inl h
    · exact .inr ⟨by omega, hq⟩
theorem PP.here {R0 B : Nat → Prop} {t0 : Nat} {x b : Bool} (hx : x = true ↔ PP R0 B t0 t0) (hb : b = true ↔ B t0) : (x || b) = true ↔ PP R0 B (t0 + 1) t0 := by
  rw [Bool.or_eq_true, hx, hb]
  unfold PP
  constructor
  · rintro ((h | ⟨h, hq⟩) | h)
    · exact .inl h
    · omega
    · exact .inr ⟨by omega, h⟩
  · rintro (h | ⟨h, hq⟩)
    · exact .inl (.inl h)
    · exact .inr hq
theorem slack_row {cur : List Bool} {z : Array Value} {w : World} {g t : Nat} (v : Bool) (h : Blk' w g 4 (bcells cur ++ z)) (ht : t < cur.length) : Blk' (w.setCell ⟨g, t, none⟩ (.bool v)) g 4 (bcells (cur.set t v) ++ z) := by
  have h1 := h.set_ t (.bool v)
  have e1 := slack_set (a := bcells cur) (z := z) (k := t) (v := .bool v) (by rw [bcells_size]; exact ht)
  rw [bcells_set] at e1
  rw [← e1]
  exact h1
def RpT (wz : World) (g : Nat) (z : Array Value) (m : Nat) (R0 B : Nat → Prop) (bR : Nat) (cells : Array Value) (i : Value) (wr : World) : Prop :=
  ∃ (t : Nat) (cur : List Bool), t ≤ m + 1 ∧ i = .int .i64 t ∧ RowIs (m + 1) (PP R0 B t) cur ∧ Blk' wr g 4 (bcells cur ++ z) ∧ Blk' wr bR 72 cells ∧ Below wz.heap.size wz wr
def RpJ (H : World → Prop) (g : Gram) (m B : Nat) (sv i : Value) (wr : World) : Prop :=
  ∃ (j : Nat) (v : Value) (rows : List (List Bool)), j ≤ g.rules.length ∧ i = .int .i64 j ∧ sv = v ∧ rows.length = j ∧ (∀ (k : Nat) (q : Rule) (row : List Bool), g.rules[k]? = some q → rows[k]? = some row → RowIs (m + 1) (PreR g m q) row) ∧ Own wr (fun _ => False) B 37 v rows ∧ H wr
def RetRPre (g : Gram) (m : Nat) (w : World) (e : Ending) (w' : World) : Prop :=
  ∃ (v : Value) (rows : List (List Bool)), e = .returned v ∧ rows.length = g.rules.length ∧ (∀ (k : Nat) (q : Rule) (row : List Bool), g.rules[k]? = some q → rows[k]? = some row → RowIs (m + 1) (PreR g m q) row) ∧ Vl w' (fun b => w.heap.size ≤ b ∧ b < w'.heap.size) rows v ∧ Below w.heap.size w w'

set_option maxRecDepth 100000 in
set_option maxHeartbeats 4000000 in
theorem rpredict_any (g : Gram) (m n : Nat) (A : Option Addr) (c : Nat) (S : Nat → Prop) (w : World) (L : List Int) (hgt : g.terms = (m : Int)) (hgn : g.nons = (n : Int)) (hck : checkI g = 0) (hlc : g.rules.length ≤ c) (hc : c ≤ 9223372036854775807) (hA : Els w S g.rules A) (hS : ∀ b, S b → b < w.heap.size) (hL : LFix g n L) :
    Calls Tryd.prog 44 #[.agg #[.int .i64 g.terms, .int .i64 g.nons, .int .i64 g.start, .slice A g.rules.length c]] w (RetRPre g m w) := by
  have hv := validG_of hck
  have hri := hv.rulesIn hgn
  have hsi := fun q hq s hs => hv.symIn hgt q hq s hs
  obtain ⟨gt, gn, gs, rs⟩ := g
  dsimp only at *
  subst hgt; subst hgn
  have hn : 1 ≤ n ∧ n ≤ 10 := by have := hv.n1; have := hv.n10; dsimp only at *; omega
  have hm : 1 ≤ m ∧ m ≤ 8 := by have := hv.t1; have := hv.t8; dsimp only at *; omega
  have hrl : rs.length ≤ 32 := hv.len
  have hm88 : m ≤ 8 := hm.2
  have hn100 : n ≤ 10 := hn.2
  have HN := Lib.hid hn
  have HRI := Lib.hid hri
  have HSI := Lib.hid hsi
  have HA := Lib.hid hA
  have HS := Lib.hid hS
  have HL := Lib.hid hL
  have HC := Lib.hid hck
  have hnl : (nullB L).length = n := by unfold nullB; rw [List.length_map]; exact hL.shape.len
  have HEq : Hid (∀ q ∈ rs, emptyB (nullB L) q.right = true ↔ Nuls ⟨(m : Int), (n : Int), gs, rs⟩ q.right) := Lib.hid (fun q hq => by
    rw [emptyB_iff]
    constructor
    · intro h s hs
      have h1 := h s hs
      exact ⟨h1.1, (hL.nullB hri (((hri q hq).2.2.2 s hs).2 h1.1)).1 h1.2⟩
    · intro h s hs
      have h1 := h s hs
      exact ⟨h1.1, (hL.nullB hri (((hri q hq).2.2.2 s hs).2 h1.1)).2 h1.2⟩)
  obtain ⟨w0, hw0⟩ : ∃ w0 : World, w0 = w.alloc (.cells #[.int .i64 (m : Int), .int .i64 (n : Int), .int .i64 gs, .slice A rs.length c] 35) := ⟨_, rfl⟩
  have hba : Below w.heap.size w w0 := by rw [hw0]; exact (Below.refl _ _).alloc (Nat.le_refl _) _
  have HBa := Lib.hid hba
  have HGa : Hid (Blk' w0 w.heap.size 35 #[.int .i64 (m : Int), .int .i64 (n : Int), .int .i64 gs, .slice A rs.length c]) := Lib.hid (by rw [hw0]; exact Blk'.new w _ _)
  have g0 : w0.cell? ⟨w.heap.size, 0, none⟩ = some (.int .i64 (m : Int)) := HGa.out.cell 0
  have g1 : w0.cell? ⟨w.heap.size, 1, none⟩ = some (.int .i64 (n : Int)) := HGa.out.cell 1
  have g2 : w0.cell? ⟨w.heap.size, 2, none⟩ = some (.int .i64 gs) := HGa.out.cell 2
  have g3 : w0.cell? ⟨w.heap.size, 3, none⟩ = some (.slice A rs.length c) := HGa.out.cell 3
  have zG := HGa.out.lt
  have HW0 := Lib.hid hw0
  clear hv hri hsi hA hS hL hba hn hm hw0 hck
  go_enter Tryd.func44, Tryd.ntmps44
  go_upto_region 1 with (fail)
  rw [← HW0.out]
  go_region_held3 (fun w' => w'.cell? ⟨w.heap.size, 0, none⟩ = some (.int .i64 (m : Int)) ∧ w'.cell? ⟨w.heap.size, 1, none⟩ = some (.int .i64 (n : Int)) ∧ w'.cell? ⟨w.heap.size, 2, none⟩ = some (.int .i64 gs) ∧ w'.cell? ⟨w.heap.size, 3, none⟩ = some (.slice A rs.length c)) (go_keep)
    (first
    | (go_at_call 22
       refine (rnulls_any ⟨(m : Int), (n : Int), gs, rs⟩ n A c S _ L rfl HN.out hlc hc (HA.out.below HBa.out.drew) (fun b hb => by have := HS.out b hb; have := HBa.out.size; simp; omega) (by show rs.length ≤ 1000; omega) HRI.out HL.out).mono ?_
       rintro e w1 ⟨nb, rfl, hNb, hNge, hb1⟩
       have H1 := Lib.hid (((Below.refl w0.heap.size w0).drew).trans hb1)
       have HN1 := Lib.hid (And.intro hNb hNge)
       have a0 := (H1.out.cell (p := ⟨w.heap.size, 0, none⟩) zG).trans g0
       have a1 := (H1.out.cell (p := ⟨w.heap.size, 1, none⟩) zG).trans g1
       have a2 := (H1.out.cell (p := ⟨w.heap.size, 2, none⟩) zG).trans g2
       have a3 := (H1.out.cell (p := ⟨w.heap.size, 3, none⟩) zG).trans g3
       clear hNb hNge hb1)
    | (go_at_call 43
       refine (rfollow_any ⟨(m : Int), (n : Int), gs, rs⟩ m n A c S _ L rfl rfl HC.out hlc hc (HA.out.below (bthen HBa.out H1.out HBa.out.size)) (fun b hb => by have := HS.out b hb; have := HBa.out.size; have := H1.out.size; omega) HL.out).mono ?_
       rintro e w2 ⟨bf, bs, fol, rfl, hR2, hT2, hbs2, hb2⟩
       have H2 := Lib.hid (bthen H1.out hb2 H1.out.size)
       have HR2 := Lib.hid (And.intro hR2 hT2)
       have HN2 := Lib.hid (HN1.out.1.below hb2 HN1.out.1.lt)
       have b0 := (H2.out.cell (p := ⟨w.heap.size, 0, none⟩) zG).trans g0
       have b1 := (H2.out.cell (p := ⟨w.heap.size, 1, none⟩) zG).trans g1
       have b2 := (H2.out.cell (p := ⟨w.heap.size, 2, none⟩) zG).trans g2
       have b3 := (H2.out.cell (p := ⟨w.heap.size, 3, none⟩) zG).trans g3
       clear hR2 hT2 hbs2 hb2))
  have HT2 := Lib.hid HR2.out.2
  have H3 : Hid (PrH ⟨(m : Int), (n : Int), gs, rs⟩ m n A c L fol nb bf bs w2.heap.size w w2) := Lib.hid ⟨HGa.out.below H2.out HGa.out.lt, HN2.out, HR2.out.1,
    ⟨(HGa.out.below H2.out HGa.out.lt).lt, HN2.out.lt, HR2.out.1.lt⟩, bthen HBa.out H2.out HBa.out.size, Nat.le_refl _⟩
  have hrl9 : rs.length ≤ 9223372036854775807 := by omega
  clear a0 a1 a2 a3 b0 b1 b2 g0 g1 g2 g3 HR2 HN1 HN2 H1 H2 HBa HGa HW0
  have zG2 := H3.out.G.lt
  go_wp2_with fail
  clear b3 zG2
  go_loopw [5, 18] (fun sv i wr => RpJ (PrH ⟨(m : Int), (n : Int), gs, rs⟩ m n A c L fol nb bf bs w2.heap.size w) ⟨(m : Int), (n : Int), gs, rs⟩ m w2.heap.size sv i wr) (fun _ i _ => rs.length - (intOf i).toNat)
  case atStart => exact ⟨0, _, [], Nat.zero_le _, rfl, rfl, rfl, by simp, Own.nil _ _ _ _, H3.out⟩
  case round =>
    obtain ⟨wz, hwz'⟩ : ∃ wz : World, wz = wr := ⟨_, rfl⟩
    subst hwz'
    obtain ⟨j, v, rows, hj, rfl, rfl, hrows, hRI, hown, hK⟩ := hrel
    dsimp only at hj hRI
    have HO := Lib.hid hown
    have HK := Lib.hid hK
    have HLn := Lib.hid hrows
    have HRs := Lib.hid hRI
    clear hown hK hrows hRI
    by_cases hlt : j < rs.length
    · obtain ⟨q, hq⟩ := get_some hlt
      obtain ⟨bq, oq, Aq, cq, eA, hSb, hbs, hi, hrc, hcr, hEr, hc0, hc1⟩ := (HA.out.belowB HK.out.bel HS.out).rule hq
      subst eA
      obtain ⟨hl0, hl1, hr4, hsy⟩ := HRI.out q (List.mem_of_getElem? hq)
      have HQ := Lib.hid (And.intro hq (And.intro hsy (List.mem_of_getElem? hq)))
      obtain ⟨ql, qr⟩ := q
      dsimp only at hi hrc hcr hEr hc0 hc1 hl0 hl1 hr4 hsy
      obtain ⟨y0, rfl⟩ : ∃ y0 : Nat, ql = (y0 : Int) := ⟨ql.toNat, by omega⟩
      have hy0 : y0 < n := by omega
      have hj0 : (0 : Int) ≤ (j : Int) := by omega
      have hj32 : j < 32 := by omega
      obtain ⟨w4, hw4⟩ : ∃ w4 : World, w4 = wz.alloc (.cells #[.int .i64 (y0 : Int), .slice Aq qr.length cq] 72) := ⟨_, rfl⟩
      have hb4 : Below wz.heap.size wz w4 := by rw [hw4]; exact (Below.refl _ _).alloc (Nat.le_refl _) _
      have HQ4 : Hid (Blk' w4 wz.heap.size 72 #[.int .i64 (y0 : Int), .slice Aq qr.length cq]) := Lib.hid (by rw [hw4]; exact Blk'.new _ _ _)
      have H4 := Lib.hid hb4
      have HE := Lib.hid hEr
      have HKz := Lib.hid (And.intro HK.out.size HK.out)
      have hHG := (HK.out.below hb4).G
      have k0 : w4.cell? ⟨w.heap.size, 0, none⟩ = some (.int .i64 (m : Int)) := hHG.cell 0
      have k1 : w4.cell? ⟨w.heap.size, 1, none⟩ = some (.int .i64 (n : Int)) := hHG.cell 1
      have k2 : w4.cell? ⟨w.heap.size, 2, none⟩ = some (.int .i64 gs) := hHG.cell 2
      have k3 : w4.cell? ⟨w.heap.size, 3, none⟩ = some (.slice (some ⟨bq, oq, none⟩) rs.length c) := hHG.cell 3
      have q1 : w4.cell? ⟨wz.heap.size, 1, none⟩ = some (.slice Aq qr.length cq) := HQ4.out.cell 1
      have z4 : wz.heap.size < w4.heap.size := HQ4.out.lt
      have zG4 := hHG.lt
      have hz4 := hb4.size
      obtain ⟨bl, hbl⟩ := get_some (show y0 < bs.length by rw [HK.out.F.blen]; exact hy0)
      obtain ⟨lr, hlr⟩ := get_some (show y0 < fol.length by rw [HK.out.F.flen]; exact hy0)
      have HLr := Lib.hid (And.intro hbl (And.intro hlr (And.intro (HK.out.F.rows _ _ _ hbl hlr).2 (HT2.out y0 lr hlr))))
      have HW4 := Lib.hid hw4
      clear hq hsy hi hEr hw4 hb4 hHG hbl hlr HK
      go_upto_region 6 with (fail)
      rw [← HW4.out]
      go_wp2_with fail
      refine (rfirstOf_any ⟨(m : Int), (n : Int), gs, rs⟩ m n (some ⟨bq, oq, none⟩) c S _ L qr Aq cq _ S rfl rfl HC.out hlc hc (HA.out.belowB (HKz.out.2.below H4.out).bel HS.out) (fun b hb => by have := HS.out b hb; have := (HKz.out.2.below H4.out).bel.size; omega) HL.out rfl (by omega) (fun s hs => HSI.out _ HQ.out.2.2 s hs) hrc hcr (HE.out.below H4.out) (fun b hb => by have := HS.out b hb; have := (HKz.out.2.below H4.out).bel.size; omega)).mono ?_
      rintro en w5 ⟨b0, fr, rfl, hfr, hB0, hge0, hb5⟩
      have HFr := Lib.hid hfr
      have hfl : fr.length = m := hfr.1
      have H5 := Lib.hid (And.intro (bthen H4.out hb5 H4.out.size) (HQ4.out.below hb5 HQ4.out.lt))
      have hb0' : wz.heap.size < b0 := by omega
      have hO5 : Own (w5.alloc (.cells #[.bool false] 4)) (fun _ => False) (wz.heap.size + 1) 4 (.slice (some ⟨b0, 0, none⟩) m m) fr := by
        have h := own_of_blk (fun _ => False) (base := wz.heap.size + 1) (hB0.alloc (.cells #[.bool false] 4)) (by omega) (by rw [hfl]; omega)
        rw [hfl] at h
        exact h
      have HO5 := Lib.hid hO5
      have hb50 : b0 < w5.heap.size := hB0.lt
      obtain ⟨Av, cv, ev, hav1, hav2, _⟩ := HO.out.form
      rw [HLn.out] at ev hav1
      subst ev
      have HFl := Lib.hid hfl
      clear hfr hB0 hge0 hb5 hO5 k0 k1 k2 k3 q1 hfl
      go_wp2_with (at_builtin; (refine wpList_own1 _ rfl _ _ elemBool rfl rfl HO5.out false [.bool false] rfl (At.new w5 [.bool false] 4) rfl (by rw [HFl.out] <;> omega) (by rw [HFl.out] <;> omega) (by have := H5.out.1.size; simp <;> omega) ?_); (intro v6 w6 hown6 hg6 hat6); (obtain ⟨g, cap, z, hv6, hgb, hgw, hgc, hgm, hBg⟩ := own_slack hown6 (by simp)); (rw [snoc_len, HFl.out] at hv6 hgc); (subst hv6); (have hk6 : Kept (fun b => b = b0) wz w6 := ((Kept.of_below _ H5.out.1).alloc _).grown hg6 (fun k hk => .inl (by have hk' : some b0 = some k := hk; injection hk' with hk'; exact hk'.symm))); (have H6 := Lib.hid (And.intro (hk6.to_below (B := wz.heap.size) (fun b hb => by omega) (Nat.le_refl _)) (And.intro hBg ((H5.out.2.alloc (.cells #[.bool false] 4)).grown hg6 (fun e1 => by have e2 : some wz.heap.size = some b0 := e1; injection e2 with e2; omega))))); (clear hown6 hg6 hat6 hBg hk6); (have q60 : w6.cell? ⟨wz.heap.size, 0, none⟩ = some (.int .i64 (y0 : Int)) := H6.out.2.2.cell 0); (have o60 : w6.cell? ⟨bf, y0, none⟩ = some (.slice (some ⟨bl, 0, none⟩) (m + 1) (m + 1)) := (HKz.out.2.below H6.out.1).F.outer _ _ HLr.out.1); (have zq6 : wz.heap.size < w6.heap.size := H6.out.2.2.lt); (have zo6 := (HKz.out.2.below H6.out.1).F.bflt); (have hy00 : (0 : Int) ≤ (y0 : Int) := by omega); (have hy09 : (y0 : Int) < (n : Int) := by omega))
      have HR0 : Hid (RowIs (m + 1) (PP (fun t => t < m ∧ FirstL ⟨(m : Int), (n : Int), gs, rs⟩ m qr t) (fun t => Nuls ⟨(m : Int), (n : Int), gs, rs⟩ qr ∧ FolR ⟨(m : Int), (n : Int), gs, rs⟩ m y0 t) 0) (fr ++ [false])) := Lib.hid ⟨by rw [snoc_len, HFl.out], fun t ht => by
        unfold PP
        by_cases e : t < m
        · rw [List.getElem?_append_left (by rw [HFl.out]; exact e), HFr.out.2 t e]
          exact ⟨fun h => .inl ⟨e, h⟩, fun h => h.elim (fun h => h.2) (fun h => absurd h.1 (by omega))⟩
        · rw [List.getElem?_append_right (by rw [HFl.out]; omega), show t - fr.length = 0 from by rw [HFl.out]; omega]
          exact ⟨fun h => by simp at h, fun h => h.elim (fun h => absurd h.1 e) (fun h => absurd h.1 (by omega))⟩⟩
      clear q60 o60 zo6
      go_loopw [34] (fun i wr => RpT wz g z m (fun t => t < m ∧ FirstL ⟨(m : Int), (n : Int), gs, rs⟩ m qr t) (fun t => Nuls ⟨(m : Int), (n : Int), gs, rs⟩ qr ∧ FolR ⟨(m : Int), (n : Int), gs, rs⟩ m y0 t) wz.heap.size #[.int .i64 (y0 : Int), .slice Aq qr.length cq] i wr) (fun i _ => m + 1 - (intOf i).toNat)
      case atStart => exact ⟨0, _, Nat.zero_le _, rfl, HR0.out, H6.out.2.1, H6.out.2.2, H6.out.1⟩
      case round =>
        obtain ⟨wt, hwt⟩ : ∃ wt : World, wt = wr := ⟨_, rfl⟩
        subst hwt
        obtain ⟨t, cur, ht, rfl, hcur, hBg, hBR, hbt⟩ := hrel
        have HCur := Lib.hid hcur
        have HBg := Lib.hid hBg
        have HBR := Lib.hid hBR
        have HBt := Lib.hid hbt
        clear hcur hBg hBR hbt
        by_cases htm : t < m + 1
        · obtain ⟨x, hx⟩ := get_some (show t < cur.length by rw [HCur.out.1]; exact htm)
          obtain ⟨is, his⟩ := get_some (show t < lr.length by rw [HLr.out.2.2.1]; exact htm)
          have hrB := (HKz.out.2.below HBt.out).F.rows _ _ _ HLr.out.1 HLr.out.2.1
          have ht0 : (0 : Int) ≤ (t : Int) := by omega
          have ht9 : (t : Int) < (m : Int) + 1 := by omega
          have c0 : wt.cell? ⟨bl, t, none⟩ = some (.bool is) := (hrB.1.cell _).trans (bcells_get his)
          have c1 : wt.cell? ⟨g, t, none⟩ = some (.bool x) := (HBg.out.cell t).trans ((slack_get (by rw [bcells_size, HCur.out.1]; exact htm)).trans (bcells_get hx))
          have f1 := HBg.out.frozen t
          have c2 : wt.cell? ⟨wz.heap.size, 1, none⟩ = some (.slice Aq qr.length cq) := HBR.out.cell 1
          have z0 := hrB.1.lt
          have z1 := HBg.out.lt
          have z2 := HBR.out.lt
          have hgz : wz.heap.size < g := by omega
          have HV : Hid (∀ b : Bool, (b = true ↔ (Nuls ⟨(m : Int), (n : Int), gs, rs⟩ qr ∧ FolR ⟨(m : Int), (n : Int), gs, rs⟩ m y0 t)) → ∀ W : World, Below wt.heap.size wt W → RpT wz g z m (fun t => t < m ∧ FirstL ⟨(m : Int), (n : Int), gs, rs⟩ m qr t) (fun t => Nuls ⟨(m : Int), (n : Int), gs, rs⟩ qr ∧ FolR ⟨(m : Int), (n : Int), gs, rs⟩ m y0 t) wz.heap.size #[.int .i64 (y0 : Int), .slice Aq qr.length cq] (.int .i64 ((t + 1 : Nat) : Int)) (W.setCell ⟨g, t, none⟩ (.bool (x || b)))) := Lib.hid (fun b hb W hW => by
            have hk : Kept (fun b => b = g) W (W.setCell ⟨g, t, none⟩ (.bool (x || b))) := (Kept.refl (fun b => b = g) W).setCell (p := ⟨g, t, none⟩) (.inl rfl) _
            refine ⟨t + 1, cur.set t (x || b), by omega, rfl, HCur.out.setAt htm (fun t' _ hne => PP.far hne) (PP.here ?_ hb), slack_row _ (HBg.out.below hW HBg.out.lt) (by rw [HCur.out.1]; exact htm), (HBR.out.below hW HBR.out.lt).kept hk (by omega), bthen (bthen HBt.out hW HBt.out.size) (hk.to_below (B := wz.heap.size) (fun b hb => by omega) (by have := HBt.out.size; have := hW.size; omega)) (Nat.le_refl _)⟩
            have h := HCur.out.2 t htm
            rw [hx] at h
            rw [← h]
            simp)
          have HIs : Hid (is = true ↔ FolR ⟨(m : Int), (n : Int), gs, rs⟩ m y0 t) := Lib.hid (by
            have h := HLr.out.2.2.2.2 t htm
            rw [his] at h
            rw [← h]
            simp)
          clear hx his hrB
          cases x
          · cases is
            · have HD := Lib.hid (HV.out false ⟨fun h => (by cases h), fun h => HIs.out.2 h.2⟩ _ (Below.refl _ _))
              go_wp2_with fail
              go_roundw
              case rel => exact HD.out
              case measure => simp [intOf]; omega
            · go_wp2_with fail
              refine (rempty_any nb n _ _ (nullB L) qr Aq S _ (HKz.out.2.below HBt.out).Nb hnl rfl (by omega) (fun s hs => HQ.out.2.1 s hs) (HE.out.below HBt.out)).mono ?_
              rintro en w7 ⟨rfl, hb7⟩
              have c1' := (hb7.cell (p := ⟨g, t, none⟩) z1).trans c1
              have f1' := (HBg.out.below hb7 HBg.out.lt).frozen t
              have z1' := (HBg.out.below hb7 HBg.out.lt).lt
              have HD := Lib.hid (HV.out (emptyB (nullB L) qr) ((HEq.out _ HQ.out.2.2).trans ⟨fun h => ⟨h, HIs.out.1 (by first | rfl | trivial)⟩, fun h => h.1⟩) _ hb7)
              clear hb7 c0 c1 c2 f1
              obtain ⟨em, hem⟩ : ∃ em, emptyB (nullB L) qr = em := ⟨_, rfl⟩
              rw [hem] at HD ⊢
              clear hem
              go_wp2_with fail
              go_roundw
              case rel => exact HD.out
              case measure => simp [intOf]; omega
          · have HD := Lib.hid (fun b hb => HV.out b hb _ (Below.refl _ _))
            go_wp2_with fail
            go_roundw
            case rel =>
              by_cases hB : Nuls ⟨(m : Int), (n : Int), gs, rs⟩ qr ∧ FolR ⟨(m : Int), (n : Int), gs, rs⟩ m y0 t
              · exact HD.out true ⟨fun _ => hB, fun _ => rfl⟩
              · exact HD.out false ⟨fun h => (by cases h), fun h => absurd h hB⟩
            case measure => simp [intOf]; omega
        · have htt : t = m + 1 := by omega
          have HRow : Hid (RowIs (m + 1) (PreR ⟨(m : Int), (n : Int), gs, rs⟩ m ⟨(y0 : Int), qr⟩) cur) := Lib.hid (HCur.out.congr (fun t' ht' => by
            unfold PP PreR
            rw [htt]
            exact ⟨fun h => h.elim (fun h => .inl h) (fun h => .inr (by simpa using h.2)), fun h => h.elim (fun h => .inl h) (fun h => .inr ⟨ht', by simpa using h⟩)⟩))
          have hcl : cur.length = m + 1 := HCur.out.1
          have HCl := Lib.hid hcl
          clear htt hcl
          have HPr := Lib.hid (show Els (wt.alloc (.cells #[.slice (some ⟨g, 0, none⟩) (m + 1) cap] 37)) (OwnT (fun _ => False) w2.heap.size (.slice Av j cv) (wt.alloc (.cells #[.slice (some ⟨g, 0, none⟩) (m + 1) cap] 37))) cur (some ⟨g, 0, none⟩) from els_slack (HBg.out.alloc _) ⟨.inr (by have := HKz.out.1; omega), fun e1 => by have := (HO.out.block _ e1).2; omega, by have := HBg.out.lt; simp; omega⟩)
          have HO6 := Lib.hid ((HO.out.below HBt.out (Nat.le_refl _)).alloc (.cells #[.slice (some ⟨g, 0, none⟩) (m + 1) cap] 37))
          have HB6 := Lib.hid (HBt.out.alloc HBt.out.size (.cells #[.slice (some ⟨g, 0, none⟩) (m + 1) cap] 37))
          go_wp2_with (at_builtin; refine wpList_own1 _ rfl _ _ elemBools rfl rfl HO6.out cur [.slice (some ⟨g, 0, none⟩) (m + 1) cap] rfl (At.new wt [.slice (some ⟨g, 0, none⟩) (m + 1) cap] 37) ⟨some ⟨g, 0, none⟩, cap, by rw [HCl.out], by rw [HCl.out]; omega, by simp only [maxLen]; omega, HPr.out⟩ (by rw [HLn.out]; omega) (by rw [HLn.out]; omega) (by have := HKz.out.1; have := HB6.out.size; omega) ?_; intro v9 w9 hown9 hg9 hat9; have H9 := Lib.hid (And.intro hown9 hg9); clear hown9 hg9 hat9)
          go_roundw
          case rel =>
            refine ⟨j + 1, v9, rows ++ [cur], hlt, by go_num, rfl, by simp [HLn.out], fun k q row hk hr => ?_, H9.out.1, (HKz.out.2.below HB6.out).kept (X := fun b => (Value.slice Av j cv).ownBlock = some b) ((Kept.refl _ _).grown H9.out.2 (fun k hk => .inl hk)) (fun b hb => (HO.out.block b hb).1)⟩
            rcases Nat.lt_or_ge k rows.length with hlt2 | hge
            · rw [List.getElem?_append_left hlt2] at hr
              exact HRs.out k q row hk hr
            · rw [List.getElem?_append_right hge] at hr
              have e1 : k = j := by
                have := (List.getElem?_eq_some_iff.1 hr).1
                have := HLn.out
                simp at *
                omega
              subst e1
              rw [HLn.out, Nat.sub_self] at hr
              simp at hr
              subst hr
              have e2 := HQ.out.1
              dsimp only at hk
              rw [e2] at hk
              injection hk with hk
              subst hk
              exact HRow.out
          case measure => simp [intOf]; omega
    · have hjj : j = rs.length := by omega
      have hvl := HO.out.vl
      obtain ⟨Av, cv, ev, _⟩ := hvl.slice
      have HVl := Lib.hid (hvl.mono (S' := fun b => w.heap.size ≤ b ∧ b < wz.heap.size) (fun b hb => ⟨by have h1 := hb.1; have := HK.out.lt.1; simp at h1; omega, hb.2⟩))
      have HBe := Lib.hid HK.out.bel
      have HLe : Hid (rows.length = rs.length) := Lib.hid (by rw [HLn.out]; exact hjj)
      clear hvl hjj
      subst ev
      go_wp2
      go_ret
      exact ⟨_, rows, rfl, HLe.out, HRs.out, HVl.out, HBe.out⟩
end Go.Proofs.YtbboceklkjfimaaDoor
