/- Contract: cycle.passes: of each rule the nonterminals to which it passes. -/
import Derived.Test.YtjdojogjogenkaaDoorQFirstMake
import Derived.Test.YtjdojogjogenkaaDoorQw2
import Derived.Test.YtjdojogjogenkaaDoorQp1
import Derived.IntWalk
namespace Go.Proofs.YtjdojogjogenkaaDoor
open Go.RowKit
set_option linter.unusedVariables false

def PassI (g : Gram) (r : List Sym) (k : Nat) (c : Int) : Prop := ∃ i : Nat, i < k ∧ r[i]? = some ⟨false, c⟩ ∧ Nuls g (r.take i ++ r.drop (i + 1))
structure PassRow (g : Gram) (q : Rule) (row : List Int) : Prop where
  len : row.length ≤ q.right.length
  mem : ∀ c, c ∈ row ↔ PassN g q c
  nd : row.Nodup
def PassL (g : Gram) (rs : List Rule) (out : List (List Int)) : Prop := out.length = rs.length ∧ ∀ (j : Nat) (q : Rule) (row : List Int), rs[j]? = some q → out[j]? = some row → PassRow g q row
theorem PassI.hit {g : Gram} {r : List Sym} {k : Nat} {c : Int} (hx : r[k]? = some ⟨false, c⟩) (he : Nuls g (r.take k ++ r.drop (k + 1))) (d : Int) : PassI g r (k + 1) d ↔ PassI g r k d ∨ d = c := by
  constructor
  · rintro ⟨i, h1, h2, h3⟩
    by_cases e : i = k
    · subst e
      rw [hx] at h2
      injection h2 with h2
      injection h2 with _ h2
      exact .inr h2.symm
    · exact .inl ⟨i, by omega, h2, h3⟩
  · rintro (⟨i, h1, h2, h3⟩ | rfl)
    · exact ⟨i, by omega, h2, h3⟩
    · exact ⟨k, by omega, hx, he⟩
theorem PassI.miss {g : Gram} {r : List Sym} {k : Nat} {x : Sym} (hx : r[k]? = some x) (he : x.term = true ∨ ¬ Nuls g (r.take k ++ r.drop (k + 1))) (d : Int) : PassI g r (k + 1) d ↔ PassI g r k d := by
  constructor
  · rintro ⟨i, h1, h2, h3⟩
    by_cases e : i = k
    · subst e
      rw [hx] at h2
      injection h2 with h2
      subst h2
      rcases he with he | he
      · cases he
      · exact absurd h3 he
    · exact ⟨i, by omega, h2, h3⟩
  · rintro ⟨i, h1, h2, h3⟩
    exact ⟨i, by omega, h2, h3⟩
theorem PassI.all {g : Gram} {q : Rule} (d : Int) : PassI g q.right q.right.length d ↔ PassN g q d := by
  constructor
  · rintro ⟨i, _, h2, h3⟩
    exact ⟨i, h2, h3⟩
  · rintro ⟨i, h2, h3⟩
    exact ⟨i, (List.getElem?_eq_some_iff.1 h2).1, h2, h3⟩
theorem PassL.snoc {g : Gram} {rs : List Rule} {out : List (List Int)} {j : Nat} {q : Rule} {row : List Int} (h : PassL g (rs.take j) out) (hq : rs[j]? = some q) (hr : PassRow g q row) : PassL g (rs.take (j + 1)) (out ++ [row]) := by
  have hj := (List.getElem?_eq_some_iff.1 hq).1
  have hl : out.length = j := by rw [h.1, List.length_take]; omega
  rw [take_snoc hq]
  refine ⟨by rw [List.length_append, List.length_append, h.1]; rfl, fun i q' row' h1 h2 => ?_⟩
  rcases Nat.lt_or_ge i j with hlt | hge
  · rw [List.getElem?_append_left (by rw [List.length_take]; omega)] at h1
    rw [List.getElem?_append_left (by omega)] at h2
    exact h.2 i q' row' h1 h2
  · rw [List.getElem?_append_right (by rw [List.length_take]; omega)] at h1
    rw [List.getElem?_append_right (by omega)] at h2
    have e : i = j := by have := (List.getElem?_eq_some_iff.1 h2).1; simp at this; omega
    subst e
    rw [List.length_take, show min i rs.length = i by omega] at h1
    simp [hl] at h1 h2
    subst h1; subst h2
    exact hr
/-- Stable sets: Empty tells what becomes the empty list. -/
theorem Stable.nul {g : Gram} {m n : Nat} {e : List Bool} {f : List (List Bool)} (h : Stable g m n e f) (hv : ValidG g) (hm : g.terms = (m : Int)) (hn : g.nons = (n : Int)) {x : Nat} : e.getD x false = true ↔ Nul g x := by
  have hb : ∀ q ∈ g.rules, q.left.toNat < n ∧ ∀ x ∈ q.right, x.term = false → x.n.toNat < n := fun q hq => by
    have h1 := (hv.rules q hq)
    refine ⟨by omega, fun x hx ht => ?_⟩
    have h2 := h1.2.2.2 x hx
    simp [ht] at h2
    omega
  constructor
  · intro h1
    obtain ⟨k, hk⟩ := h.iter
    have h2 := (MeantS.iter (g := g) (m := m) hb k).1
    rw [← hk] at h2
    exact h2.1 x (getD_some_true.1 h1)
  · intro h1
    induction h1 with
    | mk q hq h1 h2 ih => exact (h.closed hn hv).null q hq ((ofFrom_snd q.right _).2 fun x hx => ⟨h1 x hx, ih x hx⟩)
theorem Stable.nuls {g : Gram} {m n : Nat} {e : List Bool} {f : List (List Bool)} (h : Stable g m n e f) (hv : ValidG g) (hm : g.terms = (m : Int)) (hn : g.nons = (n : Int)) (l : List Sym) (out : List Bool) : (ofFrom e f out l).2 = true ↔ Nuls g l := by
  rw [ofFrom_snd]
  exact ⟨fun h1 x hx => ⟨(h1 x hx).1, (h.nul hv hm hn).1 (h1 x hx).2⟩, fun h1 x hx => ⟨(h1 x hx).1, (h.nul hv hm hn).2 (h1 x hx).2⟩⟩

def PaO (g : Gram) (rs : List Rule) (w1 : World) (v i : Value) (wr : World) : Prop :=
  ∃ (j : Nat) (out : List (List Int)), j ≤ rs.length ∧ i = .int .i64 j ∧ PassL g (rs.take j) out ∧ Own wr (fun _ => False) w1.heap.size 33 v out ∧ Below w1.heap.size w1 wr
def PaI (g : Gram) (r : List Sym) (wi : World) (v i : Value) (wr : World) : Prop :=
  ∃ (k : Nat) (l : List Int), k ≤ r.length ∧ i = .int .i64 k ∧ l.length ≤ k ∧ (∀ c, c ∈ l ↔ PassI g r k c) ∧ l.Nodup ∧ Own wr (fun _ => False) wi.heap.size 3 v l ∧ Below wi.heap.size wi wr

set_option maxRecDepth 100000 in
set_option maxHeartbeats 8000000 in
theorem passes_any (g : Gram) (m n : Nat) (A : Option Addr) (c : Nat) (S : Nat → Prop) (w : World) (hgt : g.terms = (m : Int)) (hgn : g.nons = (n : Int)) (hck : checkI g = 0) (hlc : g.rules.length ≤ c) (hc : c ≤ 9223372036854775807) (hA : Els w S g.rules A) (hS : ∀ b, S b → b < w.heap.size) :
    Calls Tryd.prog 60 #[.agg #[.int .i64 g.terms, .int .i64 g.nons, .int .i64 g.start, .slice A g.rules.length c]] w fun en w' => ∃ v out, en = .returned v ∧ PassL g g.rules out ∧ Own w' (fun _ => False) w.heap.size 33 v out ∧ Below w.heap.size w w' := by
  have hv := validG_of hck
  obtain ⟨gt, gn, gs, rs⟩ := g
  dsimp only at *
  subst hgt; subst hgn
  have hmm : m ≤ 100 ∧ 1 ≤ n ∧ n ≤ 100 := by have := hv.t8; have := hv.n1; have := hv.n10; dsimp only at *; omega
  have hrl : rs.length ≤ 32 := hv.len
  have hsy : ∀ q ∈ rs, ∀ s ∈ q.right, 0 ≤ s.n ∧ (if s.term then s.n < (m : Int) else s.n < (n : Int)) := fun q hq s hs => (hv.rules q hq).2.2.2 s hs
  have hmr := make_any ⟨(m : Int), (n : Int), gs, rs⟩ m n A c S (w.alloc (.cells #[.int .i64 (m : Int), .int .i64 (n : Int), .int .i64 gs, .slice A rs.length c] 24)) rfl rfl hmm.1 hmm.2 hlc hc (hA.below ((Below.refl _ _).alloc (Nat.le_refl _) _)) (fun b hb => by have := hS b hb; simp; omega) (by dsimp only; omega) (fun q hq => ⟨(hv.rules q hq).1, (hv.rules q hq).2.1, hsy q hq⟩)
  have HMr := Lib.hid hmr
  have HV := Lib.hid hv
  have HSy := Lib.hid hsy
  have HA := Lib.hid hA
  have HS := Lib.hid hS
  have HG0 := Lib.hid (Blk'.new w 24 #[.int .i64 (m : Int), .int .i64 (n : Int), .int .i64 gs, .slice A rs.length c])
  have HB0 : Hid (Below w.heap.size w (w.alloc (.cells #[.int .i64 (m : Int), .int .i64 (n : Int), .int .i64 gs, .slice A rs.length c] 24))) := Lib.hid ((Below.refl _ _).alloc (Nat.le_refl _) _)
  clear hmr hv hsy hA hS
  go_enter Tryd.func60, Tryd.ntmps60
  go_wp2_with fail
  refine HMr.out.mono ?_
  rintro en w1 ⟨p, be, bf, bs, cf, e, f, k, rfl, hM, hsh, hit, hfix, hge, hb1⟩
  have HSt := Lib.hid (show Stable ⟨(m : Int), (n : Int), gs, rs⟩ m n e f from ⟨hsh, ⟨k, hit⟩, hfix⟩)
  have HM := Lib.hid hM
  have HB1 := Lib.hid (bthen HB0.out hb1 HB0.out.size)
  have HG1 := Lib.hid (HG0.out.below hb1 (by simp))
  have a3 : w1.cell? ⟨w.heap.size, 3, none⟩ = some (.slice A rs.length c) := HG1.out.cell 3
  clear hM hsh hit hfix hge hb1
  go_wp2_with fail
  go_loopw [4, 17] (fun v i wr => PaO ⟨(m : Int), (n : Int), gs, rs⟩ rs w1 v i wr) (fun _ i _ => rs.length - (intOf i).toNat)
  case atStart => exact ⟨0, [], Nat.zero_le _, rfl, ⟨by simp, by simp⟩, Own.nil _ _ _ _, Below.refl _ _⟩
  case round =>
    obtain ⟨wo, hwo⟩ : ∃ wo : World, wo = wr := ⟨_, rfl⟩
    subst hwo
    obtain ⟨j, out, hj, rfl, hpl, hown, hb⟩ := hrel
    obtain ⟨Av, cv, rfl, hcv1, hcv2, _⟩ := hown.form
    have HP := Lib.hid hpl
    have HO := Lib.hid hown
    have HB := Lib.hid hb
    have HOl : Hid (out.length ≤ 32) := Lib.hid (by rw [hpl.1, List.length_take]; omega)
    clear hpl hown hb a3
    by_cases hlt : j < rs.length
    · obtain ⟨q, hq⟩ := get_some hlt
      have hbo := bthen HB1.out HB.out HB1.out.size
      obtain ⟨bq, oq, Aq, cq, rfl, hSb, hbs, hi, hrc, hcr, hEr, hc0, hc1⟩ := (HA.out.belowB hbo HS.out).rule hq
      have hq4 := (HV.out.rules q (List.mem_of_getElem? hq)).2.2.1
      have HQ := Lib.hid (And.intro hq (HSy.out q (List.mem_of_getElem? hq)))
      obtain ⟨ql, qr⟩ := q
      dsimp only at hi hrc hcr hEr hc0 hc1 hq4
      have hj0 : (0 : Int) ≤ (j : Int) := by omega
      obtain ⟨wi, hwi⟩ : ∃ wi : World, wi = wo.alloc (.cells #[.int .i64 ql, .slice Aq qr.length cq] 60) := ⟨_, rfl⟩
      have HWi := Lib.hid hwi
      have hbi : Below wo.heap.size wo wi := by rw [hwi]; exact (Below.refl _ _).alloc (Nat.le_refl _) _
      have HBi := Lib.hid hbi
      have HRb : Hid (Blk' wi wo.heap.size 60 #[.int .i64 ql, .slice Aq qr.length cq]) := Lib.hid (by rw [hwi]; exact Blk'.new _ _ _)
      have HEr := Lib.hid (hEr.below hbi)
      have HSi : Hid (∀ b, S b → b < wo.heap.size) := Lib.hid (fun b hb => by have := HS.out b hb; have := hbo.size; omega)
      have HMi := Lib.hid (((HM.out.kept (Kept.of_below (fun _ => False) HB.out) (fun _ _ h => h)).kept (Kept.of_below (fun _ => False) hbi) (fun _ _ h => h)))
      have hzi : wo.heap.size < wi.heap.size := by rw [hwi]; simp
      have r1 : wi.cell? ⟨wo.heap.size, 1, none⟩ = some (.slice Aq qr.length cq) := HRb.out.cell 1
      have hqr9 : qr.length ≤ 9223372036854775807 := by omega
      clear hq hbo hi hEr hwi hbi
      go_upto_region 6 with (fail)
      rw [← HWi.out]
      go_wp2_with fail
      clear hc0 hc1
      go_loopw [7, 24] (fun v i wr => PaI ⟨(m : Int), (n : Int), gs, rs⟩ qr wi v i wr) (fun _ i _ => qr.length - (intOf i).toNat)
      case atStart => exact ⟨0, [], Nat.zero_le _, rfl, Nat.le_refl _, (fun c => ⟨fun h => by simp at h, fun ⟨i, h, _⟩ => by omega⟩), List.nodup_nil, Own.nil _ _ _ _, Below.refl _ _⟩
      case round =>
        obtain ⟨wz, hwz⟩ : ∃ wz : World, wz = wr := ⟨_, rfl⟩
        subst hwz
        obtain ⟨k, l, hk, rfl, hll, hmem, hnd, hown, hbz⟩ := hrel
        obtain ⟨Al, cl, rfl, hcl1, hcl2, _⟩ := hown.form
        have HMem := Lib.hid (And.intro hmem hnd)
        have HOz := Lib.hid hown
        have HBz := Lib.hid hbz
        have hzz : wi.heap.size ≤ wz.heap.size := hbz.size
        clear hmem hnd hown hbz r1
        by_cases hkl : k < qr.length
        · obtain ⟨x, hx⟩ := get_some hkl
          obtain ⟨bx, ox, rfl, hSx, hbx, hxi, hxc0, hxc1⟩ := (HEr.out.below HBz.out).sym hx
          have hsr := HQ.out.2 x (List.mem_of_getElem? hx)
          have HX := Lib.hid hx
          obtain ⟨st, sn⟩ := x
          dsimp only at hxi hxc0 hxc1 hsr
          have hk0 : (0 : Int) ≤ (k : Int) := by omega
          obtain ⟨ws, hws⟩ : ∃ ws : World, ws = wz.alloc (.cells #[.bool st, .int .i64 sn] 40) := ⟨_, rfl⟩
          have HWs := Lib.hid hws
          have hbs2 : Below wz.heap.size wz ws := by rw [hws]; exact (Below.refl _ _).alloc (Nat.le_refl _) _
          have HBs : Hid (Below wi.heap.size wi ws) := Lib.hid (bthen HBz.out hbs2 HBz.out.size)
          have HXs : Hid (Blk' ws wz.heap.size 40 #[.bool st, .int .i64 sn]) := Lib.hid (by rw [hws]; exact Blk'.new _ _ _)
          have HOs := Lib.hid (HOz.out.below hbs2 (Nat.le_refl _))
          have hzs : wz.heap.size < ws.heap.size := by rw [hws]; simp
          have hRs := HRb.out.below HBs.out HRb.out.lt
          have r1 : ws.cell? ⟨wo.heap.size, 1, none⟩ = some (.slice (some ⟨bx, ox, none⟩) qr.length cq) := hRs.cell 1
          have zr : wo.heap.size < ws.heap.size := hRs.lt
          have HEs := Lib.hid (HEr.out.below HBs.out)
          have HSi2 := Lib.hid hxi
          clear hx hxi hws hbs2 hRs
          have hE1 := HEs.out.takeS k
          have hE2 := HEs.out.dropS (k + 1)
          have hl1 : (qr.take k).length = k := by rw [List.length_take]; omega
          have hl2 : (qr.drop (k + 1)).length = qr.length - (k + 1) := by simp
          have HEL := Lib.hid (And.intro hE1 (And.intro hE2 (And.intro hl1 hl2)))
          clear hE1 hE2 hl1 hl2
          have hwm : IntKind.i64.wrap ((k : Int) + 1) = (k : Int) + 1 := IntWalk.i64_in _ (by omega)
          have hi3 : (k : Int) + 1 ≤ (qr.length : Int) := by omega
          have hi4 : (k : Int) + 1 ≤ (cq : Int) := by omega
          have hi5 : (k : Int) ≤ (cq : Int) := by omega
          have hi6 : (0 : Int) ≤ (k : Int) + 1 := by omega
          go_upto_region 10 with (fail)
          rw [← HWs.out]
          go_cut [10, 11] (fun _ v wx => ∃ b : Bool, v = .bool b ∧ (b = true ↔ Nuls ⟨(m : Int), (n : Int), gs, rs⟩ (qr.take k ++ qr.drop (k + 1))) ∧ Below ws.heap.size ws wx)
          case first =>
            have HPair : Hid (∀ A2 c2, qr.length - (k + 1) ≤ c2 → c2 ≤ 9223372036854775807 → Els ws S (qr.drop (k + 1)) A2 → Els (ws.drew.alloc (.cells #[.slice (some ⟨bx, ox, none⟩) k cq, .slice A2 (qr.length - (k + 1)) c2] 58)) (fun b => S b ∨ b = ws.heap.size) [qr.take k, qr.drop (k + 1)] (some ⟨ws.heap.size, 0, none⟩)) := Lib.hid (fun A2 c2 h1 h2 h3 => by
              have h := els_pairS (w := ws.drew) 58 (show Els ws.drew S _ _ from HEL.out.1) (show Els ws.drew S _ A2 from h3) (c := cq) (d := c2) (by rw [HEL.out.2.2.1]; omega) hcr (by rw [HEL.out.2.2.2]; omega) h2
              rw [HEL.out.2.2.1, HEL.out.2.2.2] at h
              exact h)
            obtain ⟨u, hu⟩ : ∃ u : List Sym, u = [qr.take k, qr.drop (k + 1)].flatten := ⟨_, rfl⟩
            have HU := Lib.hid hu
            have HNu : Hid ((ofFrom e f (List.replicate m false) u).2 = true ↔ Nuls ⟨(m : Int), (n : Int), gs, rs⟩ (qr.take k ++ qr.drop (k + 1))) := Lib.hid (by
              rw [HSt.out.nuls HV.out rfl rfl, hu]
              simp)
            clear hu
            rcases Classical.em (cq = k + 1) with hcap | hcap
            · have hce : (cq = k + 1) = True := by simp [hcap]
              have hEd : ∀ B : Option Addr, Els ws S (qr.drop (k + 1)) B := fun B => by
                rw [List.drop_of_length_le (by omega)]
                exact Els.nilS
              have hcd1 : qr.length - (k + 1) ≤ cq - (k + 1) := by omega
              have hcd2 : cq - (k + 1) ≤ 9223372036854775807 := by omega
              have HCap := Lib.hid hcap
              clear hcap
              refine wp_region_noPanic ?_
              refine wp_region_held_drew (S := (fun w' => w'.cell? ⟨wo.heap.size, 1, none⟩ = some (.slice (some ⟨bx, ox, none⟩) qr.length cq))) (by kernel_rfl) ?ha (fun hHeld => ?ba)
              case ha => ((try dsimp only); go_keep)
              refine take_run (i := 0) (v := ?va0) rfl (by kernel_rfl) (by kernel_rfl) (by kernel_rfl) (fun _ _ _ h => h) (by rfl) ?ya0 (by assumption) ?ra0
              case ya0 => (intro w hSw; (try dsimp only at hSw); go_simp; try with_reducible rfl)
              try simp only [Act.put, List.setIfInBounds_toArray, List.set_cons_zero, List.set_cons_succ]
              refine take_run (i := 1) (v := ?va1) rfl (by kernel_rfl) (by kernel_rfl) (by kernel_rfl) (fun _ _ _ h => h) (by rfl) ?ya1 (by assumption) ?ra1
              case ya1 => (intro w hSw; (try dsimp only at hSw); go_simp; try with_reducible rfl)
              try simp only [Act.put, List.setIfInBounds_toArray, List.set_cons_zero, List.set_cons_succ]
              refine take_run (i := 2) (v := ?va2) rfl (by kernel_rfl) (by kernel_rfl) (by kernel_rfl) (fun _ _ _ h => h) (by rfl) ?ya2 (by assumption) ?ra2
              case ya2 => (intro w hSw; (try dsimp only at hSw); go_simp; try with_reducible rfl)
              try simp only [Act.put, List.setIfInBounds_toArray, List.set_cons_zero, List.set_cons_succ]
              refine take_run (i := 3) (v := ?va3) rfl (by kernel_rfl) (by kernel_rfl) (by kernel_rfl) (fun _ _ _ h => h) (by rfl) ?ya3 (by assumption) ?ra3
              case ya3 => (intro w hSw; (try dsimp only at hSw); go_simp; try with_reducible rfl)
              try simp only [Act.put, List.setIfInBounds_toArray, List.set_cons_zero, List.set_cons_succ]
              refine take_run (i := 4) (v := ?va4) rfl (by kernel_rfl) (by kernel_rfl) (by kernel_rfl) (fun _ _ _ h => h) (by rfl) ?ya4 (by assumption) ?ra4
              case ya4 => (intro w hSw; (try dsimp only at hSw); go_simp; try with_reducible rfl)
              try simp only [Act.put, List.setIfInBounds_toArray, List.set_cons_zero, List.set_cons_succ]
              refine take_run (i := 5) (v := ?va5) rfl (by kernel_rfl) (by kernel_rfl) (by kernel_rfl) (fun _ _ _ h => h) (by rfl) ?ya5 (by assumption) ?ra5
              case ya5 => (intro w hSw; (try dsimp only at hSw); go_simp; try with_reducible rfl)
              try simp only [Act.put, List.setIfInBounds_toArray, List.set_cons_zero, List.set_cons_succ]
              refine take_run (i := 6) (v := ?va6) rfl (by kernel_rfl) (by kernel_rfl) (by kernel_rfl) (fun _ _ _ h => h) (by rfl) ?ya6 (by assumption) ?ra6
              case ya6 => (intro w hSw; (try dsimp only at hSw); go_simp; try with_reducible rfl)
              try simp only [Act.put, List.setIfInBounds_toArray, List.set_cons_zero, List.set_cons_succ]
              refine take_run (i := 7) (v := ?va7) rfl (by kernel_rfl) (by kernel_rfl) (by kernel_rfl) (fun _ _ _ h => h) (by rfl) ?ya7 (by assumption) ?ra7
              case ya7 => (intro w hSw; (try dsimp only at hSw); go_simp; try with_reducible rfl)
              try simp only [Act.put, List.setIfInBounds_toArray, List.set_cons_zero, List.set_cons_succ]
              refine take_run (i := 8) (v := ?va8) rfl (by kernel_rfl) (by kernel_rfl) (by kernel_rfl) (fun _ _ _ h => h) (by rfl) ?ya8 (by assumption) ?ra8
              case ya8 => (intro w hSw; (try dsimp only at hSw); go_simp; try with_reducible rfl)
              try simp only [Act.put, List.setIfInBounds_toArray, List.set_cons_zero, List.set_cons_succ]
              refine take_run (i := 9) (v := ?va9) rfl (by kernel_rfl) (by kernel_rfl) (by kernel_rfl) (fun _ _ _ h => h) (by rfl) ?ya9 (by assumption) ?ra9
              case ya9 => (intro w hSw; (try dsimp only at hSw); go_simp; try with_reducible rfl)
              try simp only [Act.put, List.setIfInBounds_toArray, List.set_cons_zero, List.set_cons_succ]
              refine take_call (i := 10) rfl (by kernel_rfl) (by rfl) (fun Kq hK => ?_)
              go_simp
              refine hK.out _ _ ?ha10 (fun hHeld => ?ra10)
              case ha10 => ((try dsimp only); go_keep)
              clear hK Kq
              try simp only [Act.put, List.setIfInBounds_toArray, List.set_cons_zero, List.set_cons_succ]
              refine take_call (i := 11) rfl (by kernel_rfl) (by rfl) (fun Kq hK => ?_)
              go_simp
              go_at_call 107
              have hcur := HPair.out (some ⟨bx, ox, none⟩) (cq - (k + 1)) hcd1 hcd2 (hEd _)
              refine (concatSym_any (some ⟨ws.heap.size, 0, none⟩) 2 [qr.take k, qr.drop (k + 1)] (fun b => S b ∨ b = ws.heap.size) _ (by simp) hcur (fun b hb => by rcases hb with hb | hb; (have := HSi.out b hb; show b < _; simp; omega); (subst hb; simp)) (by simp; omega)).mono ?_
              rintro e w5 ⟨v5, rfl, hown5, hb5⟩
              rw [← HU.out] at hown5
              obtain ⟨A5, c5, rfl, hc51, hc52, _⟩ := hown5.form
              have HB5 : Hid (Below ws.heap.size ws w5) := Lib.hid (((Below.refl ws.heap.size ws).drew.alloc (Nat.le_refl _) _).trans (hb5.mono (by simp)))
              have HE5 := Lib.hid hown5.vl.els.2.2.2
              have n1 := (HB5.out.cell (p := ⟨wo.heap.size, 1, none⟩) zr).trans r1
              clear hcur hown5 hb5
              refine hK.out _ _ ?ha11 (fun hHeld => ?ra11)
              case ha11 => ((try dsimp only); go_keep)
              clear hK Kq
              try simp only [Act.put, List.setIfInBounds_toArray, List.set_cons_zero, List.set_cons_succ]
              refine take_call (i := 12) rfl (by kernel_rfl) (by rfl) (fun Kq hK => ?_)
              go_simp
              go_at_call 106
              refine (setsOf_any p be bf bs m n (m : Int) (n : Int) gs (.slice (some ⟨bq, oq, none⟩) rs.length c) cf e f u A5 c5 _ w5 ((HMi.out.kept (Kept.of_below (fun _ => False) HBs.out) (fun _ _ h => h)).kept (Kept.of_below (fun _ => False) HB5.out) (fun _ _ h => h)) rfl (by omega) (by omega) hc51 hc52 HE5.out (fun b hb => hb.2) (fun y hy => by rw [HU.out] at hy; simp only [List.flatten_cons, List.flatten_nil, List.append_nil, List.mem_append] at hy; exact HQ.out.2 y (hy.elim List.mem_of_mem_take List.mem_of_mem_drop))).mono ?_
              rintro e w6 ⟨b6, rfl, _, _, hb6⟩
              have HB6 := Lib.hid (bthen HB5.out hb6 HB5.out.size)
              have n2 := (HB6.out.cell (p := ⟨wo.heap.size, 1, none⟩) zr).trans r1
              clear hb6
              refine hK.out _ _ ?ha12 (fun hHeld => ?ra12)
              case ha12 => ((try dsimp only); go_keep)
              clear hK Kq
              try simp only [Act.put, List.setIfInBounds_toArray, List.set_cons_zero, List.set_cons_succ]
              refine take_run (i := 13) (v := ?va13) rfl (by kernel_rfl) (by kernel_rfl) (by kernel_rfl) (fun _ _ _ h => h) (by rfl) ?ya13 (by assumption) ?ra13
              case ya13 => (intro w hSw; (try dsimp only at hSw); go_simp; try with_reducible rfl)
              try simp only [Act.put, List.setIfInBounds_toArray, List.set_cons_zero, List.set_cons_succ]
              refine take_run (i := 14) (v := ?va14) rfl (by kernel_rfl) (by kernel_rfl) (by kernel_rfl) (fun _ _ _ h => h) (by rfl) ?ya14 (by assumption) ?ra14
              case ya14 => (intro w hSw; (try dsimp only at hSw); go_simp; try with_reducible rfl)
              try simp only [Act.put, List.setIfInBounds_toArray, List.set_cons_zero, List.set_cons_succ]
              refine take_run (i := 15) (v := ?va15) rfl (by kernel_rfl) (by kernel_rfl) (by kernel_rfl) (fun _ _ _ h => h) (by rfl) ?ya15 (by assumption) ?ra15
              case ya15 => (intro w hSw; (try dsimp only at hSw); go_simp; try with_reducible rfl)
              try simp only [Act.put, List.setIfInBounds_toArray, List.set_cons_zero, List.set_cons_succ]
              refine take_run (i := 16) (v := ?va16) rfl (by kernel_rfl) (by kernel_rfl) (by kernel_rfl) (fun _ _ _ h => h) (by rfl) ?ya16 (by assumption) ?ra16
              case ya16 => (intro w hSw; (try dsimp only at hSw); go_simp; try with_reducible rfl)
              try simp only [Act.put, List.setIfInBounds_toArray, List.set_cons_zero, List.set_cons_succ]
              refine take_run (i := 17) (v := ?va17) rfl (by kernel_rfl) (by kernel_rfl) (by kernel_rfl) (fun _ _ _ h => h) (by rfl) ?ya17 (by assumption) ?ra17
              case ya17 => (intro w hSw; (try dsimp only at hSw); go_simp; try with_reducible rfl)
              try simp only [Act.put, List.setIfInBounds_toArray, List.set_cons_zero, List.set_cons_succ]
              refine wpAnyH_done (by kernel_rfl) ?_ _
              refine NoPanic.normal ?_
              go_wp2
              go_meet
              exact ⟨_, rfl, HNu.out, HB6.out⟩
            · have hce : (cq = k + 1) = False := by simp [hcap]
              have hEd : Els ws S (qr.drop (k + 1)) (some ⟨bx, ox + (k + 1) * 2, none⟩) := HEL.out.2.1
              have hcd1 : qr.length - (k + 1) ≤ cq - (k + 1) := by omega
              have hcd2 : cq - (k + 1) ≤ 9223372036854775807 := by omega
              have HCap := Lib.hid hcap
              clear hcap
              refine wp_region_noPanic ?_
              refine wp_region_held_drew (S := (fun w' => w'.cell? ⟨wo.heap.size, 1, none⟩ = some (.slice (some ⟨bx, ox, none⟩) qr.length cq))) (by kernel_rfl) ?hb (fun hHeld => ?bb)
              case hb => ((try dsimp only); go_keep)
              refine take_run (i := 0) (v := ?vb0) rfl (by kernel_rfl) (by kernel_rfl) (by kernel_rfl) (fun _ _ _ h => h) (by rfl) ?yb0 (by assumption) ?rb0
              case yb0 => (intro w hSw; (try dsimp only at hSw); go_simp; try with_reducible rfl)
              try simp only [Act.put, List.setIfInBounds_toArray, List.set_cons_zero, List.set_cons_succ]
              refine take_run (i := 1) (v := ?vb1) rfl (by kernel_rfl) (by kernel_rfl) (by kernel_rfl) (fun _ _ _ h => h) (by rfl) ?yb1 (by assumption) ?rb1
              case yb1 => (intro w hSw; (try dsimp only at hSw); go_simp; try with_reducible rfl)
              try simp only [Act.put, List.setIfInBounds_toArray, List.set_cons_zero, List.set_cons_succ]
              refine take_run (i := 2) (v := ?vb2) rfl (by kernel_rfl) (by kernel_rfl) (by kernel_rfl) (fun _ _ _ h => h) (by rfl) ?yb2 (by assumption) ?rb2
              case yb2 => (intro w hSw; (try dsimp only at hSw); go_simp; try with_reducible rfl)
              try simp only [Act.put, List.setIfInBounds_toArray, List.set_cons_zero, List.set_cons_succ]
              refine take_run (i := 3) (v := ?vb3) rfl (by kernel_rfl) (by kernel_rfl) (by kernel_rfl) (fun _ _ _ h => h) (by rfl) ?yb3 (by assumption) ?rb3
              case yb3 => (intro w hSw; (try dsimp only at hSw); go_simp; try with_reducible rfl)
              try simp only [Act.put, List.setIfInBounds_toArray, List.set_cons_zero, List.set_cons_succ]
              refine take_run (i := 4) (v := ?vb4) rfl (by kernel_rfl) (by kernel_rfl) (by kernel_rfl) (fun _ _ _ h => h) (by rfl) ?yb4 (by assumption) ?rb4
              case yb4 => (intro w hSw; (try dsimp only at hSw); go_simp; try with_reducible rfl)
              try simp only [Act.put, List.setIfInBounds_toArray, List.set_cons_zero, List.set_cons_succ]
              refine take_run (i := 5) (v := ?vb5) rfl (by kernel_rfl) (by kernel_rfl) (by kernel_rfl) (fun _ _ _ h => h) (by rfl) ?yb5 (by assumption) ?rb5
              case yb5 => (intro w hSw; (try dsimp only at hSw); go_simp; try with_reducible rfl)
              try simp only [Act.put, List.setIfInBounds_toArray, List.set_cons_zero, List.set_cons_succ]
              refine take_run (i := 6) (v := ?vb6) rfl (by kernel_rfl) (by kernel_rfl) (by kernel_rfl) (fun _ _ _ h => h) (by rfl) ?yb6 (by assumption) ?rb6
              case yb6 => (intro w hSw; (try dsimp only at hSw); go_simp; try with_reducible rfl)
              try simp only [Act.put, List.setIfInBounds_toArray, List.set_cons_zero, List.set_cons_succ]
              refine take_run (i := 7) (v := ?vb7) rfl (by kernel_rfl) (by kernel_rfl) (by kernel_rfl) (fun _ _ _ h => h) (by rfl) ?yb7 (by assumption) ?rb7
              case yb7 => (intro w hSw; (try dsimp only at hSw); go_simp; try with_reducible rfl)
              try simp only [Act.put, List.setIfInBounds_toArray, List.set_cons_zero, List.set_cons_succ]
              refine take_run (i := 8) (v := ?vb8) rfl (by kernel_rfl) (by kernel_rfl) (by kernel_rfl) (fun _ _ _ h => h) (by rfl) ?yb8 (by assumption) ?rb8
              case yb8 => (intro w hSw; (try dsimp only at hSw); go_simp; try with_reducible rfl)
              try simp only [Act.put, List.setIfInBounds_toArray, List.set_cons_zero, List.set_cons_succ]
              refine take_run (i := 9) (v := ?vb9) rfl (by kernel_rfl) (by kernel_rfl) (by kernel_rfl) (fun _ _ _ h => h) (by rfl) ?yb9 (by assumption) ?rb9
              case yb9 => (intro w hSw; (try dsimp only at hSw); go_simp; try with_reducible rfl)
              try simp only [Act.put, List.setIfInBounds_toArray, List.set_cons_zero, List.set_cons_succ]
              refine take_call (i := 10) rfl (by kernel_rfl) (by rfl) (fun Kq hK => ?_)
              go_simp
              refine hK.out _ _ ?hb10 (fun hHeld => ?rb10)
              case hb10 => ((try dsimp only); go_keep)
              clear hK Kq
              try simp only [Act.put, List.setIfInBounds_toArray, List.set_cons_zero, List.set_cons_succ]
              refine take_call (i := 11) rfl (by kernel_rfl) (by rfl) (fun Kq hK => ?_)
              go_simp
              go_at_call 107
              have hcur := HPair.out _ _ hcd1 hcd2 hEd
              refine (concatSym_any (some ⟨ws.heap.size, 0, none⟩) 2 [qr.take k, qr.drop (k + 1)] (fun b => S b ∨ b = ws.heap.size) _ (by simp) hcur (fun b hb => by rcases hb with hb | hb; (have := HSi.out b hb; show b < _; simp; omega); (subst hb; simp)) (by simp; omega)).mono ?_
              rintro e w5 ⟨v5, rfl, hown5, hb5⟩
              rw [← HU.out] at hown5
              obtain ⟨A5, c5, rfl, hc51, hc52, _⟩ := hown5.form
              have HB5 : Hid (Below ws.heap.size ws w5) := Lib.hid (((Below.refl ws.heap.size ws).drew.alloc (Nat.le_refl _) _).trans (hb5.mono (by simp)))
              have HE5 := Lib.hid hown5.vl.els.2.2.2
              have n1 := (HB5.out.cell (p := ⟨wo.heap.size, 1, none⟩) zr).trans r1
              clear hcur hown5 hb5
              refine hK.out _ _ ?hb11 (fun hHeld => ?rb11)
              case hb11 => ((try dsimp only); go_keep)
              clear hK Kq
              try simp only [Act.put, List.setIfInBounds_toArray, List.set_cons_zero, List.set_cons_succ]
              refine take_call (i := 12) rfl (by kernel_rfl) (by rfl) (fun Kq hK => ?_)
              go_simp
              go_at_call 106
              refine (setsOf_any p be bf bs m n (m : Int) (n : Int) gs (.slice (some ⟨bq, oq, none⟩) rs.length c) cf e f u A5 c5 _ w5 ((HMi.out.kept (Kept.of_below (fun _ => False) HBs.out) (fun _ _ h => h)).kept (Kept.of_below (fun _ => False) HB5.out) (fun _ _ h => h)) rfl (by omega) (by omega) hc51 hc52 HE5.out (fun b hb => hb.2) (fun y hy => by rw [HU.out] at hy; simp only [List.flatten_cons, List.flatten_nil, List.append_nil, List.mem_append] at hy; exact HQ.out.2 y (hy.elim List.mem_of_mem_take List.mem_of_mem_drop))).mono ?_
              rintro e w6 ⟨b6, rfl, _, _, hb6⟩
              have HB6 := Lib.hid (bthen HB5.out hb6 HB5.out.size)
              have n2 := (HB6.out.cell (p := ⟨wo.heap.size, 1, none⟩) zr).trans r1
              clear hb6
              refine hK.out _ _ ?hb12 (fun hHeld => ?rb12)
              case hb12 => ((try dsimp only); go_keep)
              clear hK Kq
              try simp only [Act.put, List.setIfInBounds_toArray, List.set_cons_zero, List.set_cons_succ]
              refine take_run (i := 13) (v := ?vb13) rfl (by kernel_rfl) (by kernel_rfl) (by kernel_rfl) (fun _ _ _ h => h) (by rfl) ?yb13 (by assumption) ?rb13
              case yb13 => (intro w hSw; (try dsimp only at hSw); go_simp; try with_reducible rfl)
              try simp only [Act.put, List.setIfInBounds_toArray, List.set_cons_zero, List.set_cons_succ]
              refine take_run (i := 14) (v := ?vb14) rfl (by kernel_rfl) (by kernel_rfl) (by kernel_rfl) (fun _ _ _ h => h) (by rfl) ?yb14 (by assumption) ?rb14
              case yb14 => (intro w hSw; (try dsimp only at hSw); go_simp; try with_reducible rfl)
              try simp only [Act.put, List.setIfInBounds_toArray, List.set_cons_zero, List.set_cons_succ]
              refine take_run (i := 15) (v := ?vb15) rfl (by kernel_rfl) (by kernel_rfl) (by kernel_rfl) (fun _ _ _ h => h) (by rfl) ?yb15 (by assumption) ?rb15
              case yb15 => (intro w hSw; (try dsimp only at hSw); go_simp; try with_reducible rfl)
              try simp only [Act.put, List.setIfInBounds_toArray, List.set_cons_zero, List.set_cons_succ]
              refine take_run (i := 16) (v := ?vb16) rfl (by kernel_rfl) (by kernel_rfl) (by kernel_rfl) (fun _ _ _ h => h) (by rfl) ?yb16 (by assumption) ?rb16
              case yb16 => (intro w hSw; (try dsimp only at hSw); go_simp; try with_reducible rfl)
              try simp only [Act.put, List.setIfInBounds_toArray, List.set_cons_zero, List.set_cons_succ]
              refine take_run (i := 17) (v := ?vb17) rfl (by kernel_rfl) (by kernel_rfl) (by kernel_rfl) (fun _ _ _ h => h) (by rfl) ?yb17 (by assumption) ?rb17
              case yb17 => (intro w hSw; (try dsimp only at hSw); go_simp; try with_reducible rfl)
              try simp only [Act.put, List.setIfInBounds_toArray, List.set_cons_zero, List.set_cons_succ]
              refine wpAnyH_done (by kernel_rfl) ?_ _
              refine NoPanic.normal ?_
              go_wp2
              go_meet
              exact ⟨_, rfl, HNu.out, HB6.out⟩
          case rest =>
          obtain ⟨wx, hwx⟩ : ∃ wx : World, wx = wc := ⟨_, rfl⟩
          subst hwx
          obtain ⟨b, rfl, hbn, hbx2⟩ := hcut
          have HN := Lib.hid hbn
          have HBx := Lib.hid (bthen HBs.out hbx2 HBs.out.size)
          have HOx := Lib.hid (HOs.out.below hbx2 (Nat.le_refl _))
          have hXx := HXs.out.below hbx2 HXs.out.lt
          have x0 : wx.cell? ⟨wz.heap.size, 0, none⟩ = some (.bool st) := hXx.cell 0
          have x1 : wx.cell? ⟨wz.heap.size, 1, none⟩ = some (.int .i64 sn) := hXx.cell 1
          have zx : wz.heap.size < wx.heap.size := hXx.lt
          clear hbn hbx2 hXx hwm r1 zr
          cases st
          · cases b
            · have HMs := Lib.hid (fun d => PassI.miss (g := ⟨(m : Int), (n : Int), gs, rs⟩) HX.out (.inr (fun h => by have := HN.out.2 h; cases this)) d)
              go_wp2
              go_roundw
              case rel => exact ⟨k + 1, l, hkl, by go_num, by omega, fun d => (HMem.out.1 d).trans (HMs.out d).symm, HMem.out.2, HOx.out, HBx.out⟩
              case measure => simp [intOf]; omega
            · have HHt := Lib.hid (fun d => PassI.hit (g := ⟨(m : Int), (n : Int), gs, rs⟩) HX.out (HN.out.1 rfl) d)
              have HEl := Lib.hid HOx.out.vl.els.2.2.2
              go_wp2_with fail
              refine (containsInt_any Al l.length cl l sn _ _ rfl (by omega) HEl.out).mono ?_
              rintro e w' ⟨rfl, rfl⟩
              by_cases hin : sn ∈ l
              · have d0 : decide (sn ∈ l) = true := decide_eq_true hin
                have HIn := Lib.hid hin
                clear hin
                go_wp2
                go_roundw
                case rel => exact ⟨k + 1, l, hkl, by go_num, by omega, fun d => ⟨fun h => (HHt.out d).2 (.inl ((HMem.out.1 d).1 h)), fun h => by rcases (HHt.out d).1 h with h | rfl; exact (HMem.out.1 d).2 h; exact HIn.out⟩, HMem.out.2, HOx.out, HBx.out⟩
                case measure => simp [intOf]; omega
              · have d0 : decide (sn ∈ l) = false := decide_eq_false hin
                have HIn := Lib.hid hin
                clear hin
                have hcap1 : (l.length + 1) * 8 ≤ 140737488355328 := by omega
                have hcap2 : l.length + 1 ≤ 9223372036854775807 := by omega
                go_wp2_with (at_builtin; refine wpList_own1 _ rfl _ _ elemInt rfl rfl (HOx.out.alloc _) sn [.int .i64 sn] rfl (At.new _ _ _) ⟨rfl, HSi2.out⟩ hcap1 hcap2 (Nat.le_trans HBx.out.size ((Below.refl _ _).alloc (Nat.le_refl _) _).size) ?_; intro v' w3 hown3 hg3 hat3; have H3 := Lib.hid (And.intro hown3 hg3); clear hown3 hg3 hat3)
                go_roundw
                case rel =>
                  refine ⟨k + 1, l ++ [sn], hkl, by go_num, by simp; omega, fun d => ?_, ?_, H3.out.1, bgrown (HBx.out.alloc HBx.out.size _) H3.out.2 (HOx.out.alloc _) (Nat.le_refl _) (Nat.le_trans HBx.out.size ((Below.refl _ _).alloc (Nat.le_refl _) _).size)⟩
                  · rw [HHt.out d, List.mem_append, HMem.out.1 d]
                    simp
                  · rw [List.nodup_append]
                    exact ⟨HMem.out.2, by simp, fun a ha b hb e => by simp at hb; subst hb; subst e; exact HIn.out ha⟩
                case measure => simp [intOf]; omega
          · have HMs := Lib.hid (fun d => PassI.miss (g := ⟨(m : Int), (n : Int), gs, rs⟩) HX.out (.inl rfl) d)
            go_wp2
            go_roundw
            case rel => exact ⟨k + 1, l, hkl, by go_num, by omega, fun d => (HMem.out.1 d).trans (HMs.out d).symm, HMem.out.2, HOx.out, HBx.out⟩
            case measure => simp [intOf]; omega
        · have hkk : k = qr.length := by omega
          have hcap1 : (out.length + 1) * 24 ≤ 140737488355328 := by have := HOl.out; omega
          have hcap2 : out.length + 1 ≤ 9223372036854775807 := by have := HOl.out; omega
          have hbz2 : Below wo.heap.size wo wz := bthen HBi.out HBz.out HBi.out.size
          have HO2 := Lib.hid ((HO.out.below hbz2 (Nat.le_refl _)).alloc (.cells #[.slice Al l.length cl] 33))
          have HB2 := Lib.hid (bthen HB.out hbz2 HB.out.size)
          have HRow : Hid (PassRow ⟨(m : Int), (n : Int), gs, rs⟩ ⟨ql, qr⟩ l) := Lib.hid ⟨by show l.length ≤ qr.length; omega, fun d => by rw [HMem.out.1 d, hkk]; exact PassI.all (q := ⟨ql, qr⟩) d, HMem.out.2⟩
          have hba3 : Below wz.heap.size wz (wz.alloc (.cells #[.slice Al l.length cl] 33)) := (Below.refl _ _).alloc (Nat.le_refl _) _
          have HRd : Hid (Dat.rd (wz.alloc (.cells #[.slice Al l.length cl] 33)) (OwnT (fun _ => False) w1.heap.size (.slice Av out.length cv) (wz.alloc (.cells #[.slice Al l.length cl] 33))) l [.slice Al l.length cl]) := Lib.hid ⟨Al, cl, rfl, hcl1, by simpa [maxLen] using hcl2, (HOz.out.vl.els.2.2.2.below hba3).keep (fun _ _ _ => rfl) (fun b hb => by
            have h1 := HB.out.size
            have h2 := HBi.out.size
            refine ⟨.inr (by rcases hb.1 with h | h; exact h.elim; omega), fun e => ?_, Nat.lt_of_lt_of_le hb.2 hba3.size⟩
            have h3 := (HO.out.block b e).2
            rcases hb.1 with h | h
            · exact h
            · omega)⟩
          clear hbz2 hba3
          go_wp2_with (at_builtin; refine wpList_own1 _ rfl _ _ elemInts rfl rfl HO2.out l [.slice Al l.length cl] rfl (At.new _ _ _) HRd.out hcap1 hcap2 (Nat.le_trans HB2.out.size ((Below.refl _ _).alloc (Nat.le_refl _) _).size) ?_; intro v' w3 hown3 hg3 hat3; have H3 := Lib.hid (And.intro hown3 hg3); clear hown3 hg3 hat3)
          go_roundw
          case rel => exact ⟨j + 1, out ++ [l], hlt, by go_num, HP.out.snoc HQ.out.1 HRow.out, H3.out.1, bgrown (HB2.out.alloc HB2.out.size _) H3.out.2 HO2.out (Nat.le_refl _) (Nat.le_trans HB2.out.size ((Below.refl _ _).alloc (Nat.le_refl _) _).size)⟩
          case measure => simp [intOf]; omega
    · have hjj : j = rs.length := by omega
      go_wp2
      go_ret
      exact ⟨_, out, rfl, by have h := HP.out; rw [hjj, List.take_of_length_le (Nat.le_refl _)] at h; exact h, Own.base HO.out HB1.out.size, bthen HB1.out HB.out HB1.out.size⟩
end Go.Proofs.YtjdojogjogenkaaDoor
