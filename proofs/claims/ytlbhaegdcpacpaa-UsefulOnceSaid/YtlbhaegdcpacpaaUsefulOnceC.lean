/- The walk of the law UsefulOnce. -/
import Derived.Test.YtlbhaegdcpacpaaUsefulOnceP
import Derived.Test.YtlbhaegdcpacpaaUsefulPub
import Derived.Test.YtlbhaegdcpacpaaGSame
import Derived.Test.YtlbhaegdcpacpaaContBool
import Derived.Test.YtlbhaegdcpacpaaWorks
import Derived.Test.YtlbhaegdcpacpaaOpen
namespace Go.Proofs.Ytlbhaegdcpacpaa
open Go.RowKit
set_option linter.unusedVariables false

theorem els_bcells {w : World} {S : Nat → Prop} {g : Nat} {t : TypeId} {ms : List Bool} (hb : Blk' w g t (bcells ms)) (hS : S g) : Els w S ms (some ⟨g, 0, none⟩) :=
  fun _ => ⟨g, 0, rfl, hS, fun i x hi => ⟨[.bool x], rfl, fun j u hu => by
    match j, hu with
    | 0, hu =>
      simp at hu; subst hu
      have e : 0 + i * Dat.size Bool + 0 = i := by show 0 + i * 1 + 0 = i; omega
      rw [e, hb.cell]
      exact bcells_get hi⟩⟩
/-- What the law asks of a trimmed grammar. -/
theorem once_facts {g : Gram} {n : Nat} {l : List Int} {s : List Bool} (h : TrimS g n l s) : (∀ l', LFix (trimG g l s) (s.count true) l' → decide (false ∈ l'.map fun x => decide (0 ≤ x)) = false) ∧ (∀ s', RFix (trimG g l s) (fun _ => true) (s.count true) s' → decide (false ∈ s') = false) ∧
    (∀ l', LFix (trimG g l s) (s.count true) l' → ¬ l'.getD (trimG g l s).start.toNat 0 < 0) := by
  refine ⟨fun l' hl' => ?_, fun s' hs' => ?_, fun l' hl' => ?_⟩
  · rw [decide_eq_false_iff_not]
    intro hm
    obtain ⟨x, hx, he⟩ := List.mem_map.1 hm
    obtain ⟨i, hi, rfl⟩ := List.getElem_of_mem hx
    have h1 := h.ends hl' (k := i) (by have := hl'.shape.len; omega)
    rw [List.getD_eq_getElem?_getD, List.getElem?_eq_getElem hi] at h1
    simp at he h1
    omega
  · rw [decide_eq_false_iff_not, all_true hs'.len (fun k hk => h.reached hs' (fun _ _ => rfl) hk)]
    intro hm
    simp at hm
  · have h1 := h.ends hl' (k := toV s g.start.toNat) (toV_lt h.reach.start)
    show ¬ l'.getD ((toV s g.start.toNat : Nat) : Int).toNat 0 < 0
    rw [Int.toNat_natCast]
    omega

set_option maxRecDepth 100000 in
set_option maxHeartbeats 2000000 in
theorem usefulOnce_any (A0 : Option Addr) (c0 : Nat) (raw : List Int) (S0 : Nat → Prop) (w : World) (h1 : raw.length ≤ c0) (h2 : c0 ≤ 9223372036854775807) (hA0 : Els w S0 raw A0) (hS0 : ∀ b, S0 b → b < w.heap.size) :
    Calls Try.prog 7 #[.slice A0 raw.length c0] w fun e w' => e = .returned (.bool true) ∧ Below w.heap.size w w' := by
  go_enter Try.func7, Try.ntmps7
  go_wp2_with fail
  refine (grammar_any A0 c0 raw S0 _ h1 h2 hA0 hS0).mono ?_
  rintro e w1 ⟨g, v, hmade, rfl, hvl, hb1⟩
  obtain ⟨s, rfl, _, _, _, hs⟩ := hvl.gram
  obtain ⟨A, c, rfl, hlc, hc, hA⟩ := hs.slice
  have hck := made_check hmade
  have hvg := valid_of hck
  obtain ⟨t, nn, s0, rs⟩ := g
  dsimp only at *
  obtain ⟨n, hn⟩ : ∃ n : Nat, nn = (n : Int) := ⟨nn.toNat, by have := hvg.n1; dsimp only at this; omega⟩
  subst hn
  have HCk := Lib.hid hck
  have HV := Lib.hid hvg
  have HMd := Lib.hid hmade
  have hba : Below w1.heap.size w1 (w1.alloc (.cells #[.int .i64 t, .int .i64 (n : Int), .int .i64 s0, .slice A rs.length c] 38)) := (Below.refl _ _).alloc (Nat.le_refl _) _
  have HA1 := Lib.hid ((hA.keep (S' := fun b => b < w1.heap.size) (fun _ _ _ => rfl) (fun b hb => hb.2)).below hba)
  have HB1 := Lib.hid (bthen hb1 hba hb1.size)
  have hz1 : w.heap.size ≤ w1.heap.size := hb1.size
  clear hvl hs hA hb1 hba hmade hA0 hck hvg
  go_wp2_with fail
  refine (trim_any ⟨t, (n : Int), s0, rs⟩ n A c _ _ rfl HCk.out hlc hc HA1.out (fun b hb => by simp; omega)).mono ?_
  rintro e w3 hret
  rcases hret with ⟨l, s, vg, vn, vr, hts, rfl, hvg, hvn, hvr, hb3⟩ | ⟨l, hfix, hneg, rfl, hb3⟩
  · have HB3 := Lib.hid (bthen HB1.out hb3 HB1.out.size)
    obtain ⟨sg, rfl, _, _, _, hsg⟩ := hvg.gram
    obtain ⟨Ag, cg, rfl, hg1, hg2, hAg⟩ := hsg.slice
    obtain ⟨Ar, cr, rfl, _⟩ := hvr.form
    obtain ⟨An, cn, rfl, _⟩ := hvn.form
    have hckh := trim_check HMd.out rfl hts
    have hof := once_facts hts
    have hag := fun l' s' => @trim_again _ n l s hts l' s'
    have hvh := valid_of hckh
    obtain ⟨m, hm⟩ : ∃ m : Nat, m = s.count true := ⟨_, rfl⟩
    obtain ⟨h, hh⟩ : ∃ h, h = trimG ⟨t, (n : Int), s0, rs⟩ l s := ⟨_, rfl⟩
    have hnm : h.nons = (m : Int) := by rw [hh, hm]; rfl
    rw [← hh] at hckh hof hvh hg1 hAg hag
    rw [← hm] at hof hag
    rw [← hh]
    obtain ⟨ht, hn, hs, hrs⟩ := h
    dsimp only at hnm hg1 hAg hof hckh
    subst hnm
    have HCh := Lib.hid hckh
    have HOf := Lib.hid hof
    have HAg := Lib.hid hag
    have hhl : hrs.length ≤ 32 := hvh.len
    have hm10 : m ≤ 10 := by have := hvh.n10; dsimp only at this; omega
    have hba : Below w3.heap.size w3 (w3.alloc (.cells #[.int .i64 ht, .int .i64 (m : Int), .int .i64 hs, .slice Ag hrs.length cg] 38)) := (Below.refl _ _).alloc (Nat.le_refl _) _
    have HA4 := Lib.hid ((hAg.keep (S' := fun b => b < w3.heap.size) (fun _ _ _ => rfl) (fun b hb => hb.2)).below hba)
    have HB4 := Lib.hid (bthen HB3.out hba HB3.out.size)
    have HG4 := Lib.hid (Blk'.new w3 38 #[.int .i64 ht, .int .i64 (m : Int), .int .i64 hs, .slice Ag hrs.length cg])
    have hz3 := HB3.out.size
    clear hts hvg hsg hvn hvr hb3 hckh hof hag hAg hba hh hm HMd hvh
    go_wp2_with fail
    refine (works_any _).mono ?_
    rintro e w5 ⟨rfl, hb5⟩
    have HB5 := Lib.hid (bthen HB4.out hb5 HB4.out.size)
    have hG5 := HG4.out.below hb5 HG4.out.lt
    have HG5 := Lib.hid hG5
    have HA5 := Lib.hid (HA4.out.below hb5)
    have g0 : w5.cell? ⟨w3.heap.size, 0, none⟩ = some (.int .i64 ht) := hG5.cell 0
    have g1 : w5.cell? ⟨w3.heap.size, 1, none⟩ = some (.int .i64 (m : Int)) := hG5.cell 1
    have g2 : w5.cell? ⟨w3.heap.size, 2, none⟩ = some (.int .i64 hs) := hG5.cell 2
    have g3 : w5.cell? ⟨w3.heap.size, 3, none⟩ = some (.slice Ag hrs.length cg) := hG5.cell 3
    have hz5 : w3.heap.size < w5.heap.size := hG5.lt
    clear hb5 hG5 HG4 HA4 HB4
    go_wp2_with fail
    refine (ends_any ⟨ht, (m : Int), hs, hrs⟩ m Ag cg _ _ rfl HCh.out hg1 hg2 HA5.out (fun b hb => by omega)).mono ?_
    rintro e w6 ⟨va, la, rfl, hfa, hown, hb6⟩
    have HB6 := Lib.hid (bthen HB5.out hb6 HB5.out.size)
    have hG6 := HG5.out.below hb6 HG5.out.lt
    have HG6 := Lib.hid hG6
    have HA6 := Lib.hid (HA5.out.below hb6)
    obtain ⟨Aa, ca, rfl, ha1, ha2, _⟩ := hown.form
    have HFa := Lib.hid (HOf.out.1 la hfa)
    have HEa := Lib.hid (hown.vl.els).2.2.2
    have hal : (la.map fun x => decide (0 ≤ x)).length = m := by rw [List.length_map]; exact hfa.shape.len
    generalize (la.map fun x => decide (0 ≤ x)) = aa at *
    have k0 : w6.cell? ⟨w3.heap.size, 0, none⟩ = some (.int .i64 ht) := hG6.cell 0
    have k1 : w6.cell? ⟨w3.heap.size, 1, none⟩ = some (.int .i64 (m : Int)) := hG6.cell 1
    have k2 : w6.cell? ⟨w3.heap.size, 2, none⟩ = some (.int .i64 hs) := hG6.cell 2
    have k3 : w6.cell? ⟨w3.heap.size, 3, none⟩ = some (.slice Ag hrs.length cg) := hG6.cell 3
    have hz6 : w5.heap.size ≤ w6.heap.size := hb6.size
    have HAl := Lib.hid hal
    clear hown hfa hb6 hG6 HG5 HA5 HB5 g0 g1 g2 g3 hal
    go_wp2_with fail
    refine (reachedPub_any ⟨ht, (m : Int), hs, hrs⟩ m Ag cg _ _ rfl HCh.out hg1 hg2 HA6.out (fun b hb => by omega)).mono ?_
    rintro e w7 ⟨sb, sr, rfl, hfr, hSB, hsge, hb7⟩
    have HB7 := Lib.hid (bthen HB6.out hb7 HB6.out.size)
    have hG7 := HG6.out.below hb7 HG6.out.lt
    have HG7 := Lib.hid hG7
    have HA7 := Lib.hid (HA6.out.below hb7)
    have HEa7 := Lib.hid (HEa.out.below hb7)
    have HFr := Lib.hid (HOf.out.2.1 sr hfr)
    have HEr := Lib.hid (els_bcells (S := fun b => b < w7.heap.size) hSB hSB.lt)
    have HRl := Lib.hid hfr.len
    have q0 : w7.cell? ⟨w3.heap.size, 0, none⟩ = some (.int .i64 ht) := hG7.cell 0
    have q1 : w7.cell? ⟨w3.heap.size, 1, none⟩ = some (.int .i64 (m : Int)) := hG7.cell 1
    have q2 : w7.cell? ⟨w3.heap.size, 2, none⟩ = some (.int .i64 hs) := hG7.cell 2
    have q3 : w7.cell? ⟨w3.heap.size, 3, none⟩ = some (.slice Ag hrs.length cg) := hG7.cell 3
    have hz7 : w6.heap.size ≤ w7.heap.size := hb7.size
    clear hfr hSB hsge hb7 hG7 HG6 HA6 HB6 HEa k0 k1 k2 k3
    go_wp2_with fail
    refine (trim_any ⟨ht, (m : Int), hs, hrs⟩ m Ag cg _ _ rfl HCh.out hg1 hg2 HA7.out (fun b hb => by omega)).mono ?_
    rintro e w8 hret2
    rcases hret2 with ⟨l2, s2, vg2, vn2, vr2, hts2, rfl, hvg2, hvn2, hvr2, hb8⟩ | ⟨l2, hfix2, hneg2, rfl, hb8⟩
    · obtain ⟨e1, e2, e3⟩ := HAg.out l2 s2 hts2
      rw [e1] at hvg2
      obtain ⟨sg2, rfl, _, _, _, hsg2⟩ := hvg2.gram
      obtain ⟨Ag2, cg2, rfl, hh1, hh2, hAg2⟩ := hsg2.slice
      obtain ⟨Ar2, cr2, rfl, _⟩ := hvr2.form
      obtain ⟨An2, cn2, rfl, _⟩ := hvn2.form
      rw [e2, e3]
      dsimp only at *
      have hba : Below w8.heap.size w8 (w8.alloc (.cells #[.int .i64 ht, .int .i64 (m : Int), .int .i64 hs, .slice Ag2 hrs.length cg2] 38)) := (Below.refl _ _).alloc (Nat.le_refl _) _
      have hb9 := bthen hb8 hba hb8.size
      have HB9 := Lib.hid (bthen HB7.out hb9 HB7.out.size)
      have HA9 := Lib.hid (HA7.out.below hb9)
      have HA92 := Lib.hid ((hAg2.keep (S' := fun b => b < w8.heap.size) (fun _ _ _ => rfl) (fun b hb => hb.2)).below hba)
      have HEa9 := Lib.hid (HEa7.out.below hb9)
      have HEr9 := Lib.hid (HEr.out.below hb9)
      have HG9 := Lib.hid (HG7.out.below hb9 HG7.out.lt)
      have HH9 := Lib.hid (Blk'.new w8 38 #[.int .i64 ht, .int .i64 (m : Int), .int .i64 hs, .slice Ag2 hrs.length cg2])
      have hz8 : w7.heap.size ≤ w8.heap.size := hb8.size
      clear hts2 hvg2 hsg2 hvn2 hvr2 hb8 hb9 hba hAg2 e1 e2 e3 HG7 HA7 HB7 HEa7 HEr q0 q1 q2 q3
      go_wp2_with fail
      refine (containsBool_any Aa aa.length ca aa false _ _ rfl (by have := HAl.out; omega) HEa9.out).mono ?_
      rintro e w' ⟨rfl, rfl⟩
      rw [HFa.out]
      go_wp2_with fail
      refine (containsBool_any (some ⟨sb, 0, none⟩) m m sr false _ _ HRl.out.symm (by have := HRl.out; omega) HEr9.out).mono ?_
      rintro e w' ⟨rfl, rfl⟩
      rw [HFr.out]
      have p0 : (w8.alloc (.cells #[.int .i64 ht, .int .i64 (m : Int), .int .i64 hs, .slice Ag2 hrs.length cg2] 38)).cell? ⟨w3.heap.size, 0, none⟩ = some (.int .i64 ht) := HG9.out.cell 0
      have p1 : (w8.alloc (.cells #[.int .i64 ht, .int .i64 (m : Int), .int .i64 hs, .slice Ag2 hrs.length cg2] 38)).cell? ⟨w3.heap.size, 1, none⟩ = some (.int .i64 (m : Int)) := HG9.out.cell 1
      have p2 : (w8.alloc (.cells #[.int .i64 ht, .int .i64 (m : Int), .int .i64 hs, .slice Ag2 hrs.length cg2] 38)).cell? ⟨w3.heap.size, 2, none⟩ = some (.int .i64 hs) := HG9.out.cell 2
      have p3 : (w8.alloc (.cells #[.int .i64 ht, .int .i64 (m : Int), .int .i64 hs, .slice Ag2 hrs.length cg2] 38)).cell? ⟨w3.heap.size, 3, none⟩ = some (.slice Ag hrs.length cg) := HG9.out.cell 3
      have hw38 : w3.heap.size < w8.heap.size := by omega
      go_wp2_with fail
      refine (gSame_any ⟨ht, (m : Int), hs, hrs⟩ ⟨ht, (m : Int), hs, hrs⟩ Ag2 Ag cg2 cg _ _ _ ⟨hh1, hh2⟩ ⟨hg1, hg2⟩ HA92.out HA9.out).mono ?_
      rintro e w10 ⟨rfl, hb10⟩
      rw [decide_eq_true rfl]
      have HB10 := Lib.hid (bthen HB9.out hb10 HB9.out.size)
      have hG10 := HG9.out.below hb10 HG9.out.lt
      have r1 : w10.cell? ⟨w3.heap.size, 1, none⟩ = some (.int .i64 (m : Int)) := hG10.cell 1
      have r3 : w10.cell? ⟨w3.heap.size, 3, none⟩ = some (.slice Ag hrs.length cg) := hG10.cell 3
      clear hb10 hG10 p0 p1 p2 p3
      go_wp2
      go_ret
      exact ⟨rfl, HB10.out⟩
    · exfalso
      have hx := HOf.out.2.2 l2 hfix2
      dsimp only at hx hneg2
      omega
  · have HB3 := Lib.hid (bthen HB1.out hb3 HB1.out.size)
    have HB4 := Lib.hid (HB3.out.alloc HB3.out.size (.cells #[.int .i64 0, .int .i64 0, .int .i64 0, .slice none 0 0] 38))
    clear hfix hneg hb3
    go_wp2_with fail
    refine (works_any _).mono ?_
    rintro e w5 ⟨rfl, hb5⟩
    have HB5 := Lib.hid (bthen HB4.out hb5 HB4.out.size)
    clear hb5
    go_wp2
    go_ret
    exact ⟨rfl, HB5.out⟩

theorem usefulOnce_row (raw : List Int) (v0 : Value) (W : World) (h0 : Vl W (OldS W) raw v0) :
    Calls Try.prog 7 #[v0] W fun e W' => e = .returned (.bool true) ∧ Below W.heap.size W W' := by
  obtain ⟨A, c, rfl, k1, k2, hA⟩ := h0.slice
  exact usefulOnce_any A c raw (OldS W) W k1 k2 hA (fun b h => h)
end Go.Proofs.Ytlbhaegdcpacpaa
