/- Contracts: parlref2.ReachedOf and its search: what is marked is what is reached, at whatever predicate of rules. -/
import Derived.Test.YtpkfalhpkkponaaDoorUsefulRea
import Derived.Test.YtpkfalhpkkponaaDoorRReaP
import Derived.StillTailTactics
import Derived.Deep.RegionLaw
import Derived.Deep.DeepCutAuto
import Derived.Laws.EntriesVeiled
namespace Go.Proofs.YtpkfalhpkkponaaDoor
open Go.RowKit
set_option linter.unusedVariables false

/-- The search's world: the row's box, the grammar, the predicate and the search itself in their boxes; the row O is what turns. -/
structure VisW (w : World) (U G D V O n : Nat) (gt gn gs : Int) (A : Option Addr) (c : Nat) (rs : List Rule) (F : Nat) (caps : Array Value) (S : Nat → Prop) : Prop where
  u : Blk' w U 59 #[.slice (some ⟨O, 0, none⟩) n n]
  g : Blk' w G 25 #[.int .i64 gt, .int .i64 gn, .int .i64 gs, .slice A rs.length c]
  d : Blk' w D 69 #[.func (.func F) #[] caps]
  v : Blk' w V 125 #[.func (.func 73) #[] #[.pointer (some ⟨U, 0, none⟩), .pointer (some ⟨G, 0, none⟩), .pointer (some ⟨D, 0, none⟩), .pointer (some ⟨V, 0, none⟩)]]
  els : Els w S rs A
  apart : ∀ b, S b → b ≠ O
  ne : U ≠ O ∧ G ≠ O ∧ D ≠ O ∧ V ≠ O
theorem VisW.kept {w w' : World} {U G D V O n : Nat} {gt gn gs : Int} {A : Option Addr} {c : Nat} {rs : List Rule} {F : Nat} {caps : Array Value} {S : Nat → Prop} (h : VisW w U G D V O n gt gn gs A c rs F caps S) (k : Kept (fun b => b = O) w w') : VisW w' U G D V O n gt gn gs A c rs F caps S :=
  ⟨h.u.kept k h.ne.1, h.g.kept k h.ne.2.1, h.d.kept k h.ne.2.2.1, h.v.kept k h.ne.2.2.2, h.els.kept k h.apart, h.apart, h.ne⟩
def RetVis (g : Gram) (p : Rule → Bool) (O : Nat) (s : List Bool) (x : Nat) (w : World) (e : Ending) (w' : World) : Prop :=
  e = .returned (.tuple #[]) ∧ ∃ s', Grow g p s s' ∧ s'[x]? = some true ∧ Blk' w' O 4 (bcells s') ∧ Kept (fun b => b = O) w w'
/-- Some rules of a nonterminal are gone through. -/
def Done (p : Rule → Bool) (x : Nat) (rs : List Rule) (t : List Bool) : Prop := ∀ q ∈ rs, q.left.toNat = x → p q = true → ∀ y ∈ q.right, y.term = false → t[y.n.toNat]? = some true
def RvL (g : Gram) (p : Rule → Bool) (O x : Nat) (s1 : List Bool) (w : World) (i : Value) (wr : World) : Prop :=
  ∃ (j : Nat) (t : List Bool), j ≤ g.rules.length ∧ i = .int .i64 j ∧ Blk' wr O 4 (bcells t) ∧ Grow g p s1 t ∧ Done p x (g.rules.take j) t ∧ Kept (fun b => b = O) w wr
def RvS (g : Gram) (p : Rule → Bool) (O : Nat) (t0 : List Bool) (qr : List Sym) (w : World) (i : Value) (wr : World) : Prop :=
  ∃ (m : Nat) (t : List Bool), m ≤ qr.length ∧ i = .int .i64 m ∧ Blk' wr O 4 (bcells t) ∧ Grow g p t0 t ∧ (∀ y ∈ qr.take m, y.term = false → t[y.n.toNat]? = some true) ∧ Kept (fun b => b = O) w wr
theorem Done.mono {p : Rule → Bool} {x : Nat} {rs : List Rule} {s t : List Bool} (h : Done p x rs s) (hm : ∀ k : Nat, s[k]? = some true → t[k]? = some true) : Done p x rs t :=
  fun q hq hl hp y hy ht => hm _ (h q hq hl hp y hy ht)
theorem Done.next {p : Rule → Bool} {x : Nat} {rs : List Rule} {j : Nat} {q : Rule} {t : List Bool} (h : Done p x (rs.take j) t) (hq : rs[j]? = some q) (hn : q.left.toNat = x → p q = true → ∀ y ∈ q.right, y.term = false → t[y.n.toNat]? = some true) : Done p x (rs.take (j + 1)) t := by
  intro r hr
  rw [take_snoc hq] at hr
  rcases List.mem_append.1 hr with hr | hr
  · exact h r hr
  · simp at hr; subst hr; exact hn

set_option maxRecDepth 100000 in
set_option maxHeartbeats 4000000 in
theorem rvisit_any (g : Gram) (p : Rule → Bool) (F : Nat) (caps : Array Value) (n : Nat) (A : Option Addr) (c : Nat) (S : Nat → Prop) (w0 : World) (U G D V O : Nat) (hn : n ≤ 1000) (hlc : g.rules.length ≤ c) (hc : c ≤ 9223372036854775807) (hrr : RulesIn g n) (hgo : IsGo F)
    (hw0 : VisW w0 U G D V O n g.terms g.nons g.start A c g.rules F caps S)
    (hcall : ∀ (x : Rule) (W : World), x ∈ g.rules → Kept (fun b => b = O) w0 W → ∀ (A' : Option Addr) (c' : Nat), x.right.length ≤ c' → c' ≤ 9223372036854775807 → Els W S x.right A' →
      Calls Tryd.prog F (#[.agg #[.int .i64 x.left, .slice A' x.right.length c']] ++ caps) W fun e W' => e = .returned (.bool (p x)) ∧ Below W.heap.size W W') :
    ∀ (fuel x : Nat) (s : List Bool) (w : World), s.count false ≤ fuel → s.length = n → x < n → Rea g p x → Kept (fun b => b = O) w0 w → Blk' w O 4 (bcells s) →
    Calls Tryd.prog 73 #[.int .i64 (x : Int), .pointer (some ⟨U, 0, none⟩), .pointer (some ⟨G, 0, none⟩), .pointer (some ⟨D, 0, none⟩), .pointer (some ⟨V, 0, none⟩)] w (RetVis g p O s x w) := by
  have HC := Lib.hid hcall
  have hgo' : ∀ (args : Array Value) (W : World), (callFunc F args).run Tryd.prog W = .ok (.enter F args) W := hgo
  have HW0 := Lib.hid hw0
  have HRR := Lib.hid hrr
  have hrl9 : g.rules.length ≤ 9223372036854775807 := by omega
  clear hcall hgo hw0 hrr
  intro fuel
  induction fuel with
  | zero =>
    intro x s w hfu hsl hx hrx hk hB
    have hu := (HW0.out.kept hk).u
    have u0 : w.cell? ⟨U, 0, none⟩ = some (.slice (some ⟨O, 0, none⟩) n n) := hu.cell 0
    obtain ⟨sx, hsx⟩ := get_some (show x < s.length by omega)
    have hst : sx = true := by
      cases sx
      · have := List.count_pos_iff.2 (List.mem_of_getElem? hsx)
        omega
      · rfl
    subst hst
    have o0 : w.cell? ⟨O, x, none⟩ = some (.bool true) := (hB.cell _).trans (bcells_get hsx)
    have zU := hu.lt
    have zO := hB.lt
    have HR : Hid (Grow g p s s ∧ s[x]? = some true ∧ Blk' w O 4 (bcells s) ∧ Kept (fun b => b = O) w w) := Lib.hid ⟨Grow.refl _ _ _, hsx, hB, Kept.refl _ _⟩
    have hx9 : (x : Int) < (n : Int) := by omega
    clear hu hsx hB hk hrx
    go_enter Tryd.func73, Tryd.ntmps73
    go_wp2
    exact bodyPost_ret (v := .tuple #[]) (by simp [results, Tryd.results73, go_sem]) rfl ⟨rfl, s, HR.out⟩
  | succ fuel ih =>
    have IH := Lib.hid ih
    clear ih
    intro x s w hfu hsl hx hrx hk hB
    have hst0 := HW0.out.kept hk
    have hu := hst0.u
    have hgb := hst0.g
    have u0 : w.cell? ⟨U, 0, none⟩ = some (.slice (some ⟨O, 0, none⟩) n n) := hu.cell 0
    have zU := hu.lt
    have zO := hB.lt
    have zG := hgb.lt
    have hx9 : (x : Int) < (n : Int) := by omega
    obtain ⟨sx, hsx⟩ := get_some (show x < s.length by omega)
    have o0 : w.cell? ⟨O, x, none⟩ = some (.bool sx) := (hB.cell _).trans (bcells_get hsx)
    have f0 := hB.frozen x
    have g3 : w.cell? ⟨G, 3, none⟩ = some (.slice A g.rules.length c) := hgb.cell 3
    have HK := Lib.hid hk
    have HRx := Lib.hid hrx
    have HSx := Lib.hid hsx
    have HB := Lib.hid hB
    have neU : ¬ U = O := HW0.out.ne.1
    have neG : ¬ G = O := HW0.out.ne.2.1
    have neD : ¬ D = O := HW0.out.ne.2.2.1
    have neV : ¬ V = O := HW0.out.ne.2.2.2
    clear hst0 hu hgb hsx hB hk hrx
    cases sx
    · obtain ⟨w1, hw1⟩ : ∃ w1 : World, w1 = w.setCell ⟨O, x, none⟩ (.bool true) := ⟨_, rfl⟩
      obtain ⟨s1, hs1⟩ : ∃ s1, s1 = s.set x true := ⟨_, rfl⟩
      have HW1 := Lib.hid hw1
      have HB1 : Hid (Blk' w1 O 4 (bcells s1)) := Lib.hid (by rw [hw1, hs1, ← bcells_set]; exact HB.out.set_ x _)
      have HK1 : Hid (Kept (fun b => b = O) w w1) := Lib.hid (by rw [hw1]; exact (Kept.refl (fun b => b = O) w).setCell (p := ⟨O, x, none⟩) (.inl rfl) _)
      have HCt : Hid (s1.count false ≤ fuel) := Lib.hid (by rw [hs1]; have := set_count_lt HSx.out; omega)
      have HL1 : Hid (s1.length = n) := Lib.hid (by rw [hs1, List.length_set]; exact hsl)
      have HS1 := Lib.hid hs1
      have g31 : w1.cell? ⟨G, 3, none⟩ = some (.slice A g.rules.length c) := (HK1.out.cell (p := ⟨G, 3, none⟩) zG neG).trans g3
      clear hw1 hs1
      go_enter Tryd.func73, Tryd.ntmps73
      go_wp2_with fail
      rw [← HW1.out]
      clear u0 o0 f0 g3
      go_loopw [20] (fun i wr => RvL g p O x s1 w1 i wr) (fun i _ => g.rules.length - (intOf i).toNat)
      case atStart => exact ⟨0, s1, Nat.zero_le _, rfl, HB1.out, Grow.refl _ _ _, (by intro q hq; simp at hq), Kept.refl _ _⟩
      case round =>
        obtain ⟨wi, hwi⟩ : ∃ wi : World, wi = wr := ⟨_, rfl⟩
        subst hwi
        obtain ⟨j, t, hj, rfl, hB, hgr, hdn, hkp⟩ := hrel
        have H2 := Lib.hid (And.intro hB (And.intro hgr (And.intro hdn hkp)))
        have HKi : Hid (Kept (fun b => b = O) w0 wi) := Lib.hid ((HK.out.trans HK1.out).trans hkp)
        clear hB hgr hdn hkp g31
        by_cases hlt : j < g.rules.length
        · obtain ⟨q, hq⟩ := get_some hlt
          have hsti := HW0.out.kept HKi.out
          obtain ⟨bq, oq, Aq, cq, rfl, hSb, hbs, hi, hrc, hcr, hEr, hc0, hc1⟩ := hsti.els.rule hq
          obtain ⟨hl0, hl1, hr4, hsy⟩ := HRR.out q (List.mem_of_getElem? hq)
          have HQ := Lib.hid (And.intro hq (And.intro hsy (List.mem_of_getElem? hq)))
          obtain ⟨ql, qr⟩ := q
          dsimp only at hi hrc hcr hEr hc0 hc1 hl0 hl1 hr4 hsy
          obtain ⟨y0, rfl⟩ : ∃ y0 : Nat, ql = (y0 : Int) := ⟨ql.toNat, by omega⟩
          have hj0 : (0 : Int) ≤ (j : Int) := by omega
          have hd := hsti.d
          have d0 : wi.cell? ⟨D, 0, none⟩ = some (.func (.func F) #[] caps) := hd.cell 0
          have zD := hd.lt
          have hba2 : Below wi.heap.size wi (wi.alloc (.cells #[.int .i64 (y0 : Int), .slice Aq qr.length cq] 68)) := (Below.refl _ _).alloc (Nat.le_refl _) _
          have HQB := Lib.hid (Blk'.new wi 68 #[.int .i64 (y0 : Int), .slice Aq qr.length cq])
          have HEr := Lib.hid (hEr.below hba2)
          have HKa : Hid (Kept (fun b => b = O) w1 (wi.alloc (.cells #[.int .i64 (y0 : Int), .slice Aq qr.length cq] 68))) := Lib.hid (H2.out.2.2.2.below hba2)
          have HK0 : Hid (Kept (fun b => b = O) w0 (wi.alloc (.cells #[.int .i64 (y0 : Int), .slice Aq qr.length cq] 68))) := Lib.hid (HKi.out.below hba2)
          have HB2 := Lib.hid (H2.out.1.below hba2 H2.out.1.lt)
          have zD2 : D < wi.heap.size + 1 := by omega
          clear hq hsy hba2 hEr hi hsti hd
          by_cases hyx : y0 = x
          · subst hyx
            go_wp2_with fail
            refine (HC.out ⟨(y0 : Int), qr⟩ _ HQ.out.2.2 HK0.out Aq cq hrc hcr HEr.out).mono ?_
            rintro e w3 ⟨rfl, hb3⟩
            have hQ3 := HQB.out.below hb3 HQB.out.lt
            have q1 : w3.cell? ⟨wi.heap.size, 1, none⟩ = some (.slice Aq qr.length cq) := hQ3.cell 1
            have HEr3 := Lib.hid (HEr.out.below hb3)
            have HKa3 := Lib.hid (HKa.out.below hb3)
            have HK03 := Lib.hid (HK0.out.below hb3)
            have HB3 := Lib.hid (HB2.out.below hb3 HB2.out.lt)
            have hz3 : wi.heap.size < w3.heap.size := hQ3.lt
            clear hb3 hQ3 HEr HKa HK0 HB2 hc0 hc1 d0
            cases hp : p ⟨(y0 : Int), qr⟩
            · have HD : Hid (Done p y0 (g.rules.take (j + 1)) t) := Lib.hid (H2.out.2.2.1.next HQ.out.1 (fun _ h => by rw [hp] at h; cases h))
              clear hp
              go_wp2
              go_roundw
              case rel => exact ⟨j + 1, t, hlt, by go_num, HB3.out, H2.out.2.1, HD.out, HKa3.out⟩
              case measure => simp [intOf]; omega
            · have HP := Lib.hid hp
              clear hp
              have hqlen : qr.length ≤ 9223372036854775807 := by omega
              go_wp2_with fail
              go_loopw [37] (fun i wr => RvS g p O t qr w3 i wr) (fun i _ => qr.length - (intOf i).toNat)
              case atStart => exact ⟨0, t, Nat.zero_le _, rfl, HB3.out, Grow.refl _ _ _, by simp, Kept.refl _ _⟩
              case round =>
                obtain ⟨wz, hwz⟩ : ∃ wz : World, wz = wr := ⟨_, rfl⟩
                subst hwz
                obtain ⟨m, u, hm, rfl, hBm, hgm, hdm, hkz⟩ := hrel
                have HM := Lib.hid (And.intro hBm (And.intro hgm (And.intro hdm hkz)))
                have hz4 : w3.heap.size ≤ wz.heap.size := hkz.size
                have HKz : Hid (Kept (fun b => b = O) w0 wz) := Lib.hid (HK03.out.trans hkz)
                clear hBm hgm hdm hkz q1
                by_cases hml : m < qr.length
                · obtain ⟨y, hy⟩ := get_some hml
                  have Hts := Lib.hid (take_snoc hy)
                  have HYm := Lib.hid (List.mem_of_getElem? hy)
                  have hsr := HQ.out.2.1 y (List.mem_of_getElem? hy)
                  obtain ⟨yt, yn⟩ := y
                  obtain ⟨by_, oy, rfl, hSy, hbsy, hyi, hyc0, hyc1⟩ := (HEr3.out.kept HM.out.2.2.2 HW0.out.apart).sym hy
                  dsimp only at hyi hyc0 hyc1 hsr
                  have hm0 : (0 : Int) ≤ (m : Int) := by omega
                  have hsn := hsr.1
                  obtain ⟨z, rfl⟩ : ∃ z : Nat, yn = (z : Int) := ⟨yn.toNat, by omega⟩
                  have hv := (HW0.out.kept HKz.out).v
                  have v0 : wz.cell? ⟨V, 0, none⟩ = some (.func (.func 73) #[] #[.pointer (some ⟨U, 0, none⟩), .pointer (some ⟨G, 0, none⟩), .pointer (some ⟨D, 0, none⟩), .pointer (some ⟨V, 0, none⟩)]) := hv.cell 0
                  have zV := hv.lt
                  have zV2 : V < wz.heap.size + 1 := by omega
                  clear hy hyi hv
                  cases yt
                  · have hzn : z < n := by have := hsr.2 rfl; omega
                    have hba3 : Below wz.heap.size wz (wz.alloc (.cells #[.bool false, .int .i64 (z : Int)] 82)) := (Below.refl _ _).alloc (Nat.le_refl _) _
                    have HKz2 := Lib.hid (HKz.out.below hba3)
                    have HMz2 := Lib.hid (HM.out.2.2.2.below hba3)
                    have HBz2 := Lib.hid (HM.out.1.below hba3 HM.out.1.lt)
                    have hcu : u.count false ≤ fuel := by
                      have h1 := HM.out.2.1.count
                      have h2 := H2.out.2.1.count
                      have h3 := HCt.out
                      omega
                    have hul : u.length = n := by rw [HM.out.2.1.len, H2.out.2.1.len]; exact HL1.out
                    clear hsr hba3
                    go_wp2_with fail
                    refine (IH.out z u _ hcu hul hzn ?hrea HKz2.out HBz2.out).mono ?_
                    case hrea =>
                      have h := Rea.step ⟨(y0 : Int), qr⟩ HQ.out.2.2 (show Rea g p ((y0 : Int)).toNat by simpa using HRx.out) HP.out ⟨false, (z : Int)⟩ HYm.out rfl
                      simpa using h
                    rintro e w5 ⟨rfl, u', hg5, hz5, hB5, hk5⟩
                    have H5 := Lib.hid (And.intro hg5 (And.intro hz5 (And.intro hB5 hk5)))
                    clear hg5 hz5 hB5 hk5 v0
                    go_wp2
                    go_roundw
                    case rel =>
                      refine ⟨m + 1, u', hml, by go_num, H5.out.2.2.1, HM.out.2.1.trans H5.out.1, ?_, HMz2.out.trans H5.out.2.2.2⟩
                      intro y' hy' ht'
                      rw [Hts.out] at hy'
                      rcases List.mem_append.1 hy' with hy' | hy'
                      · exact H5.out.1.mono _ (HM.out.2.2.1 y' hy' ht')
                      · simp at hy'; subst hy'; exact H5.out.2.1
                    case measure => simp [intOf]; omega
                  · have HKn : Hid (∀ o : Obj, Kept (fun k => k = O) w3 (wz.alloc o)) := Lib.hid (fun o => HM.out.2.2.2.alloc o)
                    have HBn : Hid (∀ o : Obj, Blk' (wz.alloc o) O 4 (bcells u)) := Lib.hid (fun o => HM.out.1.alloc o)
                    clear hsr v0
                    go_wp2
                    go_roundw
                    case rel =>
                      refine ⟨m + 1, u, hml, by go_num, HBn.out _, HM.out.2.1, ?_, HKn.out _⟩
                      intro y' hy' ht'
                      rw [Hts.out] at hy'
                      rcases List.mem_append.1 hy' with hy' | hy'
                      · exact HM.out.2.2.1 y' hy' ht'
                      · simp at hy'; subst hy'; cases ht'
                    case measure => simp [intOf]; omega
                · have HE := Lib.hid (show qr.take m = qr from List.take_of_length_le (by omega))
                  have HD : Hid (Done p y0 (g.rules.take (j + 1)) u) := Lib.hid ((H2.out.2.2.1.mono HM.out.2.1.mono).next HQ.out.1 (fun _ _ y hy ht => HM.out.2.2.1 y (by rw [HE.out]; exact hy) ht))
                  go_wp2
                  go_roundw
                  case rel => exact ⟨j + 1, u, hlt, by go_num, HM.out.1, H2.out.2.1.trans HM.out.2.1, HD.out, HKa3.out.trans HM.out.2.2.2⟩
                  case measure => simp [intOf]; omega
          · have HD : Hid (Done p x (g.rules.take (j + 1)) t) := Lib.hid (H2.out.2.2.1.next HQ.out.1 (fun h => absurd (by simpa using h) hyx))
            have hyx9 : ¬ (y0 : Int) = (x : Int) := by omega
            go_wp2
            go_roundw
            case rel => exact ⟨j + 1, t, hlt, by go_num, HB2.out, H2.out.2.1, HD.out, HKa.out⟩
            case measure => simp [intOf]; omega
        · have HE := Lib.hid (show g.rules.take j = g.rules from List.take_of_length_le (by omega))
          have HV : Hid (Grow g p s t ∧ t[x]? = some true) := Lib.hid (by
            have h := H2.out.2.1
            rw [HS1.out] at h
            exact Grow.visit (by omega) HRx.out h (fun q hq hl hp y hy ht => H2.out.2.2.1 q (by rw [HE.out]; exact hq) hl hp y hy ht))
          go_wp2
          exact bodyPost_ret (v := .tuple #[]) (by simp [results, Tryd.results73, go_sem]) rfl ⟨rfl, t, HV.out.1, HV.out.2, H2.out.1, HK1.out.trans H2.out.2.2.2⟩
    · have HR : Hid (Grow g p s s ∧ s[x]? = some true ∧ Blk' w O 4 (bcells s) ∧ Kept (fun b => b = O) w w) := Lib.hid ⟨Grow.refl _ _ _, HSx.out, HB.out, Kept.refl _ _⟩
      go_enter Tryd.func73, Tryd.ntmps73
      go_wp2
      exact bodyPost_ret (v := .tuple #[]) (by simp [results, Tryd.results73, go_sem]) rfl ⟨rfl, s, HR.out⟩

def RetRRea (g : Gram) (p : Rule → Bool) (n : Nat) (w : World) (e : Ending) (w' : World) : Prop :=
  ∃ b s, e = .returned (.slice (some ⟨b, 0, none⟩) n n) ∧ RSet g p n s ∧ Blk' w' b 4 (bcells s) ∧ w.heap.size ≤ b ∧ Below w.heap.size w w'
set_option maxRecDepth 100000 in
set_option maxHeartbeats 4000000 in
theorem rreached_any (g : Gram) (p : Rule → Bool) (F : Nat) (caps : Array Value) (n : Nat) (A : Option Addr) (c : Nat) (S : Nat → Prop) (w : World) (hgn : g.nons = (n : Int)) (hn : n ≤ 1000) (hgs : 0 ≤ g.start ∧ g.start.toNat < n) (hlc : g.rules.length ≤ c) (hc : c ≤ 9223372036854775807) (hA : Els w S g.rules A) (hS : ∀ b, S b → b < w.heap.size)
    (hrr : RulesIn g n) (hgo : IsGo F)
    (hcall : ∀ (x : Rule) (W : World), x ∈ g.rules → Below w.heap.size w W → ∀ (A' : Option Addr) (c' : Nat), x.right.length ≤ c' → c' ≤ 9223372036854775807 → Els W S x.right A' →
      Calls Tryd.prog F (#[.agg #[.int .i64 x.left, .slice A' x.right.length c']] ++ caps) W fun e W' => e = .returned (.bool (p x)) ∧ Below W.heap.size W W') :
    Calls Tryd.prog 32 #[.agg #[.int .i64 g.terms, .int .i64 g.nons, .int .i64 g.start, .slice A g.rules.length c], .func (.func F) #[] caps] w (RetRRea g p n w) := by
  have hmk := mkBools n (by omega)
  obtain ⟨s0, hs0⟩ : ∃ s0 : Nat, g.start = (s0 : Int) := ⟨g.start.toNat, by omega⟩
  have hs0n : s0 < n := by omega
  obtain ⟨w0, hw0⟩ : ∃ w0 : World, w0 = ((((w.alloc (.cells #[.int .i64 g.terms, .int .i64 (n : Int), .int .i64 (s0 : Int), .slice A g.rules.length c] 25)).alloc (.cells #[.func (.func F) #[] caps] 69)).alloc (.cells (bcells (List.replicate n false)) 4)).alloc (.cells #[.slice (some ⟨w.heap.size + 1 + 1, 0, none⟩) n n] 59)) := ⟨_, rfl⟩
  have hz0 : w0.heap.size = w.heap.size + 4 := by rw [hw0]; simp
  obtain ⟨w1, hw1⟩ : ∃ w1 : World, w1 = w0.alloc (.cells #[.func (.func 73) #[] #[.pointer (some ⟨w.heap.size + 1 + 1 + 1, 0, none⟩), .pointer (some ⟨w.heap.size, 0, none⟩), .pointer (some ⟨w.heap.size + 1, 0, none⟩), .pointer (some ⟨w0.heap.size, 0, none⟩)]] 125) := ⟨_, rfl⟩
  have hb0 : Below w.heap.size w w0 := by rw [hw0]; exact ((((Below.refl _ _).alloc (Nat.le_refl _) _).alloc (by simp) _).alloc (by simp; omega) _).alloc (by simp; omega) _
  have hb1 : Below w.heap.size w w1 := by rw [hw1]; exact hb0.alloc (by omega) _
  have hG0 : Blk' w0 w.heap.size 25 #[.int .i64 g.terms, .int .i64 (n : Int), .int .i64 (s0 : Int), .slice A g.rules.length c] := by rw [hw0]; exact (((Blk'.new w _ _).alloc _).alloc _).alloc _
  have hG : Blk' w1 w.heap.size 25 #[.int .i64 g.terms, .int .i64 (n : Int), .int .i64 (s0 : Int), .slice A g.rules.length c] := by rw [hw1]; exact hG0.alloc _
  have hD : Blk' w1 (w.heap.size + 1) 69 #[.func (.func F) #[] caps] := by rw [hw1, hw0]; exact (((Blk'.new' _ _ _ (by simp)).alloc _).alloc _).alloc _
  have hO : Blk' w1 (w.heap.size + 1 + 1) 4 (bcells (List.replicate n false)) := by rw [hw1, hw0]; exact ((Blk'.new' _ _ _ (by simp)).alloc _).alloc _
  have hU : Blk' w1 (w.heap.size + 1 + 1 + 1) 59 #[.slice (some ⟨w.heap.size + 1 + 1, 0, none⟩) n n] := by rw [hw1, hw0]; exact (Blk'.new' _ _ _ (by simp)).alloc _
  have hV : Blk' w1 w0.heap.size 125 #[.func (.func 73) #[] #[.pointer (some ⟨w.heap.size + 1 + 1 + 1, 0, none⟩), .pointer (some ⟨w.heap.size, 0, none⟩), .pointer (some ⟨w.heap.size + 1, 0, none⟩), .pointer (some ⟨w0.heap.size, 0, none⟩)]] := by rw [hw1]; exact Blk'.new' _ _ _ rfl
  have hvw : VisW w1 (w.heap.size + 1 + 1 + 1) w.heap.size (w.heap.size + 1) w0.heap.size (w.heap.size + 1 + 1) n g.terms g.nons g.start A c g.rules F caps S := by
    rw [hgn, hs0]
    exact ⟨hU, hG, hD, hV, hA.below hb1, fun b hb => by have := hS b hb; omega, by omega, by omega, by omega, by omega⟩
  have hkb : ∀ W, Kept (fun b => b = w.heap.size + 1 + 1) w1 W → Below w.heap.size w W := fun W hk => bthen hb1 (hk.to_below (B := w.heap.size) (fun b hb => by omega) hb1.size) (Nat.le_refl _)
  have hvis := rvisit_any g p F caps n A c S w1 _ _ _ _ _ hn hlc hc hrr hgo hvw (fun x W hx hW => hcall x W hx (hkb W hW)) n s0 (List.replicate n false) w1 (by rw [List.count_replicate]; simp) (by simp) hs0n (by have h := Rea.start (g := g) (p := p); rw [hs0] at h; simpa using h) (Kept.refl _ _) hO
  have HVis := Lib.hid hvis
  have HB1 := Lib.hid hb1
  have HW1 := Lib.hid hw1
  have HW0 := Lib.hid hw0
  have HZ0 := Lib.hid hz0
  have zF : w.heap.size + 1 + 1 + 1 < w0.heap.size := by omega
  have zG0 : w.heap.size < w0.heap.size := by omega
  have g20 : w0.cell? ⟨w.heap.size, 2, none⟩ = some (.int .i64 (s0 : Int)) := hG0.cell 2
  have HKb := Lib.hid hkb
  have v0 : w1.cell? ⟨w0.heap.size, 0, none⟩ = some (.func (.func 73) #[] #[.pointer (some ⟨w.heap.size + 1 + 1 + 1, 0, none⟩), .pointer (some ⟨w.heap.size, 0, none⟩), .pointer (some ⟨w.heap.size + 1, 0, none⟩), .pointer (some ⟨w0.heap.size, 0, none⟩)]) := hV.cell 0
  have g2 : w1.cell? ⟨w.heap.size, 2, none⟩ = some (.int .i64 (s0 : Int)) := hG.cell 2
  have HU := Lib.hid hU
  have zV := hV.lt
  have zG := hG.lt
  have HS0 := Lib.hid hs0
  clear hvis hb1 hw1 hw0 hb0 hG0 hz0 hkb hG hD hO hU hV hvw hcall hA hrr hgs hgo
  rw [hgn, hs0]
  go_enter Tryd.func32, Tryd.ntmps32
  go_upto_region 2 with (fail)
  rw [← HW0.out]
  go_wp2_with fail
  rw [← HW1.out]
  refine HVis.out.mono ?_
  rintro e w2 ⟨rfl, s, hgr, hst, hB, hk⟩
  have hU2 := HU.out.kept hk (by omega)
  have u0 : w2.cell? ⟨w.heap.size + 1 + 1 + 1, 0, none⟩ = some (.slice (some ⟨w.heap.size + 1 + 1, 0, none⟩) n n) := hU2.cell 0
  have zU := hU2.lt
  have HR : Hid (RSet g p n s ∧ Blk' w2 (w.heap.size + 1 + 1) 4 (bcells s) ∧ Below w.heap.size w w2) := Lib.hid ⟨RSet.of_grow hgr (by rw [HS0.out]; simpa using hst), hB, HKb.out _ hk⟩
  clear hgr hst hB hk hU2 v0 g2
  go_wp2
  go_ret
  exact ⟨_, s, rfl, HR.out.1, HR.out.2.1, by omega, HR.out.2.2⟩
end Go.Proofs.YtpkfalhpkkponaaDoor
