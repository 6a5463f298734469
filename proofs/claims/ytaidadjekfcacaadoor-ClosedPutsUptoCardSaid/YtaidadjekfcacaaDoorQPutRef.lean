/- Contract: parlref2.Put. -/
import Derived.Test.YtaidadjekfcacaaDoorQConcatRule
import Derived.Test.YtaidadjekfcacaaDoorQClosedE
import Derived.Test.YtaidadjekfcacaaDoorQGramErr
namespace Go.Proofs.YtaidadjekfcacaaDoor
open Go.RowKit
set_option linter.unusedVariables false

/-- Two grammars put together, a terminal replaced, more rules. -/
def putT (a : Gram) (t : Int) (b : Gram) : List Rule := a.rules.map (putR t (a.nons + b.start)) ++ b.rules.map (shR a.nons)
def putAll (a : Gram) (t : Int) (b : Gram) (more : List Rule) : Gram :=
  if more = [] then ⟨a.terms, a.nons + b.nons, a.start, putT a t b⟩ else ⟨a.terms, a.nons + b.nons + 1, a.nons + b.nons, putT a t b ++ more⟩
/-- A grammar and an error are returned: whatever memory it leads to. -/
def RetQ (S : Nat → Prop) (r : Gram × Int) (w : World) (e : Ending) (w' : World) : Prop :=
  ∃ (A : Option Addr) (c : Nat), e = .returned (.tuple #[.agg #[.int .i64 r.1.terms, .int .i64 r.1.nons, .int .i64 r.1.start, .slice A r.1.rules.length c], .int .i64 r.2]) ∧ r.1.rules.length ≤ c ∧ c ≤ 9223372036854775807 ∧ Els w' (fun b => (S b ∨ w.heap.size ≤ b) ∧ b < w'.heap.size) r.1.rules A ∧ Below w.heap.size w w'
theorem RetP.q {S : Nat → Prop} {r : Gram × Int} {w w' : World} {e : Ending} (h : RetP r w e w') : RetQ S r w e w' := by
  obtain ⟨A, c, he, h1, h2, h3, h4⟩ := h
  exact ⟨A, c, he, h1, h2, h3.keep (fun _ _ _ => rfl) (fun b h => ⟨.inr h.1, h.2⟩), h4⟩
theorem putT_get {a b : Gram} {t : Int} {i : Nat} {q : Rule} (h : (a.rules ++ b.rules)[i]? = some q) : (putT a t b)[i]? = some (if a.rules.length ≤ i then shR a.nons q else putR t (a.nons + b.start) q) := by
  unfold putT
  split
  · rename_i hle
    rw [List.getElem?_append_right hle] at h
    rw [List.getElem?_append_right (by simpa using hle), List.length_map, List.getElem?_map, h]; rfl
  · rename_i hle
    rw [List.getElem?_append_left (by omega)] at h
    rw [List.getElem?_append_left (by rw [List.length_map]; omega), List.getElem?_map, h]; rfl
theorem putT_len (a : Gram) (t : Int) (b : Gram) : (putT a t b).length = (a.rules ++ b.rules).length := by simp [putT]
/-- What stays on the way: the rules so far. -/
def PuO (T : List Rule) (c0 c1 c2 : Value) (n ob : Nat) (S : Nat → Prop) (w3 : World) (i : Value) (wr : World) : Prop :=
  ∃ (j : Nat) (v : Value), j ≤ n ∧ i = .int .i64 j ∧ Own wr S w3.heap.size 61 v (T.take j) ∧ Blk' wr ob 25 #[c0, c1, c2, v] ∧ Kept (fun b => b = ob) w3 wr
def PuS (r : List Sym) (F : Sym → Sym) (L : Int) (xb : Nat) (wx : World) (i : Value) (wr : World) : Prop :=
  ∃ (s : Nat) (v : Value), s ≤ r.length ∧ i = .int .i64 s ∧ Own wr (fun _ => False) wx.heap.size 64 v ((r.take s).map F) ∧ Blk' wr xb 61 #[.int .i64 L, v] ∧ Kept (fun b => b = xb) wx wr

set_option maxRecDepth 100000 in
set_option maxHeartbeats 16000000 in
theorem put_ref (a b : Gram) (t : Int) (more : List Rule) (A B C : Option Addr) (c d f : Nat) (S : Nat → Prop) (w : World) (hva : ValidG a) (hb64 : 0 ≤ b.terms ∧ b.terms ≤ 100 ∧ 0 ≤ b.nons ∧ b.nons ≤ 100 ∧ 0 ≤ b.start ∧ b.start ≤ 100) (hvb : b.rules.length ≤ 32 ∧ ∀ q ∈ b.rules, (0 ≤ q.left ∧ q.left ≤ 100) ∧ q.right.length ≤ 4 ∧ ∀ s ∈ q.right, 0 ≤ s.n ∧ s.n ≤ 100) (hml : more.length ≤ 10) (hlc : a.rules.length ≤ c) (hc : c ≤ 9223372036854775807) (hA : Els w S a.rules A) (hld : b.rules.length ≤ d) (hd : d ≤ 9223372036854775807) (hB : Els w S b.rules B) (hlf : more.length ≤ f) (hf : f ≤ 9223372036854775807) (hC : Els w S more C) (hS : ∀ b, S b → b < w.heap.size) :
    Calls Tryd.prog 30 #[.agg #[.int .i64 a.terms, .int .i64 a.nons, .int .i64 a.start, .slice A a.rules.length c], .agg #[.int .i64 b.terms, .int .i64 b.nons, .int .i64 b.start, .slice B b.rules.length d], .int .i64 t, .slice C more.length f] w (RetQ S (mkR (putAll a t b more)) w) := by
  have hval := hva.rules
  have hal : a.rules.length ≤ 32 := hva.len
  have ht8 := hva.t8
  have ht1 := hva.t1
  have hn1 := hva.n1
  have hn10 : a.nons ≤ 10 := hva.n10
  have hs0 := hva.s0
  have hs1 := hva.s1
  obtain ⟨T, hT⟩ : ∃ T, T = putT a t b := ⟨_, rfl⟩
  have HT := Lib.hid hT
  have hTl : T.length = (a.rules ++ b.rules).length := by rw [hT]; exact putT_len a t b
  have HG : Hid (∀ i q, (a.rules ++ b.rules)[i]? = some q → T[i]? = some (if a.rules.length ≤ i then shR a.nons q else putR t (a.nons + b.start) q)) := Lib.hid (fun i q h => by rw [hT]; exact putT_get h)
  obtain ⟨r, hr⟩ : ∃ r, r = mkR (putAll a t b more) := ⟨_, rfl⟩
  have HRq : Hid (r = mkR (if more = [] then ⟨a.terms, a.nons + b.nons, a.start, T⟩ else ⟨a.terms, a.nons + b.nons + 1, a.nons + b.nons, T ++ more⟩)) := Lib.hid (by rw [hr, hT]; rfl)
  have HC := Lib.hid hC
  have HS := Lib.hid hS
  rw [← hr]
  clear hT hr hva hC
  obtain ⟨at_, an, ss, ars⟩ := a
  obtain ⟨bt, bn, bs, brs⟩ := b
  dsimp only at *
  have hbr := hvb.1
  have HVr := Lib.hid (And.intro hval hvb.2)
  obtain ⟨L, hL⟩ : ∃ L, L = ars ++ brs := ⟨_, rfl⟩
  rw [← hL] at hTl HG
  have hLl : L.length ≤ 64 := by rw [hL, List.length_append]; omega
  have HLv : Hid (∀ q ∈ L, (0 ≤ q.left ∧ q.left ≤ 100) ∧ q.right.length ≤ 4 ∧ ∀ s ∈ q.right, 0 ≤ s.n ∧ s.n ≤ 100) := Lib.hid (fun q hq => by
    rw [hL, List.mem_append] at hq
    rcases hq with hq | hq
    · obtain ⟨h1, h2, h3, h4⟩ := hval q hq
      refine ⟨⟨h1, by omega⟩, h3, fun s hs => ?_⟩
      have h5 := h4 s hs
      split at h5 <;> omega
    · exact hvb.2 q hq)
  have HLe := Lib.hid hL
  have HTl := Lib.hid hTl
  clear hL hval hvb hTl
  obtain ⟨w1, hw1⟩ : ∃ w1 : World, w1 = (((w.alloc (.cells #[.int .i64 at_, .int .i64 an, .int .i64 ss, .slice A ars.length c] 25)).alloc (.cells #[.int .i64 bt, .int .i64 bn, .int .i64 bs, .slice B brs.length d] 25)).alloc (.cells #[.int .i64 0, .int .i64 0, .int .i64 0, .slice none 0 0] 25)).alloc (.cells #[.int .i64 at_, .int .i64 (an + bn), .int .i64 ss, .slice none 0 0] 25) := ⟨_, rfl⟩
  have HW1 := Lib.hid hw1
  have hb1 : Below w.heap.size w w1 := by rw [hw1]; exact (((((Below.refl _ _).alloc (Nat.le_refl _) _).alloc (by simp) _).alloc (by simp; omega) _).alloc (by simp; omega) _)
  have HZ1 : Hid (w1.heap.size = w.heap.size + 1 + 1 + 1 + 1) := Lib.hid (by rw [hw1]; simp)
  have HA1 : Hid (Blk' w1 w.heap.size 25 #[.int .i64 at_, .int .i64 an, .int .i64 ss, .slice A ars.length c]) := Lib.hid (by rw [hw1]; exact (((Blk'.new w _ _).alloc _).alloc _).alloc _)
  have HB1 : Hid (Blk' w1 (w.heap.size + 1) 25 #[.int .i64 bt, .int .i64 bn, .int .i64 bs, .slice B brs.length d]) := Lib.hid (by rw [hw1]; exact ((Blk'.new' (g := w.heap.size + 1) _ _ _ (by simp)).alloc _).alloc _)
  have HR1 : Hid (Blk' w1 (w.heap.size + 1 + 1) 25 #[.int .i64 0, .int .i64 0, .int .i64 0, .slice none 0 0]) := Lib.hid (by rw [hw1]; exact (Blk'.new' (g := w.heap.size + 1 + 1) _ _ _ (by simp)).alloc _)
  have HO1 : Hid (Blk' w1 (w.heap.size + 1 + 1 + 1) 25 #[.int .i64 at_, .int .i64 (an + bn), .int .i64 ss, .slice none 0 0]) := Lib.hid (by rw [hw1]; exact Blk'.new' _ _ _ (by simp))
  have HBl1 := Lib.hid hb1
  have hEA1 := hA.belowB hb1 hS
  have hEB1 := hB.belowB hb1 hS
  have hwr0 : IntKind.i64.wrap (an + bn) = an + bn := IntWalk.i64_in _ (by omega)
  have a3 : w1.cell? ⟨w.heap.size, 3, none⟩ = some (.slice A ars.length c) := HA1.out.cell 3
  have b3 : w1.cell? ⟨w.heap.size + 1, 3, none⟩ = some (.slice B brs.length d) := HB1.out.cell 3
  have zA : w.heap.size < w1.heap.size := HA1.out.lt
  have zB : w.heap.size + 1 < w1.heap.size := HB1.out.lt
  -- the row of the two lists of rules
  have hba : Below w1.heap.size w1 (w1.alloc (.cells #[.slice A ars.length c, .slice B brs.length d] 23)) := (Below.refl _ _).alloc (Nat.le_refl _) _
  have HP : Hid (Els (w1.alloc (.cells #[.slice A ars.length c, .slice B brs.length d] 23)) (fun b => S b ∨ b = w1.heap.size) [ars, brs] (some ⟨w1.heap.size, 0, none⟩)) := Lib.hid (els_of_blk [[.slice A ars.length c], [.slice B brs.length d]] (Blk'.new w1 _ _) rfl rfl (rd_two (rd_of_slice (Vl.of_slice rfl hlc hc ((hEA1.below hba).keep (fun _ _ _ => rfl) (fun b h => .inl h)))) (rd_of_slice (Vl.of_slice rfl hld hd ((hEB1.below hba).keep (fun _ _ _ => rfl) (fun b h => .inl h))))) (.inr rfl))
  have hSz : ∀ b, S b → b < w1.heap.size := fun b h => by have := hS b h; have := hb1.size; omega
  have HSz := Lib.hid hSz
  clear hw1 hb1 hA hB hEA1 hEB1 hba hSz hS
  go_enter Tryd.func30, Tryd.ntmps30
  go_upto_region 2 with (fail)
  rw [← HW1.out]
  go_wp2_with fail
  refine (concatRule_any (some ⟨w1.heap.size, 0, none⟩) 2 [ars, brs] (fun b => S b ∨ b = w1.heap.size) _ (by simp) HP.out (fun b hb => by rcases hb with hb | hb; have := HSz.out b hb; simp; omega; simp; omega) (by simp; omega)).mono ?_
  rintro e w3 ⟨vL, rfl, hownL, hb3⟩
  rw [show [ars, brs].flatten = L by rw [HLe.out]; simp] at hownL
  obtain ⟨AL, cL, rfl, hL1, hL2, _⟩ := hownL.form
  have HLs := Lib.hid (hownL.vl.els.2.2.2)
  have hb3' : Below w1.heap.size w1 w3 := by
    refine bthen ((Below.refl _ _).alloc (Nat.le_refl _) _) hb3 ?_
    simp
  have hz3 : w1.heap.size + 1 ≤ w3.heap.size := by have := hb3.size; simpa using this
  have HZ3 := Lib.hid hz3
  have HB3 := Lib.hid hb3'
  have HBl3 := Lib.hid (bthen HBl1.out hb3' HBl1.out.size)
  have HA3 := Lib.hid (HA1.out.below hb3' HA1.out.lt)
  have HBb3 := Lib.hid (HB1.out.below hb3' HB1.out.lt)
  have HR3 := Lib.hid (HR1.out.below hb3' HR1.out.lt)
  have HO3 := Lib.hid (HO1.out.below hb3' HO1.out.lt)
  have HC3 := Lib.hid (HC.out.belowB HBl3.out HS.out)
  have hLl9 : L.length ≤ 9223372036854775807 := by omega
  clear hownL hb3 hb3' hz3 a3 b3 zA zB
  go_wp2_with fail
  go_loopw [35] (fun i wr => PuO T (.int .i64 at_) (.int .i64 (an + bn)) (.int .i64 ss) L.length (w.heap.size + 1 + 1 + 1) S w3 i wr) (fun i _ => L.length - (intOf i).toNat)
  case atStart => exact ⟨0, _, Nat.zero_le _, rfl, by simpa using Own.nil _ _ _ _, HO3.out, Kept.refl _ _⟩
  case round =>
    obtain ⟨wz, hwz⟩ : ∃ wz : World, wz = wr := ⟨_, rfl⟩
    subst hwz
    obtain ⟨j, v, hj, rfl, hown, hO, hkp⟩ := hrel
    obtain ⟨Az, cz, rfl, hcz1, hcz2, _⟩ := hown.form
    have HOz := Lib.hid hown
    have HOb := Lib.hid hO
    have HKz := Lib.hid hkp
    have zKz : w3.heap.size ≤ wz.heap.size := hkp.size
    obtain ⟨R1, hR1⟩ : ∃ R1, R1 = T.take j := ⟨_, rfl⟩
    rw [← hR1] at HOz HOb hcz1
    have HR1e := Lib.hid hR1
    have HR1l : Hid (R1.length ≤ 64) := Lib.hid (by rw [hR1, List.length_take]; omega)
    have HAz := Lib.hid (HA3.out.kept hkp (by omega))
    have HBz := Lib.hid (HBb3.out.kept hkp (by omega))
    have HRz := Lib.hid (HR3.out.kept hkp (by omega))
    have z1 : Hid (w.heap.size + 1 + 1 + 1 < w3.heap.size) := Lib.hid HO3.out.lt
    have zO : w.heap.size + 1 + 1 + 1 < wz.heap.size := by have := z1.out; omega
    clear hown hO hkp hR1
    by_cases hjl : j < L.length
    · obtain ⟨q, hq⟩ := get_some hjl
      have HLz : Hid (Els wz (fun b => ((S b ∨ b = w1.heap.size) ∨ w1.heap.size ≤ b) ∧ b < w3.heap.size) L AL) := Lib.hid ((HLs.out.keep (fun _ _ _ => rfl) (fun b hb => ⟨hb.1.imp id (fun h => by simp at h; omega), hb.2⟩)).kept HKz.out (fun b hb e => by
        have h1 := HZ1.out
        rcases hb.1 with (h | h) | h
        · have := HS.out _ h; omega
        · omega
        · omega))
      obtain ⟨bq, oq, Aq, cq, rfl, hSbq, hbsq, hqi, hrc, hcr, hEr, hd0, hd1⟩ := HLz.out.rule hq
      have hqv := HLv.out q (List.mem_of_getElem? hq)
      have HQ := Lib.hid (HG.out _ _ hq)
      obtain ⟨ql, qr⟩ := q
      dsimp only at hqi hrc hcr hEr hd0 hd1 hqv
      have hql0 := hqv.1.1
      have hql1 := hqv.1.2
      have hqr4 : qr.length ≤ 4 := hqv.2.1
      have HSy := Lib.hid hqv.2.2
      have hj0 : (0 : Int) ≤ (j : Int) := by omega
      have hqr9 : qr.length ≤ 9223372036854775807 := by omega
      have n3 : ¬ w.heap.size + 1 + 1 + 1 = wz.heap.size := by omega
      have p3 : wz.cell? ⟨w.heap.size, 3, none⟩ = some (.slice A ars.length c) := HAz.out.cell 3
      have p1 : wz.cell? ⟨w.heap.size, 1, none⟩ = some (.int .i64 an) := HAz.out.cell 1
      have zpA : w.heap.size < wz.heap.size := HAz.out.lt
      have zpB : w.heap.size + 1 < wz.heap.size := HBz.out.lt
      clear hq hqv hqi
      by_cases hsec : (ars.length : Int) ≤ (j : Int)
      · have HQ2 : Hid (T[j]? = some (shR an ⟨ql, qr⟩)) := Lib.hid (by have h := HQ.out; rwa [if_pos (by omega)] at h)
        have hwr : IntKind.i64.wrap (ql + an) = ql + an := IntWalk.i64_in _ (by omega)
        obtain ⟨wq, hwq⟩ : ∃ wq : World, wq = (wz.alloc (.cells #[.int .i64 ql, .slice Aq qr.length cq] 61)).alloc (.cells #[.int .i64 (ql + an), .slice none 0 0] 61) := ⟨_, rfl⟩
        have HWq := Lib.hid hwq
        have hbq : Below wz.heap.size wz wq := by rw [hwq]; exact ((Below.refl _ _).alloc (Nat.le_refl _) _).alloc (by simp) _
        have HBq := Lib.hid hbq
        have HQb : Hid (Blk' wq wz.heap.size 61 #[.int .i64 ql, .slice Aq qr.length cq]) := Lib.hid (by rw [hwq]; exact (Blk'.new _ _ _).alloc _)
        have HXb : Hid (Blk' wq (wz.heap.size + 1) 61 #[.int .i64 (ql + an), .slice none 0 0]) := Lib.hid (by rw [hwq]; exact Blk'.new' _ _ _ (by simp))
        have HErq := Lib.hid (hEr.below hbq)
        have HAq := Lib.hid (HAz.out.below hbq HAz.out.lt)
        have HBbq := Lib.hid (HBz.out.below hbq HBz.out.lt)
        have q1 : wq.cell? ⟨wz.heap.size, 1, none⟩ = some (.slice Aq qr.length cq) := HQb.out.cell 1
        have zQ : wz.heap.size < wq.heap.size := HQb.out.lt
        have HZq : Hid (wz.heap.size + 1 < wq.heap.size) := Lib.hid HXb.out.lt
        clear hwq hbq hEr
        go_upto_region 9 with (fail)
        rw [← HWq.out]
        clear hd0 hd1 p1 p3
        go_wp2_with fail
        clear q1
        go_loopw [58] (fun i wr => PuS qr (shS an) (ql + an) (wz.heap.size + 1) wq i wr) (fun i _ => qr.length - (intOf i).toNat)
        case atStart => exact ⟨0, _, Nat.zero_le _, rfl, Own.nil _ _ _ _, HXb.out, Kept.refl _ _⟩
        case round =>
          obtain ⟨wy, hwy⟩ : ∃ wy : World, wy = wr := ⟨_, rfl⟩
          subst hwy
          obtain ⟨s, v2, hs, rfl, hown, hX, hkp⟩ := hrel
          obtain ⟨A2, c2, rfl, hc21, hc22, _⟩ := hown.form
          have HO2 := Lib.hid hown
          have HX := Lib.hid hX
          have HKp := Lib.hid hkp
          obtain ⟨R2, hR2⟩ : ∃ R2, R2 = (qr.take s).map (shS an) := ⟨_, rfl⟩
          rw [← hR2] at HO2 HX hc21
          have HR2e := Lib.hid hR2
          have hR2l : R2.length ≤ 4 := by rw [hR2, List.length_map, List.length_take]; omega
          have HR2l := Lib.hid hR2l
          have hzq : wq.heap.size ≤ wy.heap.size := hkp.size
          have HAy := Lib.hid (HAq.out.kept hkp (by omega))
          have HBy := Lib.hid (HBbq.out.kept hkp (by omega))
          clear hown hX hkp hR2 hR2l
          by_cases hsl : s < qr.length
          · obtain ⟨x, hx⟩ := get_some hsl
            obtain ⟨bx, ox, rfl, hSx, hbx, hxi, hxc0, hxc1⟩ := (HErq.out.kept HKp.out (fun b h e => by
              have h3 := h.2; omega)).sym hx
            have hxs := HSy.out x (List.mem_of_getElem? hx)
            have HXs := Lib.hid hx
            obtain ⟨st, sn⟩ := x
            dsimp only at hxi hxc0 hxc1 hxs
            have hs0' : (0 : Int) ≤ (s : Int) := by omega
            have hsn0 := hxs.1
            have hsn1 := hxs.2
            have y1 : wy.cell? ⟨w.heap.size, 1, none⟩ = some (.int .i64 an) := HAy.out.cell 1
            have y2 : wy.cell? ⟨w.heap.size + 1, 2, none⟩ = some (.int .i64 bs) := HBy.out.cell 2
            have zyA : w.heap.size < wy.heap.size := HAy.out.lt
            have zyB : w.heap.size + 1 < wy.heap.size := HBy.out.lt
            have n02 : ¬ w.heap.size = wy.heap.size := by omega
            have n03 : ¬ w.heap.size + 1 = wy.heap.size := by omega
            have n04 : ¬ wz.heap.size + 1 = wy.heap.size := by have := HZq.out; omega
            have hcap1 : (R2.length + 1) * 16 ≤ 140737488355328 := by have := HR2l.out; omega
            have hcap2 : R2.length + 1 ≤ 9223372036854775807 := by have := HR2l.out; omega
            clear hx hxi hxs
            cases st
            · have hwr2 : IntKind.i64.wrap (sn + an) = sn + an := IntWalk.i64_in _ (by omega)
              have hzi : I64 (sn + an) := by unfold I64; omega
              have HZi := Lib.hid hzi
              have HSh : Hid ((shS an) ⟨false, sn⟩ = (⟨false, (sn + an)⟩ : Sym)) := Lib.hid (by simp [shS])
              obtain ⟨ws, hws⟩ : ∃ ws : World, ws = wy.alloc (.cells #[.bool false, .int .i64 (sn + an)] 64) := ⟨_, rfl⟩
              have HWs := Lib.hid hws
              have hbs2 : Below wy.heap.size wy ws := by rw [hws]; exact (Below.refl _ _).alloc (Nat.le_refl _) _
              have HSb : Hid (Blk' ws wy.heap.size 64 #[.bool false, .int .i64 (sn + an)]) := Lib.hid (by rw [hws]; exact Blk'.new _ _ _)
              have HXw := Lib.hid (HX.out.below hbs2 HX.out.lt)
              have HO2w := Lib.hid (HO2.out.below hbs2 (Nat.le_refl _))
              have HKw := Lib.hid (HKp.out.trans (Kept.of_below (fun b => b = wz.heap.size + 1) hbs2))
              have hzy : wy.heap.size < ws.heap.size := HSb.out.lt
              have s0 : ws.cell? ⟨wy.heap.size, 0, none⟩ = some (.bool false) := HSb.out.cell 0
              have s1 : ws.cell? ⟨wy.heap.size, 1, none⟩ = some (.int .i64 (sn + an)) := HSb.out.cell 1
              have x1 : ws.cell? ⟨wz.heap.size + 1, 1, none⟩ = some (.slice A2 R2.length c2) := HXw.out.cell 1
              have zX : wz.heap.size + 1 < ws.heap.size := HXw.out.lt
              clear hws hbs2 hzi
              go_upto_region 16 with (fail)
              rw [← HWs.out]
              clear hxc0 hxc1 y1 y2
              have HRg : Hid (Dat.rd (ws.alloc (.cells #[.bool false, .int .i64 (sn + an)] 64)) (OwnT (fun _ => False) wq.heap.size (.slice A2 R2.length c2) (ws.alloc (.cells #[.bool false, .int .i64 (sn + an)] 64))) (⟨false, (sn + an)⟩ : Sym) [.bool false, .int .i64 (sn + an)]) := Lib.hid ⟨rfl, HZi.out⟩
              go_wp2_with ((at_builtin); (refine wpList_own1 _ rfl _ _ elemSym rfl rfl (HO2w.out.alloc (.cells #[.bool false, .int .i64 (sn + an)] 64)) ⟨false, (sn + an)⟩ [.bool false, .int .i64 (sn + an)] rfl (At.new _ _ _) HRg.out hcap1 hcap2 (by have := HKw.out.size; simp; omega) ?_); (intro v' w4 hown4 hg4 hat4); (obtain ⟨A9, k9, hv9, _⟩ := hown4.form); (rw [snoc_len] at hv9); (subst hv9); (have hX4 := (HXw.out.alloc (.cells #[.bool false, .int .i64 (sn + an)] 64)).grown hg4 (fun e => by have h9 := (HO2w.out.block _ e.symm).1; have := HZq.out; omega)); (have m1 := hX4.cell 1); (have f1 := hX4.frozen 1); (have zX4 := hX4.lt); (have H4 := Lib.hid (And.intro hown4 (And.intro hg4 hX4))); (clear hown4 hg4 hat4 hX4); (simp at m1))
              go_roundw
              case rel =>
                obtain ⟨hown4, hg4, hX4⟩ := H4.out
                refine ⟨s + 1, _, hsl, by go_num, ?_, hX4.set_ 1 _, ((HKw.out.alloc (.cells #[.bool false, .int .i64 (sn + an)] 64)).grown hg4 (fun k hk => .inr (HO2w.out.block k hk).1)).setCell (p := ⟨wz.heap.size + 1, 1, none⟩) (.inl rfl) _⟩
                rw [take_snoc HXs.out, List.map_append, ← HR2e.out]
                show Own _ _ _ _ _ (R2 ++ [(shS an) ⟨false, sn⟩])
                rw [HSh.out]
                exact hown4.setCell (p := ⟨wz.heap.size + 1, 1, none⟩) (fun e => by have h9 := (hown4.block _ e).1; have := HZq.out; dsimp only at h9; omega) (by have := HZq.out; simp; omega) _
              case measure => simp [intOf]; omega
            · have hdummy : True := trivial
              have hzi : I64 sn := by unfold I64; omega
              have HZi := Lib.hid hzi
              have HSh : Hid ((shS an) ⟨true, sn⟩ = (⟨true, sn⟩ : Sym)) := Lib.hid (by simp [shS])
              obtain ⟨ws, hws⟩ : ∃ ws : World, ws = wy.alloc (.cells #[.bool true, .int .i64 sn] 64) := ⟨_, rfl⟩
              have HWs := Lib.hid hws
              have hbs2 : Below wy.heap.size wy ws := by rw [hws]; exact (Below.refl _ _).alloc (Nat.le_refl _) _
              have HSb : Hid (Blk' ws wy.heap.size 64 #[.bool true, .int .i64 sn]) := Lib.hid (by rw [hws]; exact Blk'.new _ _ _)
              have HXw := Lib.hid (HX.out.below hbs2 HX.out.lt)
              have HO2w := Lib.hid (HO2.out.below hbs2 (Nat.le_refl _))
              have HKw := Lib.hid (HKp.out.trans (Kept.of_below (fun b => b = wz.heap.size + 1) hbs2))
              have hzy : wy.heap.size < ws.heap.size := HSb.out.lt
              have s0 : ws.cell? ⟨wy.heap.size, 0, none⟩ = some (.bool true) := HSb.out.cell 0
              have s1 : ws.cell? ⟨wy.heap.size, 1, none⟩ = some (.int .i64 sn) := HSb.out.cell 1
              have x1 : ws.cell? ⟨wz.heap.size + 1, 1, none⟩ = some (.slice A2 R2.length c2) := HXw.out.cell 1
              have zX : wz.heap.size + 1 < ws.heap.size := HXw.out.lt
              clear hws hbs2 hzi
              go_upto_region 16 with (fail)
              rw [← HWs.out]
              clear hxc0 hxc1 y1 y2
              have HRg : Hid (Dat.rd (ws.alloc (.cells #[.bool true, .int .i64 sn] 64)) (OwnT (fun _ => False) wq.heap.size (.slice A2 R2.length c2) (ws.alloc (.cells #[.bool true, .int .i64 sn] 64))) (⟨true, sn⟩ : Sym) [.bool true, .int .i64 sn]) := Lib.hid ⟨rfl, HZi.out⟩
              go_wp2_with ((at_builtin); (refine wpList_own1 _ rfl _ _ elemSym rfl rfl (HO2w.out.alloc (.cells #[.bool true, .int .i64 sn] 64)) ⟨true, sn⟩ [.bool true, .int .i64 sn] rfl (At.new _ _ _) HRg.out hcap1 hcap2 (by have := HKw.out.size; simp; omega) ?_); (intro v' w4 hown4 hg4 hat4); (obtain ⟨A9, k9, hv9, _⟩ := hown4.form); (rw [snoc_len] at hv9); (subst hv9); (have hX4 := (HXw.out.alloc (.cells #[.bool true, .int .i64 sn] 64)).grown hg4 (fun e => by have h9 := (HO2w.out.block _ e.symm).1; have := HZq.out; omega)); (have m1 := hX4.cell 1); (have f1 := hX4.frozen 1); (have zX4 := hX4.lt); (have H4 := Lib.hid (And.intro hown4 (And.intro hg4 hX4))); (clear hown4 hg4 hat4 hX4); (simp at m1))
              go_roundw
              case rel =>
                obtain ⟨hown4, hg4, hX4⟩ := H4.out
                refine ⟨s + 1, _, hsl, by go_num, ?_, hX4.set_ 1 _, ((HKw.out.alloc (.cells #[.bool true, .int .i64 sn] 64)).grown hg4 (fun k hk => .inr (HO2w.out.block k hk).1)).setCell (p := ⟨wz.heap.size + 1, 1, none⟩) (.inl rfl) _⟩
                rw [take_snoc HXs.out, List.map_append, ← HR2e.out]
                show Own _ _ _ _ _ (R2 ++ [(shS an) ⟨true, sn⟩])
                rw [HSh.out]
                exact hown4.setCell (p := ⟨wz.heap.size + 1, 1, none⟩) (fun e => by have h9 := (hown4.block _ e).1; have := HZq.out; dsimp only at h9; omega) (by have := HZq.out; simp; omega) _
              case measure => simp [intOf]; omega
          · have hss : s = qr.length := by omega
            have HFq : Hid (R2 = qr.map (shS an)) := Lib.hid (by rw [HR2e.out, hss, List.take_of_length_le (Nat.le_refl _)])
            have hBzy : Below wz.heap.size wz wy := HBq.out.trans (HKp.out.to_below (B := wz.heap.size) (fun b (hb : b = wz.heap.size + 1) => by omega) HBq.out.size)
            have HBzy := Lib.hid hBzy
            have hOy2 := HOb.out.below hBzy HOb.out.lt
            have HOy2 := Lib.hid hOy2
            have o3 : wy.cell? ⟨w.heap.size + 1 + 1 + 1, 3, none⟩ = some (.slice Az R1.length cz) := hOy2.cell 3
            have zOy : w.heap.size + 1 + 1 + 1 < wy.heap.size := hOy2.lt
            have x0 : wy.cell? ⟨wz.heap.size + 1, 0, none⟩ = some (.int .i64 (ql + an)) := HX.out.cell 0
            have x1 : wy.cell? ⟨wz.heap.size + 1, 1, none⟩ = some (.slice A2 R2.length c2) := HX.out.cell 1
            have zX : wz.heap.size + 1 < wy.heap.size := HX.out.lt
            have hcap1 : (R1.length + 1) * 32 ≤ 140737488355328 := by have := HR1l.out; omega
            have hcap2 : R1.length + 1 ≤ 9223372036854775807 := by have := HR1l.out; omega
            have hba : Below wy.heap.size wy (wy.alloc (.cells #[.int .i64 (ql + an), .slice A2 R2.length c2] 61)) := (Below.refl _ _).alloc (Nat.le_refl _) _
            have HOn := Lib.hid ((HOz.out.below hBzy (Nat.le_refl _)).alloc (.cells #[.int .i64 (ql + an), .slice A2 R2.length c2] 61))
            have HRd : Hid (Dat.rd (wy.alloc (.cells #[.int .i64 (ql + an), .slice A2 R2.length c2] 61)) (OwnT S w3.heap.size (.slice Az R1.length cz) (wy.alloc (.cells #[.int .i64 (ql + an), .slice A2 R2.length c2] 61))) (⟨(ql + an), R2⟩ : Rule) [.int .i64 (ql + an), .slice A2 R2.length c2]) := Lib.hid ⟨_, rfl, by show I64 (ql + an); unfold I64; omega, Vl.of_slice rfl hc21 hc22 ((HO2.out.vl.els.2.2.2.below hba).keep (fun _ _ _ => rfl) (fun b hb => by
              have h9 := HZq.out
              refine ⟨.inr (by rcases hb.1 with h | h; exact h.elim; omega), fun e => ?_, Nat.lt_of_lt_of_le hb.2 hba.size⟩
              have h3 := (HOz.out.block b e).2
              rcases hb.1 with h | h
              · exact h
              · omega))⟩
            clear hBzy hOy2 hba hss
            go_wp2_with ((at_builtin); (refine wpList_own1 _ rfl _ _ elemRule rfl rfl HOn.out ⟨(ql + an), R2⟩ [.int .i64 (ql + an), .slice A2 R2.length c2] rfl (At.new _ _ _) HRd.out hcap1 hcap2 (by simp; omega) ?_); (intro v' w4 hown4 hg4 hat4); (obtain ⟨A9, k9, hv9, _⟩ := hown4.form); (rw [snoc_len] at hv9); (subst hv9); (have hO4 := (HOy2.out.alloc (.cells #[.int .i64 (ql + an), .slice A2 R2.length c2] 61)).grown hg4 (fun e => by have h9 := (HOz.out.block _ e.symm).1; have := z1.out; omega)); (have m3 := hO4.cell 3); (have f3 := hO4.frozen 3); (have zO4 := hO4.lt); (have H4 := Lib.hid (And.intro hown4 (And.intro hg4 hO4))); (clear hown4 hg4 hat4 hO4); (simp at m3))
            go_roundw
            case rel =>
              obtain ⟨hown4, hg4, hO4⟩ := H4.out
              have hkk : Kept (fun b => b = w.heap.size + 1 + 1 + 1 ∨ w3.heap.size ≤ b) wz (w4.setCell ⟨w.heap.size + 1 + 1 + 1, 3, none⟩ (.slice A9 (R1.length + 1) k9)) :=
                (((Kept.of_below _ HBzy.out).alloc _).grown hg4 (fun k hk => .inl (.inr (HOz.out.block k hk).1))).setCell (p := ⟨w.heap.size + 1 + 1 + 1, 3, none⟩) (.inl (.inl rfl)) _
              refine ⟨j + 1, _, hjl, by go_num, ?_, hO4.set_ 3 _, HKz.out.later hkk (fun b hb => hb)⟩
              rw [take_snoc HQ2.out, ← HR1e.out]
              rw [show shR an ⟨ql, qr⟩ = (⟨(ql + an), R2⟩ : Rule) by unfold shR; rw [HFq.out]]
              exact hown4.setCell (p := ⟨w.heap.size + 1 + 1 + 1, 3, none⟩) (fun e => by have h9 := (hown4.block _ e).1; have := z1.out; dsimp only at h9; omega) (by have := z1.out; intro h; rcases h with h | h; (have := HS.out _ h; dsimp only at this; omega); (dsimp only at h; omega)) _
            case measure => simp [intOf]; omega
      · have HQ2 : Hid (T[j]? = some (putR t (an + bs) ⟨ql, qr⟩)) := Lib.hid (by have h := HQ.out; rwa [if_neg (by omega)] at h)
        obtain ⟨wq, hwq⟩ : ∃ wq : World, wq = (wz.alloc (.cells #[.int .i64 ql, .slice Aq qr.length cq] 61)).alloc (.cells #[.int .i64 ql, .slice none 0 0] 61) := ⟨_, rfl⟩
        have HWq := Lib.hid hwq
        have hbq : Below wz.heap.size wz wq := by rw [hwq]; exact ((Below.refl _ _).alloc (Nat.le_refl _) _).alloc (by simp) _
        have HBq := Lib.hid hbq
        have HQb : Hid (Blk' wq wz.heap.size 61 #[.int .i64 ql, .slice Aq qr.length cq]) := Lib.hid (by rw [hwq]; exact (Blk'.new _ _ _).alloc _)
        have HXb : Hid (Blk' wq (wz.heap.size + 1) 61 #[.int .i64 ql, .slice none 0 0]) := Lib.hid (by rw [hwq]; exact Blk'.new' _ _ _ (by simp))
        have HErq := Lib.hid (hEr.below hbq)
        have HAq := Lib.hid (HAz.out.below hbq HAz.out.lt)
        have HBbq := Lib.hid (HBz.out.below hbq HBz.out.lt)
        have q1 : wq.cell? ⟨wz.heap.size, 1, none⟩ = some (.slice Aq qr.length cq) := HQb.out.cell 1
        have zQ : wz.heap.size < wq.heap.size := HQb.out.lt
        have HZq : Hid (wz.heap.size + 1 < wq.heap.size) := Lib.hid HXb.out.lt
        clear hwq hbq hEr
        go_upto_region 9 with (fail)
        rw [← HWq.out]
        clear hd0 hd1 p1 p3
        go_wp2_with fail
        clear q1
        go_loopw [58] (fun i wr => PuS qr (putS t (an + bs)) ql (wz.heap.size + 1) wq i wr) (fun i _ => qr.length - (intOf i).toNat)
        case atStart => exact ⟨0, _, Nat.zero_le _, rfl, Own.nil _ _ _ _, HXb.out, Kept.refl _ _⟩
        case round =>
          obtain ⟨wy, hwy⟩ : ∃ wy : World, wy = wr := ⟨_, rfl⟩
          subst hwy
          obtain ⟨s, v2, hs, rfl, hown, hX, hkp⟩ := hrel
          obtain ⟨A2, c2, rfl, hc21, hc22, _⟩ := hown.form
          have HO2 := Lib.hid hown
          have HX := Lib.hid hX
          have HKp := Lib.hid hkp
          obtain ⟨R2, hR2⟩ : ∃ R2, R2 = (qr.take s).map (putS t (an + bs)) := ⟨_, rfl⟩
          rw [← hR2] at HO2 HX hc21
          have HR2e := Lib.hid hR2
          have hR2l : R2.length ≤ 4 := by rw [hR2, List.length_map, List.length_take]; omega
          have HR2l := Lib.hid hR2l
          have hzq : wq.heap.size ≤ wy.heap.size := hkp.size
          have HAy := Lib.hid (HAq.out.kept hkp (by omega))
          have HBy := Lib.hid (HBbq.out.kept hkp (by omega))
          clear hown hX hkp hR2 hR2l
          by_cases hsl : s < qr.length
          · obtain ⟨x, hx⟩ := get_some hsl
            obtain ⟨bx, ox, rfl, hSx, hbx, hxi, hxc0, hxc1⟩ := (HErq.out.kept HKp.out (fun b h e => by
              have h3 := h.2; omega)).sym hx
            have hxs := HSy.out x (List.mem_of_getElem? hx)
            have HXs := Lib.hid hx
            obtain ⟨st, sn⟩ := x
            dsimp only at hxi hxc0 hxc1 hxs
            have hs0' : (0 : Int) ≤ (s : Int) := by omega
            have hsn0 := hxs.1
            have hsn1 := hxs.2
            have y1 : wy.cell? ⟨w.heap.size, 1, none⟩ = some (.int .i64 an) := HAy.out.cell 1
            have y2 : wy.cell? ⟨w.heap.size + 1, 2, none⟩ = some (.int .i64 bs) := HBy.out.cell 2
            have zyA : w.heap.size < wy.heap.size := HAy.out.lt
            have zyB : w.heap.size + 1 < wy.heap.size := HBy.out.lt
            have n02 : ¬ w.heap.size = wy.heap.size := by omega
            have n03 : ¬ w.heap.size + 1 = wy.heap.size := by omega
            have n04 : ¬ wz.heap.size + 1 = wy.heap.size := by have := HZq.out; omega
            have hcap1 : (R2.length + 1) * 16 ≤ 140737488355328 := by have := HR2l.out; omega
            have hcap2 : R2.length + 1 ≤ 9223372036854775807 := by have := HR2l.out; omega
            clear hx hxi hxs
            cases st
            · have hdummy : True := trivial
              have hzi : I64 sn := by unfold I64; omega
              have HZi := Lib.hid hzi
              have HSh : Hid ((putS t (an + bs)) ⟨false, sn⟩ = (⟨false, sn⟩ : Sym)) := Lib.hid (by simp [putS])
              obtain ⟨ws, hws⟩ : ∃ ws : World, ws = wy.alloc (.cells #[.bool false, .int .i64 sn] 64) := ⟨_, rfl⟩
              have HWs := Lib.hid hws
              have hbs2 : Below wy.heap.size wy ws := by rw [hws]; exact (Below.refl _ _).alloc (Nat.le_refl _) _
              have HSb : Hid (Blk' ws wy.heap.size 64 #[.bool false, .int .i64 sn]) := Lib.hid (by rw [hws]; exact Blk'.new _ _ _)
              have HXw := Lib.hid (HX.out.below hbs2 HX.out.lt)
              have HO2w := Lib.hid (HO2.out.below hbs2 (Nat.le_refl _))
              have HKw := Lib.hid (HKp.out.trans (Kept.of_below (fun b => b = wz.heap.size + 1) hbs2))
              have hzy : wy.heap.size < ws.heap.size := HSb.out.lt
              have s0 : ws.cell? ⟨wy.heap.size, 0, none⟩ = some (.bool false) := HSb.out.cell 0
              have s1 : ws.cell? ⟨wy.heap.size, 1, none⟩ = some (.int .i64 sn) := HSb.out.cell 1
              have x1 : ws.cell? ⟨wz.heap.size + 1, 1, none⟩ = some (.slice A2 R2.length c2) := HXw.out.cell 1
              have zX : wz.heap.size + 1 < ws.heap.size := HXw.out.lt
              clear hws hbs2 hzi
              go_upto_region 16 with (fail)
              rw [← HWs.out]
              clear hxc0 hxc1 y1 y2
              have HRg : Hid (Dat.rd (ws.alloc (.cells #[.bool false, .int .i64 sn] 64)) (OwnT (fun _ => False) wq.heap.size (.slice A2 R2.length c2) (ws.alloc (.cells #[.bool false, .int .i64 sn] 64))) (⟨false, sn⟩ : Sym) [.bool false, .int .i64 sn]) := Lib.hid ⟨rfl, HZi.out⟩
              go_wp2_with ((at_builtin); (refine wpList_own1 _ rfl _ _ elemSym rfl rfl (HO2w.out.alloc (.cells #[.bool false, .int .i64 sn] 64)) ⟨false, sn⟩ [.bool false, .int .i64 sn] rfl (At.new _ _ _) HRg.out hcap1 hcap2 (by have := HKw.out.size; simp; omega) ?_); (intro v' w4 hown4 hg4 hat4); (obtain ⟨A9, k9, hv9, _⟩ := hown4.form); (rw [snoc_len] at hv9); (subst hv9); (have hX4 := (HXw.out.alloc (.cells #[.bool false, .int .i64 sn] 64)).grown hg4 (fun e => by have h9 := (HO2w.out.block _ e.symm).1; have := HZq.out; omega)); (have m1 := hX4.cell 1); (have f1 := hX4.frozen 1); (have zX4 := hX4.lt); (have H4 := Lib.hid (And.intro hown4 (And.intro hg4 hX4))); (clear hown4 hg4 hat4 hX4); (simp at m1))
              go_roundw
              case rel =>
                obtain ⟨hown4, hg4, hX4⟩ := H4.out
                refine ⟨s + 1, _, hsl, by go_num, ?_, hX4.set_ 1 _, ((HKw.out.alloc (.cells #[.bool false, .int .i64 sn] 64)).grown hg4 (fun k hk => .inr (HO2w.out.block k hk).1)).setCell (p := ⟨wz.heap.size + 1, 1, none⟩) (.inl rfl) _⟩
                rw [take_snoc HXs.out, List.map_append, ← HR2e.out]
                show Own _ _ _ _ _ (R2 ++ [(putS t (an + bs)) ⟨false, sn⟩])
                rw [HSh.out]
                exact hown4.setCell (p := ⟨wz.heap.size + 1, 1, none⟩) (fun e => by have h9 := (hown4.block _ e).1; have := HZq.out; dsimp only at h9; omega) (by have := HZq.out; simp; omega) _
              case measure => simp [intOf]; omega
            · by_cases hst : sn = t
              · have hwr2 : IntKind.i64.wrap (an + bs) = an + bs := IntWalk.i64_in _ (by omega)
                have hzi : I64 (an + bs) := by unfold I64; omega
                have HZi := Lib.hid hzi
                have HSh : Hid ((putS t (an + bs)) ⟨true, sn⟩ = (⟨false, (an + bs)⟩ : Sym)) := Lib.hid (by simp [putS, hst])
                obtain ⟨ws, hws⟩ : ∃ ws : World, ws = wy.alloc (.cells #[.bool false, .int .i64 (an + bs)] 64) := ⟨_, rfl⟩
                have HWs := Lib.hid hws
                have hbs2 : Below wy.heap.size wy ws := by rw [hws]; exact (Below.refl _ _).alloc (Nat.le_refl _) _
                have HSb : Hid (Blk' ws wy.heap.size 64 #[.bool false, .int .i64 (an + bs)]) := Lib.hid (by rw [hws]; exact Blk'.new _ _ _)
                have HXw := Lib.hid (HX.out.below hbs2 HX.out.lt)
                have HO2w := Lib.hid (HO2.out.below hbs2 (Nat.le_refl _))
                have HKw := Lib.hid (HKp.out.trans (Kept.of_below (fun b => b = wz.heap.size + 1) hbs2))
                have hzy : wy.heap.size < ws.heap.size := HSb.out.lt
                have s0 : ws.cell? ⟨wy.heap.size, 0, none⟩ = some (.bool false) := HSb.out.cell 0
                have s1 : ws.cell? ⟨wy.heap.size, 1, none⟩ = some (.int .i64 (an + bs)) := HSb.out.cell 1
                have x1 : ws.cell? ⟨wz.heap.size + 1, 1, none⟩ = some (.slice A2 R2.length c2) := HXw.out.cell 1
                have zX : wz.heap.size + 1 < ws.heap.size := HXw.out.lt
                clear hws hbs2 hzi
                go_upto_region 16 with (fail)
                rw [← HWs.out]
                clear hxc0 hxc1 y1 y2
                have HRg : Hid (Dat.rd (ws.alloc (.cells #[.bool false, .int .i64 (an + bs)] 64)) (OwnT (fun _ => False) wq.heap.size (.slice A2 R2.length c2) (ws.alloc (.cells #[.bool false, .int .i64 (an + bs)] 64))) (⟨false, (an + bs)⟩ : Sym) [.bool false, .int .i64 (an + bs)]) := Lib.hid ⟨rfl, HZi.out⟩
                go_wp2_with ((at_builtin); (refine wpList_own1 _ rfl _ _ elemSym rfl rfl (HO2w.out.alloc (.cells #[.bool false, .int .i64 (an + bs)] 64)) ⟨false, (an + bs)⟩ [.bool false, .int .i64 (an + bs)] rfl (At.new _ _ _) HRg.out hcap1 hcap2 (by have := HKw.out.size; simp; omega) ?_); (intro v' w4 hown4 hg4 hat4); (obtain ⟨A9, k9, hv9, _⟩ := hown4.form); (rw [snoc_len] at hv9); (subst hv9); (have hX4 := (HXw.out.alloc (.cells #[.bool false, .int .i64 (an + bs)] 64)).grown hg4 (fun e => by have h9 := (HO2w.out.block _ e.symm).1; have := HZq.out; omega)); (have m1 := hX4.cell 1); (have f1 := hX4.frozen 1); (have zX4 := hX4.lt); (have H4 := Lib.hid (And.intro hown4 (And.intro hg4 hX4))); (clear hown4 hg4 hat4 hX4); (simp at m1))
                go_roundw
                case rel =>
                  obtain ⟨hown4, hg4, hX4⟩ := H4.out
                  refine ⟨s + 1, _, hsl, by go_num, ?_, hX4.set_ 1 _, ((HKw.out.alloc (.cells #[.bool false, .int .i64 (an + bs)] 64)).grown hg4 (fun k hk => .inr (HO2w.out.block k hk).1)).setCell (p := ⟨wz.heap.size + 1, 1, none⟩) (.inl rfl) _⟩
                  rw [take_snoc HXs.out, List.map_append, ← HR2e.out]
                  show Own _ _ _ _ _ (R2 ++ [(putS t (an + bs)) ⟨true, sn⟩])
                  rw [HSh.out]
                  exact hown4.setCell (p := ⟨wz.heap.size + 1, 1, none⟩) (fun e => by have h9 := (hown4.block _ e).1; have := HZq.out; dsimp only at h9; omega) (by have := HZq.out; simp; omega) _
                case measure => simp [intOf]; omega
              · have hdummy : True := trivial
                have hzi : I64 sn := by unfold I64; omega
                have HZi := Lib.hid hzi
                have HSh : Hid ((putS t (an + bs)) ⟨true, sn⟩ = (⟨true, sn⟩ : Sym)) := Lib.hid (by simp [putS, hst])
                obtain ⟨ws, hws⟩ : ∃ ws : World, ws = wy.alloc (.cells #[.bool true, .int .i64 sn] 64) := ⟨_, rfl⟩
                have HWs := Lib.hid hws
                have hbs2 : Below wy.heap.size wy ws := by rw [hws]; exact (Below.refl _ _).alloc (Nat.le_refl _) _
                have HSb : Hid (Blk' ws wy.heap.size 64 #[.bool true, .int .i64 sn]) := Lib.hid (by rw [hws]; exact Blk'.new _ _ _)
                have HXw := Lib.hid (HX.out.below hbs2 HX.out.lt)
                have HO2w := Lib.hid (HO2.out.below hbs2 (Nat.le_refl _))
                have HKw := Lib.hid (HKp.out.trans (Kept.of_below (fun b => b = wz.heap.size + 1) hbs2))
                have hzy : wy.heap.size < ws.heap.size := HSb.out.lt
                have s0 : ws.cell? ⟨wy.heap.size, 0, none⟩ = some (.bool true) := HSb.out.cell 0
                have s1 : ws.cell? ⟨wy.heap.size, 1, none⟩ = some (.int .i64 sn) := HSb.out.cell 1
                have x1 : ws.cell? ⟨wz.heap.size + 1, 1, none⟩ = some (.slice A2 R2.length c2) := HXw.out.cell 1
                have zX : wz.heap.size + 1 < ws.heap.size := HXw.out.lt
                clear hws hbs2 hzi
                go_upto_region 16 with (fail)
                rw [← HWs.out]
                clear hxc0 hxc1 y1 y2
                have HRg : Hid (Dat.rd (ws.alloc (.cells #[.bool true, .int .i64 sn] 64)) (OwnT (fun _ => False) wq.heap.size (.slice A2 R2.length c2) (ws.alloc (.cells #[.bool true, .int .i64 sn] 64))) (⟨true, sn⟩ : Sym) [.bool true, .int .i64 sn]) := Lib.hid ⟨rfl, HZi.out⟩
                go_wp2_with ((at_builtin); (refine wpList_own1 _ rfl _ _ elemSym rfl rfl (HO2w.out.alloc (.cells #[.bool true, .int .i64 sn] 64)) ⟨true, sn⟩ [.bool true, .int .i64 sn] rfl (At.new _ _ _) HRg.out hcap1 hcap2 (by have := HKw.out.size; simp; omega) ?_); (intro v' w4 hown4 hg4 hat4); (obtain ⟨A9, k9, hv9, _⟩ := hown4.form); (rw [snoc_len] at hv9); (subst hv9); (have hX4 := (HXw.out.alloc (.cells #[.bool true, .int .i64 sn] 64)).grown hg4 (fun e => by have h9 := (HO2w.out.block _ e.symm).1; have := HZq.out; omega)); (have m1 := hX4.cell 1); (have f1 := hX4.frozen 1); (have zX4 := hX4.lt); (have H4 := Lib.hid (And.intro hown4 (And.intro hg4 hX4))); (clear hown4 hg4 hat4 hX4); (simp at m1))
                go_roundw
                case rel =>
                  obtain ⟨hown4, hg4, hX4⟩ := H4.out
                  refine ⟨s + 1, _, hsl, by go_num, ?_, hX4.set_ 1 _, ((HKw.out.alloc (.cells #[.bool true, .int .i64 sn] 64)).grown hg4 (fun k hk => .inr (HO2w.out.block k hk).1)).setCell (p := ⟨wz.heap.size + 1, 1, none⟩) (.inl rfl) _⟩
                  rw [take_snoc HXs.out, List.map_append, ← HR2e.out]
                  show Own _ _ _ _ _ (R2 ++ [(putS t (an + bs)) ⟨true, sn⟩])
                  rw [HSh.out]
                  exact hown4.setCell (p := ⟨wz.heap.size + 1, 1, none⟩) (fun e => by have h9 := (hown4.block _ e).1; have := HZq.out; dsimp only at h9; omega) (by have := HZq.out; simp; omega) _
                case measure => simp [intOf]; omega
          · have hss : s = qr.length := by omega
            have HFq : Hid (R2 = qr.map (putS t (an + bs))) := Lib.hid (by rw [HR2e.out, hss, List.take_of_length_le (Nat.le_refl _)])
            have hBzy : Below wz.heap.size wz wy := HBq.out.trans (HKp.out.to_below (B := wz.heap.size) (fun b (hb : b = wz.heap.size + 1) => by omega) HBq.out.size)
            have HBzy := Lib.hid hBzy
            have hOy2 := HOb.out.below hBzy HOb.out.lt
            have HOy2 := Lib.hid hOy2
            have o3 : wy.cell? ⟨w.heap.size + 1 + 1 + 1, 3, none⟩ = some (.slice Az R1.length cz) := hOy2.cell 3
            have zOy : w.heap.size + 1 + 1 + 1 < wy.heap.size := hOy2.lt
            have x0 : wy.cell? ⟨wz.heap.size + 1, 0, none⟩ = some (.int .i64 ql) := HX.out.cell 0
            have x1 : wy.cell? ⟨wz.heap.size + 1, 1, none⟩ = some (.slice A2 R2.length c2) := HX.out.cell 1
            have zX : wz.heap.size + 1 < wy.heap.size := HX.out.lt
            have hcap1 : (R1.length + 1) * 32 ≤ 140737488355328 := by have := HR1l.out; omega
            have hcap2 : R1.length + 1 ≤ 9223372036854775807 := by have := HR1l.out; omega
            have hba : Below wy.heap.size wy (wy.alloc (.cells #[.int .i64 ql, .slice A2 R2.length c2] 61)) := (Below.refl _ _).alloc (Nat.le_refl _) _
            have HOn := Lib.hid ((HOz.out.below hBzy (Nat.le_refl _)).alloc (.cells #[.int .i64 ql, .slice A2 R2.length c2] 61))
            have HRd : Hid (Dat.rd (wy.alloc (.cells #[.int .i64 ql, .slice A2 R2.length c2] 61)) (OwnT S w3.heap.size (.slice Az R1.length cz) (wy.alloc (.cells #[.int .i64 ql, .slice A2 R2.length c2] 61))) (⟨ql, R2⟩ : Rule) [.int .i64 ql, .slice A2 R2.length c2]) := Lib.hid ⟨_, rfl, by show I64 ql; unfold I64; omega, Vl.of_slice rfl hc21 hc22 ((HO2.out.vl.els.2.2.2.below hba).keep (fun _ _ _ => rfl) (fun b hb => by
              have h9 := HZq.out
              refine ⟨.inr (by rcases hb.1 with h | h; exact h.elim; omega), fun e => ?_, Nat.lt_of_lt_of_le hb.2 hba.size⟩
              have h3 := (HOz.out.block b e).2
              rcases hb.1 with h | h
              · exact h
              · omega))⟩
            clear hBzy hOy2 hba hss
            go_wp2_with ((at_builtin); (refine wpList_own1 _ rfl _ _ elemRule rfl rfl HOn.out ⟨ql, R2⟩ [.int .i64 ql, .slice A2 R2.length c2] rfl (At.new _ _ _) HRd.out hcap1 hcap2 (by simp; omega) ?_); (intro v' w4 hown4 hg4 hat4); (obtain ⟨A9, k9, hv9, _⟩ := hown4.form); (rw [snoc_len] at hv9); (subst hv9); (have hO4 := (HOy2.out.alloc (.cells #[.int .i64 ql, .slice A2 R2.length c2] 61)).grown hg4 (fun e => by have h9 := (HOz.out.block _ e.symm).1; have := z1.out; omega)); (have m3 := hO4.cell 3); (have f3 := hO4.frozen 3); (have zO4 := hO4.lt); (have H4 := Lib.hid (And.intro hown4 (And.intro hg4 hO4))); (clear hown4 hg4 hat4 hO4); (simp at m3))
            go_roundw
            case rel =>
              obtain ⟨hown4, hg4, hO4⟩ := H4.out
              have hkk : Kept (fun b => b = w.heap.size + 1 + 1 + 1 ∨ w3.heap.size ≤ b) wz (w4.setCell ⟨w.heap.size + 1 + 1 + 1, 3, none⟩ (.slice A9 (R1.length + 1) k9)) :=
                (((Kept.of_below _ HBzy.out).alloc _).grown hg4 (fun k hk => .inl (.inr (HOz.out.block k hk).1))).setCell (p := ⟨w.heap.size + 1 + 1 + 1, 3, none⟩) (.inl (.inl rfl)) _
              refine ⟨j + 1, _, hjl, by go_num, ?_, hO4.set_ 3 _, HKz.out.later hkk (fun b hb => hb)⟩
              rw [take_snoc HQ2.out, ← HR1e.out]
              rw [show putR t (an + bs) ⟨ql, qr⟩ = (⟨ql, R2⟩ : Rule) by unfold putR; rw [HFq.out]]
              exact hown4.setCell (p := ⟨w.heap.size + 1 + 1 + 1, 3, none⟩) (fun e => by have h9 := (hown4.block _ e).1; have := z1.out; dsimp only at h9; omega) (by have := z1.out; intro h; rcases h with h | h; (have := HS.out _ h; dsimp only at this; omega); (dsimp only at h; omega)) _
            case measure => simp [intOf]; omega
    · have hjj : j = L.length := by omega
      have HFin : Hid (R1 = T) := Lib.hid (by rw [HR1e.out, List.take_of_length_le]; have := HTl.out; omega)
      have HBlz : Hid (Below w.heap.size w wz) := Lib.hid (HBl3.out.trans (HKz.out.to_below (B := w.heap.size) (fun b hb => by omega) HBl3.out.size))
      have HCz := Lib.hid (HC3.out.kept HKz.out (fun b hb e => by have := HS.out b hb; omega))
      have o1 : wz.cell? ⟨w.heap.size + 1 + 1 + 1, 1, none⟩ = some (.int .i64 (an + bn)) := HOb.out.cell 1
      have o3 : wz.cell? ⟨w.heap.size + 1 + 1 + 1, 3, none⟩ = some (.slice Az R1.length cz) := HOb.out.cell 3
      have zR : w.heap.size + 1 + 1 < wz.heap.size := HRz.out.lt
      have nR : ¬ w.heap.size + 1 + 1 = w.heap.size + 1 + 1 + 1 := by omega
      have nR2 : ¬ w.heap.size + 1 + 1 + 1 = w.heap.size + 1 + 1 := by omega
      have hwr5 : IntKind.i64.wrap (an + bn + 1) = an + bn + 1 := IntWalk.i64_in _ (by omega)
      clear hjj
      by_cases hmo : more = []
      · subst hmo
        have HE : Hid (r = mkR ⟨at_, an + bn, ss, R1⟩) := Lib.hid (by rw [HRq.out, HFin.out]; rfl)
        have hm0 : (([] : List Rule).length : Int) = 0 := rfl
        have HOw5 := HOz
        have HOb5 := HOb
        have HRz5 := HRz
        have HBl5 := HBlz
        have hz5 : w3.heap.size ≤ wz.heap.size := zKz
        have HG5 := HOb5
        have o0 : wz.cell? ⟨w.heap.size + 1 + 1 + 1, 0, none⟩ = some (.int .i64 at_) := HG5.out.cell 0
        have o1' : wz.cell? ⟨w.heap.size + 1 + 1 + 1, 1, none⟩ = some (.int .i64 (an + bn)) := HG5.out.cell 1
        have o2 : wz.cell? ⟨w.heap.size + 1 + 1 + 1, 2, none⟩ = some (.int .i64 ss) := HG5.out.cell 2
        have o3' : wz.cell? ⟨w.heap.size + 1 + 1 + 1, 3, none⟩ = some (.slice Az R1.length cz) := HG5.out.cell 3
        have zO5 : w.heap.size + 1 + 1 + 1 < wz.heap.size := HG5.out.lt
        have HRl : Hid (R1.length ≤ cz ∧ cz ≤ 9223372036854775807) := Lib.hid (by obtain ⟨A8, c8, e8, h81, h82, _⟩ := HOw5.out.form; injection e8 with _ _ e8; subst e8; exact ⟨h81, h82⟩)
        have HE5 := Lib.hid (HOw5.out.vl.els.2.2.2.keep (S' := fun b => (S b ∨ w3.heap.size ≤ b) ∧ b < wz.heap.size) (fun _ _ _ => rfl) (fun b hb => hb))
        by_cases hbig : 10 < (an + bn)
        · have hre : r = (zeroG, 2) := by rw [HE.out]; unfold mkR; rw [errE_large hbig]; rfl
          subst hre
          have r0 := HRz5.out.frozen 0
          have r1 := HRz5.out.frozen 1
          have r2 := HRz5.out.frozen 2
          have r3 := HRz5.out.frozen 3
          have q0 : wz.cell? ⟨w.heap.size + 1 + 1, 0, none⟩ = some (.int .i64 0) := HRz5.out.cell 0
          have q1 : wz.cell? ⟨w.heap.size + 1 + 1, 1, none⟩ = some (.int .i64 0) := HRz5.out.cell 1
          have q2 : wz.cell? ⟨w.heap.size + 1 + 1, 2, none⟩ = some (.int .i64 0) := HRz5.out.cell 2
          have q3 : wz.cell? ⟨w.heap.size + 1 + 1, 3, none⟩ = some (.slice none 0 0) := HRz5.out.cell 3
          have zR5 : w.heap.size + 1 + 1 < wz.heap.size := HRz5.out.lt
          go_wp2_with fail
          generalize hwF : World.setCell _ _ _ = wF
          obtain ⟨hRF, kF⟩ := set4 HRz5.out (.int .i64 0) (.int .i64 0) (.int .i64 0) (.slice none 0 0)
          rw [hwF] at hRF kF
          have u0 : wF.cell? ⟨w.heap.size + 1 + 1, 0, none⟩ = some (.int .i64 0) := hRF.cell 0
          have u1 : wF.cell? ⟨w.heap.size + 1 + 1, 1, none⟩ = some (.int .i64 0) := hRF.cell 1
          have u2 : wF.cell? ⟨w.heap.size + 1 + 1, 2, none⟩ = some (.int .i64 0) := hRF.cell 2
          have u3 : wF.cell? ⟨w.heap.size + 1 + 1, 3, none⟩ = some (.slice none 0 0) := hRF.cell 3
          clear hwF
          exact bodyPost_ret (v := .tuple #[.agg #[.int .i64 0, .int .i64 0, .int .i64 0, .slice none 0 0], .int .i64 2]) (by simp [results, Tryd.results30, go_sem, u0, u1, u2, u3]) rfl ⟨none, 0, rfl, by simp [zeroG], by omega, fun h => absurd rfl h, HBl5.out.trans (kF.to_below (B := w.heap.size) (fun b (hb : b = w.heap.size + 1 + 1) => by omega) HBl5.out.size)⟩
        · go_wp2_with fail
          refine (gramErr_any ⟨at_, (an + bn), ss, R1⟩ Az cz _ wz (by unfold I64; dsimp only; omega) HRl.out.1 HRl.out.2 HE5.out (fun b hb => hb.2)).mono ?_
          rintro e w6 ⟨rfl, hb6⟩
          obtain ⟨E, hE⟩ : ∃ E, E = checkI ⟨at_, (an + bn), ss, R1⟩ := ⟨_, rfl⟩
          rw [← hE]
          have HEq := Lib.hid hE
          clear hE o0 o1' o2 o3'
          have HG6 := Lib.hid (HG5.out.below hb6 HG5.out.lt)
          have HR6 := Lib.hid (HRz5.out.below hb6 HRz5.out.lt)
          have HB6 := Lib.hid (bthen HBl5.out hb6 HBl5.out.size)
          have HE6 := Lib.hid (HE5.out.below hb6)
          have z56 : wz.heap.size ≤ w6.heap.size := hb6.size
          have b0 : w6.cell? ⟨w.heap.size + 1 + 1 + 1, 0, none⟩ = some (.int .i64 at_) := HG6.out.cell 0
          have b1 : w6.cell? ⟨w.heap.size + 1 + 1 + 1, 1, none⟩ = some (.int .i64 (an + bn)) := HG6.out.cell 1
          have b2 : w6.cell? ⟨w.heap.size + 1 + 1 + 1, 2, none⟩ = some (.int .i64 ss) := HG6.out.cell 2
          have b3 : w6.cell? ⟨w.heap.size + 1 + 1 + 1, 3, none⟩ = some (.slice Az R1.length cz) := HG6.out.cell 3
          have zG6 : w.heap.size + 1 + 1 + 1 < w6.heap.size := HG6.out.lt
          have r0 := HR6.out.frozen 0
          have r1 := HR6.out.frozen 1
          have r2 := HR6.out.frozen 2
          have r3 := HR6.out.frozen 3
          have q0 : w6.cell? ⟨w.heap.size + 1 + 1, 0, none⟩ = some (.int .i64 0) := HR6.out.cell 0
          have q1 : w6.cell? ⟨w.heap.size + 1 + 1, 1, none⟩ = some (.int .i64 0) := HR6.out.cell 1
          have q2 : w6.cell? ⟨w.heap.size + 1 + 1, 2, none⟩ = some (.int .i64 0) := HR6.out.cell 2
          have q3 : w6.cell? ⟨w.heap.size + 1 + 1, 3, none⟩ = some (.slice none 0 0) := HR6.out.cell 3
          have zR6 : w.heap.size + 1 + 1 < w6.heap.size := HR6.out.lt
          clear hb6
          by_cases hE0 : E = 0
          · subst hE0
            have hre : r = (⟨at_, (an + bn), ss, R1⟩, 0) := by rw [HE.out]; unfold mkR; rw [errE_small (show ¬ 10 < (⟨at_, (an + bn), ss, R1⟩ : Gram).nons by dsimp only; omega), ← HEq.out]; rfl
            subst hre
            go_wp2_with fail
            generalize hwF : World.setCell _ _ _ = wF
            obtain ⟨hRF, kF⟩ := set4 HR6.out (.int .i64 at_) (.int .i64 (an + bn)) (.int .i64 ss) (.slice Az R1.length cz)
            rw [hwF] at hRF kF
            have u0 : wF.cell? ⟨w.heap.size + 1 + 1, 0, none⟩ = some (.int .i64 at_) := hRF.cell 0
            have u1 : wF.cell? ⟨w.heap.size + 1 + 1, 1, none⟩ = some (.int .i64 (an + bn)) := hRF.cell 1
            have u2 : wF.cell? ⟨w.heap.size + 1 + 1, 2, none⟩ = some (.int .i64 ss) := hRF.cell 2
            have u3 : wF.cell? ⟨w.heap.size + 1 + 1, 3, none⟩ = some (.slice Az R1.length cz) := hRF.cell 3
            clear hwF
            exact bodyPost_ret (v := .tuple #[.agg #[.int .i64 at_, .int .i64 (an + bn), .int .i64 ss, .slice Az R1.length cz], .int .i64 0]) (by simp [results, Tryd.results30, go_sem, u0, u1, u2, u3]) rfl ⟨Az, cz, rfl, HRl.out.1, HRl.out.2, (HE6.out.kept kF (fun b hb (e : b = w.heap.size + 1 + 1) => by rcases hb.1 with h | h; (have := HS.out b h; omega); (have := z1.out; omega))).keep (fun _ _ _ => rfl) (fun b hb => ⟨hb.1.imp id (fun h => by have := z1.out; omega), Nat.lt_of_lt_of_le (Nat.lt_of_lt_of_le hb.2 z56) kF.size⟩), HB6.out.trans (kF.to_below (B := w.heap.size) (fun b (hb : b = w.heap.size + 1 + 1) => by omega) HB6.out.size)⟩
          · have hre : r = (zeroG, E) := by rw [HE.out]; unfold mkR; rw [errE_small (show ¬ 10 < (⟨at_, (an + bn), ss, R1⟩ : Gram).nons by dsimp only; omega), ← HEq.out, if_neg hE0]
            subst hre
            go_wp2_with fail
            generalize hwF : World.setCell _ _ _ = wF
            obtain ⟨hRF, kF⟩ := set4 HR6.out (.int .i64 0) (.int .i64 0) (.int .i64 0) (.slice none 0 0)
            rw [hwF] at hRF kF
            have u0 : wF.cell? ⟨w.heap.size + 1 + 1, 0, none⟩ = some (.int .i64 0) := hRF.cell 0
            have u1 : wF.cell? ⟨w.heap.size + 1 + 1, 1, none⟩ = some (.int .i64 0) := hRF.cell 1
            have u2 : wF.cell? ⟨w.heap.size + 1 + 1, 2, none⟩ = some (.int .i64 0) := hRF.cell 2
            have u3 : wF.cell? ⟨w.heap.size + 1 + 1, 3, none⟩ = some (.slice none 0 0) := hRF.cell 3
            clear hwF
            exact bodyPost_ret (v := .tuple #[.agg #[.int .i64 0, .int .i64 0, .int .i64 0, .slice none 0 0], .int .i64 E]) (by simp [results, Tryd.results30, go_sem, u0, u1, u2, u3]) rfl ⟨none, 0, rfl, by simp [zeroG], by omega, fun h => absurd rfl h, HB6.out.trans (kF.to_below (B := w.heap.size) (fun b (hb : b = w.heap.size + 1 + 1) => by omega) HB6.out.size)⟩
      · have hm1 : (0 : Int) < (more.length : Int) := by have := List.length_pos_iff.2 hmo; omega
        have HE : Hid (r = mkR ⟨at_, an + bn + 1, an + bn, R1 ++ more⟩) := Lib.hid (by rw [HRq.out, HFin.out, if_neg hmo])
        have f1 := HOb.out.frozen 1
        have f2 := HOb.out.frozen 2
        have o2 : wz.cell? ⟨w.heap.size + 1 + 1 + 1, 2, none⟩ = some (.int .i64 ss) := HOb.out.cell 2
        have hcap1 : (R1.length + more.length) * 32 ≤ 140737488355328 := by have := HR1l.out; omega
        have hcap2 : R1.length + more.length ≤ 9223372036854775807 := by have := HR1l.out; omega
        obtain ⟨wy, hwy⟩ : ∃ wy : World, wy = (wz.setCell ⟨w.heap.size + 1 + 1 + 1, 2, none⟩ (.int .i64 (an + bn))).setCell ⟨w.heap.size + 1 + 1 + 1, 1, none⟩ (.int .i64 (an + bn + 1)) := ⟨_, rfl⟩
        have hky : Kept (fun b => b = w.heap.size + 1 + 1 + 1) wz wy := by rw [hwy]; exact ((Kept.refl (fun b => b = w.heap.size + 1 + 1 + 1) wz).setCell (p := ⟨w.heap.size + 1 + 1 + 1, 2, none⟩) (.inl rfl) _).setCell (p := ⟨w.heap.size + 1 + 1 + 1, 1, none⟩) (.inl rfl) _
        have HObY : Hid (Blk' wy (w.heap.size + 1 + 1 + 1) 25 #[.int .i64 at_, .int .i64 (an + bn + 1), .int .i64 (an + bn), .slice Az R1.length cz]) := Lib.hid (by rw [hwy]; exact (HOb.out.set_ 2 _).set_ 1 _)
        have HKy := Lib.hid hky
        have HWy := Lib.hid hwy
        have hzs : ∀ b, b = w.heap.size + 1 + 1 + 1 → ¬ (S b ∨ w3.heap.size ≤ b) := fun b e h => by
          rcases h with h | h
          · have := HS.out b h; omega
          · have := z1.out; omega
        have HOwY := Lib.hid (HOz.out.kept hky hzs)
        have HCy : Hid (Els wy (OwnT S w3.heap.size (.slice Az R1.length cz) wy) more C) := Lib.hid (Els.own (HCz.out.kept hky (fun b hb e => by have := HS.out b hb; omega)) HOwY.out (fun b hb => by have := HS.out b hb; have := z1.out; omega) (by have := hky.size; omega))
        have y3 : wy.cell? ⟨w.heap.size + 1 + 1 + 1, 3, none⟩ = some (.slice Az R1.length cz) := HObY.out.cell 3
        have zy : w3.heap.size ≤ wy.heap.size := by have := hky.size; omega
        have zyO : w.heap.size + 1 + 1 + 1 < wy.heap.size := HObY.out.lt
        clear hwy hky
        go_upto_region 23 with (fail)
        rw [← HWy.out]
        clear o1 o2 o3 f1 f2
        have f3y := HObY.out.frozen 3
        go_upto_region 24 with (at_builtin; (refine wpList_ownMany _ rfl _ _ elemRule rfl rfl HOwY.out more rfl rfl HCy.out hcap1 hcap2 zy ?_); (intro v' w4 hown4 hg4 hat4); (obtain ⟨A9, k9, hv9, _⟩ := hown4.form); (rw [List.length_append] at hv9); (subst hv9); (have hO4 := HObY.out.grown hg4 (fun e => by have h9 := (HOwY.out.block _ e.symm).1; have := z1.out; omega)); (have m3 := hO4.cell 3); (have f3 := hO4.frozen 3); (have zO4 := hO4.lt); (have HO4 := Lib.hid hO4); (clear hO4); (simp at m3); (have H4 := Lib.hid (And.intro hown4 hg4)); (clear hown4 hg4 hat4))
        obtain ⟨hown4, hg4⟩ := H4.out
        obtain ⟨w5, hw5⟩ : ∃ w5 : World, w5 = w4.setCell ⟨w.heap.size + 1 + 1 + 1, 3, none⟩ (.slice A9 (R1.length + more.length) k9) := ⟨_, rfl⟩
        obtain ⟨Q1, hQ1⟩ : ∃ Q1, Q1 = R1 ++ more := ⟨_, rfl⟩
        have hQl : Q1.length = R1.length + more.length := by rw [hQ1, List.length_append]
        rw [← hQ1] at hown4 HE
        rw [← hQl] at hw5 hown4
        have hk5 : Kept (fun b => b = w.heap.size + 1 + 1 + 1 ∨ w3.heap.size ≤ b) wz w5 := by
          rw [hw5]
          exact (((HKy.out.mono (fun b _ h => .inl h)).grown hg4 (fun k hk => .inl (.inr (HOwY.out.block k hk).1)))).setCell (p := ⟨w.heap.size + 1 + 1 + 1, 3, none⟩) (.inl (.inl rfl)) _
        have HOw5 : Hid (Own w5 S w3.heap.size 61 (.slice A9 Q1.length k9) Q1) := Lib.hid (by
          rw [hw5]
          exact hown4.setCell (p := ⟨w.heap.size + 1 + 1 + 1, 3, none⟩) (fun e => by have h9 := (hown4.block _ e).1; have := z1.out; dsimp only at h9; omega) (by have := z1.out; intro h; rcases h with h | h; (have := HS.out _ h; dsimp only at this; omega); (dsimp only at h; omega)) _)
        have HOb5 : Hid (Blk' w5 (w.heap.size + 1 + 1 + 1) 25 #[.int .i64 at_, .int .i64 (an + bn + 1), .int .i64 (an + bn), .slice A9 Q1.length k9]) := Lib.hid (by rw [hw5]; exact HO4.out.set_ 3 _)
        have HRz5 := Lib.hid (HRz.out.kept hk5 (fun h => by have := z1.out; rcases h with h | h <;> omega))
        have HBl5 := Lib.hid (HBlz.out.trans (hk5.to_below (B := w.heap.size) (fun b hb => by have := z1.out; rcases hb with h | h <;> omega) HBlz.out.size))
        have hz5 : w3.heap.size ≤ w5.heap.size := by have := hk5.size; omega
        rw [← hQl, ← hw5]
        clear hown4 hg4 H4 hw5 hQ1 hQl hk5 m3 f3 f3y y3
        have HG5 := HOb5
        have o0 : w5.cell? ⟨w.heap.size + 1 + 1 + 1, 0, none⟩ = some (.int .i64 at_) := HG5.out.cell 0
        have o1' : w5.cell? ⟨w.heap.size + 1 + 1 + 1, 1, none⟩ = some (.int .i64 (an + bn + 1)) := HG5.out.cell 1
        have o2 : w5.cell? ⟨w.heap.size + 1 + 1 + 1, 2, none⟩ = some (.int .i64 (an + bn)) := HG5.out.cell 2
        have o3' : w5.cell? ⟨w.heap.size + 1 + 1 + 1, 3, none⟩ = some (.slice A9 Q1.length k9) := HG5.out.cell 3
        have zO5 : w.heap.size + 1 + 1 + 1 < w5.heap.size := HG5.out.lt
        have HRl : Hid (Q1.length ≤ k9 ∧ k9 ≤ 9223372036854775807) := Lib.hid (by obtain ⟨A8, c8, e8, h81, h82, _⟩ := HOw5.out.form; injection e8 with _ _ e8; subst e8; exact ⟨h81, h82⟩)
        have HE5 := Lib.hid (HOw5.out.vl.els.2.2.2.keep (S' := fun b => (S b ∨ w3.heap.size ≤ b) ∧ b < w5.heap.size) (fun _ _ _ => rfl) (fun b hb => hb))
        by_cases hbig : 10 < (an + bn + 1)
        · have hre : r = (zeroG, 2) := by rw [HE.out]; unfold mkR; rw [errE_large hbig]; rfl
          subst hre
          have r0 := HRz5.out.frozen 0
          have r1 := HRz5.out.frozen 1
          have r2 := HRz5.out.frozen 2
          have r3 := HRz5.out.frozen 3
          have q0 : w5.cell? ⟨w.heap.size + 1 + 1, 0, none⟩ = some (.int .i64 0) := HRz5.out.cell 0
          have q1 : w5.cell? ⟨w.heap.size + 1 + 1, 1, none⟩ = some (.int .i64 0) := HRz5.out.cell 1
          have q2 : w5.cell? ⟨w.heap.size + 1 + 1, 2, none⟩ = some (.int .i64 0) := HRz5.out.cell 2
          have q3 : w5.cell? ⟨w.heap.size + 1 + 1, 3, none⟩ = some (.slice none 0 0) := HRz5.out.cell 3
          have zR5 : w.heap.size + 1 + 1 < w5.heap.size := HRz5.out.lt
          go_wp2_with fail
          generalize hwF : World.setCell _ _ _ = wF
          obtain ⟨hRF, kF⟩ := set4 HRz5.out (.int .i64 0) (.int .i64 0) (.int .i64 0) (.slice none 0 0)
          rw [hwF] at hRF kF
          have u0 : wF.cell? ⟨w.heap.size + 1 + 1, 0, none⟩ = some (.int .i64 0) := hRF.cell 0
          have u1 : wF.cell? ⟨w.heap.size + 1 + 1, 1, none⟩ = some (.int .i64 0) := hRF.cell 1
          have u2 : wF.cell? ⟨w.heap.size + 1 + 1, 2, none⟩ = some (.int .i64 0) := hRF.cell 2
          have u3 : wF.cell? ⟨w.heap.size + 1 + 1, 3, none⟩ = some (.slice none 0 0) := hRF.cell 3
          clear hwF
          exact bodyPost_ret (v := .tuple #[.agg #[.int .i64 0, .int .i64 0, .int .i64 0, .slice none 0 0], .int .i64 2]) (by simp [results, Tryd.results30, go_sem, u0, u1, u2, u3]) rfl ⟨none, 0, rfl, by simp [zeroG], by omega, fun h => absurd rfl h, HBl5.out.trans (kF.to_below (B := w.heap.size) (fun b (hb : b = w.heap.size + 1 + 1) => by omega) HBl5.out.size)⟩
        · go_wp2_with fail
          refine (gramErr_any ⟨at_, (an + bn + 1), (an + bn), Q1⟩ A9 k9 _ w5 (by unfold I64; dsimp only; omega) HRl.out.1 HRl.out.2 HE5.out (fun b hb => hb.2)).mono ?_
          rintro e w6 ⟨rfl, hb6⟩
          obtain ⟨E, hE⟩ : ∃ E, E = checkI ⟨at_, (an + bn + 1), (an + bn), Q1⟩ := ⟨_, rfl⟩
          rw [← hE]
          have HEq := Lib.hid hE
          clear hE o0 o1' o2 o3'
          have HG6 := Lib.hid (HG5.out.below hb6 HG5.out.lt)
          have HR6 := Lib.hid (HRz5.out.below hb6 HRz5.out.lt)
          have HB6 := Lib.hid (bthen HBl5.out hb6 HBl5.out.size)
          have HE6 := Lib.hid (HE5.out.below hb6)
          have z56 : w5.heap.size ≤ w6.heap.size := hb6.size
          have b0 : w6.cell? ⟨w.heap.size + 1 + 1 + 1, 0, none⟩ = some (.int .i64 at_) := HG6.out.cell 0
          have b1 : w6.cell? ⟨w.heap.size + 1 + 1 + 1, 1, none⟩ = some (.int .i64 (an + bn + 1)) := HG6.out.cell 1
          have b2 : w6.cell? ⟨w.heap.size + 1 + 1 + 1, 2, none⟩ = some (.int .i64 (an + bn)) := HG6.out.cell 2
          have b3 : w6.cell? ⟨w.heap.size + 1 + 1 + 1, 3, none⟩ = some (.slice A9 Q1.length k9) := HG6.out.cell 3
          have zG6 : w.heap.size + 1 + 1 + 1 < w6.heap.size := HG6.out.lt
          have r0 := HR6.out.frozen 0
          have r1 := HR6.out.frozen 1
          have r2 := HR6.out.frozen 2
          have r3 := HR6.out.frozen 3
          have q0 : w6.cell? ⟨w.heap.size + 1 + 1, 0, none⟩ = some (.int .i64 0) := HR6.out.cell 0
          have q1 : w6.cell? ⟨w.heap.size + 1 + 1, 1, none⟩ = some (.int .i64 0) := HR6.out.cell 1
          have q2 : w6.cell? ⟨w.heap.size + 1 + 1, 2, none⟩ = some (.int .i64 0) := HR6.out.cell 2
          have q3 : w6.cell? ⟨w.heap.size + 1 + 1, 3, none⟩ = some (.slice none 0 0) := HR6.out.cell 3
          have zR6 : w.heap.size + 1 + 1 < w6.heap.size := HR6.out.lt
          clear hb6
          by_cases hE0 : E = 0
          · subst hE0
            have hre : r = (⟨at_, (an + bn + 1), (an + bn), Q1⟩, 0) := by rw [HE.out]; unfold mkR; rw [errE_small (show ¬ 10 < (⟨at_, (an + bn + 1), (an + bn), Q1⟩ : Gram).nons by dsimp only; omega), ← HEq.out]; rfl
            subst hre
            go_wp2_with fail
            generalize hwF : World.setCell _ _ _ = wF
            obtain ⟨hRF, kF⟩ := set4 HR6.out (.int .i64 at_) (.int .i64 (an + bn + 1)) (.int .i64 (an + bn)) (.slice A9 Q1.length k9)
            rw [hwF] at hRF kF
            have u0 : wF.cell? ⟨w.heap.size + 1 + 1, 0, none⟩ = some (.int .i64 at_) := hRF.cell 0
            have u1 : wF.cell? ⟨w.heap.size + 1 + 1, 1, none⟩ = some (.int .i64 (an + bn + 1)) := hRF.cell 1
            have u2 : wF.cell? ⟨w.heap.size + 1 + 1, 2, none⟩ = some (.int .i64 (an + bn)) := hRF.cell 2
            have u3 : wF.cell? ⟨w.heap.size + 1 + 1, 3, none⟩ = some (.slice A9 Q1.length k9) := hRF.cell 3
            clear hwF
            exact bodyPost_ret (v := .tuple #[.agg #[.int .i64 at_, .int .i64 (an + bn + 1), .int .i64 (an + bn), .slice A9 Q1.length k9], .int .i64 0]) (by simp [results, Tryd.results30, go_sem, u0, u1, u2, u3]) rfl ⟨A9, k9, rfl, HRl.out.1, HRl.out.2, (HE6.out.kept kF (fun b hb (e : b = w.heap.size + 1 + 1) => by rcases hb.1 with h | h; (have := HS.out b h; omega); (have := z1.out; omega))).keep (fun _ _ _ => rfl) (fun b hb => ⟨hb.1.imp id (fun h => by have := z1.out; omega), Nat.lt_of_lt_of_le (Nat.lt_of_lt_of_le hb.2 z56) kF.size⟩), HB6.out.trans (kF.to_below (B := w.heap.size) (fun b (hb : b = w.heap.size + 1 + 1) => by omega) HB6.out.size)⟩
          · have hre : r = (zeroG, E) := by rw [HE.out]; unfold mkR; rw [errE_small (show ¬ 10 < (⟨at_, (an + bn + 1), (an + bn), Q1⟩ : Gram).nons by dsimp only; omega), ← HEq.out, if_neg hE0]
            subst hre
            go_wp2_with fail
            generalize hwF : World.setCell _ _ _ = wF
            obtain ⟨hRF, kF⟩ := set4 HR6.out (.int .i64 0) (.int .i64 0) (.int .i64 0) (.slice none 0 0)
            rw [hwF] at hRF kF
            have u0 : wF.cell? ⟨w.heap.size + 1 + 1, 0, none⟩ = some (.int .i64 0) := hRF.cell 0
            have u1 : wF.cell? ⟨w.heap.size + 1 + 1, 1, none⟩ = some (.int .i64 0) := hRF.cell 1
            have u2 : wF.cell? ⟨w.heap.size + 1 + 1, 2, none⟩ = some (.int .i64 0) := hRF.cell 2
            have u3 : wF.cell? ⟨w.heap.size + 1 + 1, 3, none⟩ = some (.slice none 0 0) := hRF.cell 3
            clear hwF
            exact bodyPost_ret (v := .tuple #[.agg #[.int .i64 0, .int .i64 0, .int .i64 0, .slice none 0 0], .int .i64 E]) (by simp [results, Tryd.results30, go_sem, u0, u1, u2, u3]) rfl ⟨none, 0, rfl, by simp [zeroG], by omega, fun h => absurd rfl h, HB6.out.trans (kF.to_below (B := w.heap.size) (fun b (hb : b = w.heap.size + 1 + 1) => by omega) HB6.out.size)⟩
end Go.Proofs.YtaidadjekfcacaaDoor
