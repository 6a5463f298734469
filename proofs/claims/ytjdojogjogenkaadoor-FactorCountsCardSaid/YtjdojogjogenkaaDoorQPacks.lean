/- Contract: core.Packs, the packs of a node of a forest. -/
import Derived.Test.YtjdojogjogenkaaDoorQPacks1
import Derived.Laws.EntriesVeiled
namespace Go.Proofs.YtjdojogjogenkaaDoor
open Go.RowKit
set_option linter.unusedVariables false
def toK (p : Nat × List NKey) : KPack := ⟨p.1, p.2⟩
def packsK (g : Gram) (w : List Int) (T : List (List Nat)) (k : NKey) : List KPack := (packsL g w T k).map toK
def outsM (g : Gram) (w : List Int) (T : List (List Nat)) (k : NKey) (m : Nat) : List KPack :=
 if k.sym.term then [] else (g.rules.zipIdx.take m).flatMap fun x => if x.1.left = k.sym.n then (waysL w T x.1.right k.fr k.to).map (fun l => ⟨x.2, l⟩) else []
theorem outsM_all (g : Gram) (w : List Int) (T : List (List Nat)) (k : NKey) : outsM g w T k g.rules.length = packsK g w T k := by
 unfold outsM packsK packsL
 split
 ·rfl
 ·rw [List.take_of_length_le (by rw [List.length_zipIdx]; exact Nat.le_refl _), List.map_flatMap]
  congr 1
  funext x
  split
  ·rw [List.map_map]; rfl
  ·rfl
theorem outsM_succ {g : Gram} {w : List Int} {T : List (List Nat)} {k : NKey} {m : Nat} {q : Rule} (hq : g.rules[m]? = some q) : outsM g w T k (m + 1) = outsM g w T k m ++ (if k.sym.term = false ∧ q.left = k.sym.n then PkOut m [] (waysL w T q.right k.fr k.to) else []) := by
 unfold outsM
 by_cases ht : k.sym.term = true
 ·rw [if_pos ht, if_pos ht, if_neg (fun h => by rw [ht] at h; exact absurd h.1 (by simp))]; rfl
 ·have ht' : k.sym.term = false := by simpa using ht
  have hz : g.rules.zipIdx[m]? = some (q, m) := by rw [List.getElem?_zipIdx, hq]; simp
  rw [if_neg ht, if_neg ht, take_snoc hz, List.flatMap_append]
  congr 1
  simp only [List.flatMap_cons, List.flatMap_nil, List.append_nil]
  by_cases hl : q.left = k.sym.n
  ·rw [if_pos hl, if_pos ⟨ht', hl⟩]; simp [PkOut]
  ·rw [if_neg hl, if_neg (fun h => hl h.2)]
theorem outsM_len {g : Gram} {w : List Int} {T : List (List Nat)} {k : NKey} (m : Nat) (h1 : g.rules.length ≤ 32) (h2 : ∀ q ∈ g.rules, q.right.length ≤ 4) (h3 : k.to ≤ 12) : (outsM g w T k m).length ≤ 913952 := by
 unfold outsM
 split
 ·simp
 ·refine Nat.le_trans (flatB_len _ 28561 _ (fun x hx => ?_)) ?_
  ·split
   ·rw [List.length_map]
    refine Nat.le_trans (ways_len w T _ _ _ h3) ?_
    obtain ⟨q, i⟩ := x
    have hq := List.mem_of_getElem? (List.mem_zipIdx_iff_getElem?.1 (List.mem_of_mem_take hx))
    exact Nat.le_trans (Nat.pow_le_pow_right (by omega) (h2 q hq)) (by decide)
   ·simp
  ·rw [List.length_take, List.length_zipIdx]
   have : min m g.rules.length ≤ 32 := by omega
   omega
set_option maxRecDepth 100000 in
set_option maxHeartbeats 8000000 in
theorem packs_any (gt : Int) (n : Nat) (gs : Int) (rs : List Rule) (A : Option Addr) (c : Nat) (ws : List Int) (B : Option Addr) (cw : Nat) (T : List (List Nat)) (bf : Nat) (bs : List Nat) (k : NKey) (S Sw : Nat → Prop) (w : World)
  (hm : ws.length ≤ 12) (hT : MskS ws.length n T) (hn : n ≤ 1000) (hk : KeyOk k ∧ k.fr ≤ ws.length ∧ k.to ≤ 12) (hrl : rs.length ≤ 32) (hr4 : ∀ q ∈ rs, q.right.length ≤ 4) (hsy : ∀ q ∈ rs, ∀ s ∈ q.right, 0 ≤ s.n ∧ (s.term = false → s.n < (n : Int)))
  (hlc : rs.length ≤ c) (hc : c ≤ 9223372036854775807) (hA : Els w S rs A) (hS : ∀ b, S b → b < w.heap.size) (hR : RowsU w bf bs (ws.length + 1) n n T) (hB : Els w Sw ws B) (hSw : ∀ b, Sw b → b < w.heap.size) (hTab : Tab32 w) :
  Calls Tryd.prog 128 #[.agg #[.int .i64 gt, .int .i64 (n : Int), .int .i64 gs, .slice A rs.length c], .slice B ws.length cw, .slice (some ⟨bf, 0, none⟩) n n, .agg #[.bool k.sym.term, .int .i64 k.sym.n, .int .i64 k.fr, .int .i64 k.to]] w (RetOwn w (fun _ => False) 203 (packsK ⟨gt, (n : Int), gs, rs⟩ ws T k)) := by
 have HA := Lib.hid hA
 have HS := Lib.hid hS
 have HSw := Lib.hid hSw
 have HSy := Lib.hid hsy
 have HR4 := Lib.hid hr4
 have HK := Lib.hid hk
 obtain ⟨OB, hOB⟩ : ∃ b, b = w.heap.size + 1 + 1 + 1 + 1 := ⟨_, rfl⟩
 obtain ⟨w1, hw1⟩ : ∃ w1 : World, w1 = ((((w.alloc (.cells #[.int .i64 gt, .int .i64 (n : Int), .int .i64 gs, .slice A rs.length c] 24)).alloc (.cells #[.slice B ws.length cw] 33)).alloc (.cells #[.slice (some ⟨bf, 0, none⟩) n n] 158)).alloc (.cells #[.bool k.sym.term, .int .i64 k.sym.n, .int .i64 k.fr, .int .i64 k.to] 194)).alloc (.cells #[.slice none 0 0] 200) := ⟨_, rfl⟩
 have HW1 := Lib.hid hw1
 have hs1 : w1.heap.size = w.heap.size + 1 + 1 + 1 + 1 + 1 := by rw [hw1]; simp
 have hb1 : Below w.heap.size w w1 := by rw [hw1]; exact (((((Below.refl _ _).alloc (Nat.le_refl _) _).alloc (by simp) _).alloc (by simp; omega) _).alloc (by simp; omega) _).alloc (by simp; omega) _
 have HG1 : Hid (Blk' w1 w.heap.size 24 #[.int .i64 gt, .int .i64 (n : Int), .int .i64 gs, .slice A rs.length c]) := Lib.hid (by rw [hw1]; exact ((((Blk'.new _ _ _).alloc _).alloc _).alloc _).alloc _)
 have HB1 : Hid (Blk' w1 (w.heap.size + 1) 33 #[.slice B ws.length cw]) := Lib.hid (by rw [hw1]; exact (((Blk'.new' _ _ _ (by simp)).alloc _).alloc _).alloc _)
 have HE1 : Hid (Blk' w1 (w.heap.size + 1 + 1) 158 #[.slice (some ⟨bf, 0, none⟩) n n]) := Lib.hid (by rw [hw1]; exact ((Blk'.new' _ _ _ (by simp)).alloc _).alloc _)
 have HK1 : Hid (Blk' w1 (w.heap.size + 1 + 1 + 1) 194 #[.bool k.sym.term, .int .i64 k.sym.n, .int .i64 k.fr, .int .i64 k.to]) := Lib.hid (by rw [hw1]; exact (Blk'.new' _ _ _ (by simp)).alloc _)
 have HO1 : Hid (Blk' w1 OB 200 #[.slice none 0 0]) := Lib.hid (by rw [hw1]; exact Blk'.new' _ _ _ (by rw [hOB]; simp))
 have HZ : Hid (OB = w.heap.size + 1 + 1 + 1 + 1 ∧ w1.heap.size = OB + 1) := Lib.hid ⟨hOB, by omega⟩
 have HA1 := Lib.hid (hA.below hb1)
 have HR1 := Lib.hid (hR.below hb1)
 have HRl := Lib.hid hR.lt
 have HWd1 := Lib.hid (hB.below hb1)
 have HT1 := Lib.hid (hTab.below hb1 hTab.1)
 have HTl := Lib.hid hTab.1
 have HBw1 := Lib.hid hb1
 clear hA hS hSw hsy hr4 hk hw1 hs1 hb1 hR hB hTab
 go_enter Tryd.func128, Tryd.ntmps128
 go_upto_region 2 with (fail)
 rw [← HW1.out, ← hOB]
 clear hOB HW1
 have g3 : w1.cell? ⟨w.heap.size, 3, none⟩ = some (.slice A rs.length c) := HG1.out.cell 3
 have zG : w.heap.size < w1.heap.size := HG1.out.lt
 go_wp2_with fail
 go_loopw [16] (fun iv wr => ∃ (m : Nat) (v : Value), m ≤ rs.length ∧ iv = .int .i64 m ∧ Blk' wr OB 200 #[v] ∧ Own wr (fun _ => False) w1.heap.size 203 v (outsM ⟨gt, (n : Int), gs, rs⟩ ws T k m) ∧ Kept (fun b => b = OB) w1 wr) (fun iv _ => rs.length - (intOf iv).toNat)
 case atStart => exact ⟨0, _, Nat.zero_le _, rfl, HO1.out, by simpa [outsM] using Own.nil _ _ _ _, Kept.refl _ _⟩
 case round =>
  obtain ⟨wo, hwo⟩ : ∃ wo : World, wo = wr := ⟨_, rfl⟩
  subst hwo
  obtain ⟨m, v, hmr, rfl, hO, hOw, hKp⟩ := hrel
  have HO := Lib.hid hO
  have HOw := Lib.hid hOw
  have HKp := Lib.hid hKp
  have hnO : ∀ b, b < w.heap.size + 1 + 1 + 1 + 1 → ¬ b = OB := fun b h1 h2 => by have := HZ.out; omega
  have HGo := Lib.hid (HG1.out.kept hKp (hnO _ (by omega)))
  have HBo := Lib.hid (HB1.out.kept hKp (hnO _ (by omega)))
  have HEo := Lib.hid (HE1.out.kept hKp (hnO _ (by omega)))
  have HKo := Lib.hid (HK1.out.kept hKp (hnO _ (by omega)))
  have HAo := Lib.hid (HA1.out.kept hKp (fun b hb => hnO b (by have := HS.out b hb; omega)))
  have HWo := Lib.hid (HWd1.out.kept hKp (fun b hb => hnO b (by have := HSw.out b hb; omega)))
  have HRo := Lib.hid (HR1.out.kept hKp (fun b hb => hnO b (by have := HRl.out b hb; omega)))
  have HTo : Hid (Tab32 wo) := Lib.hid ⟨Nat.lt_of_lt_of_le HT1.out.1 hKp.size, fun j hj => (hKp.cell (p := ⟨0, j, none⟩) HT1.out.1 (hnO 0 (by have := HTl.out; omega))).trans (HT1.out.2 j hj)⟩
  have zwo : w1.heap.size ≤ wo.heap.size := hKp.size
  clear hO hOw hKp hnO g3 zG
  by_cases hlt : m < rs.length
  ·obtain ⟨q, hq⟩ := get_some hlt
   obtain ⟨bq, oq, Aq, cq, eA, hSq, hbq, hqi, hrc, hcr, hEr, hc0, hc1⟩ := HAo.out.rule hq
   subst eA
   have HQ := Lib.hid (And.intro hq (And.intro hrc (And.intro hcr hEr)))
   have hm0 : (0 : Int) ≤ (m : Int) := by omega
   have hm9 : (m : Int) < (rs.length : Int) := by omega
   obtain ⟨IB, hIB⟩ : ∃ b, b = wo.heap.size := ⟨_, rfl⟩
   obtain ⟨RB, hRB⟩ : ∃ b, b = wo.heap.size + 1 := ⟨_, rfl⟩
   obtain ⟨w5, hw5⟩ : ∃ w5 : World, w5 = (wo.alloc (.cells #[.int .i64 (m : Int)] 3)).alloc (.cells #[.int .i64 q.left, .slice Aq q.right.length cq] 60) := ⟨_, rfl⟩
   have HW5 := Lib.hid hw5
   have hb5 : Below wo.heap.size wo w5 := by rw [hw5]; exact ((Below.refl _ _).alloc (Nat.le_refl _) _).alloc (by simp) _
   have HI5 : Hid (Blk' w5 IB 3 #[.int .i64 (m : Int)]) := Lib.hid (by rw [hw5, hIB]; exact (Blk'.new _ _ _).alloc _)
   have HR5 : Hid (Blk' w5 RB 60 #[.int .i64 q.left, .slice Aq q.right.length cq]) := Lib.hid (by rw [hw5]; exact Blk'.new' _ _ _ (by rw [hRB]; simp))
   have HZ5 : Hid (IB = wo.heap.size ∧ RB = wo.heap.size + 1 ∧ w5.heap.size = wo.heap.size + 2) := Lib.hid ⟨hIB, hRB, by rw [hw5]; simp⟩
   have HB5 := Lib.hid hb5
   clear hq hqi hrc hcr hEr hw5 hb5
   go_upto_region 5 with (fail)
   rw [← HW5.out, ← hRB, ← hIB]
   clear hc0 hc1 hbq hSq hRB hIB HW5
   have HK5 := Lib.hid (HKo.out.below HB5.out HKo.out.lt)
   have HO5 := Lib.hid (HO.out.below HB5.out HO.out.lt)
   have HOw5 := Lib.hid (HOw.out.below HB5.out (Nat.le_refl _))
   have r0 : w5.cell? ⟨RB, 0, none⟩ = some (.int .i64 q.left) := HR5.out.cell 0
   have zR : RB < w5.heap.size := HR5.out.lt
   have k0 : w5.cell? ⟨w.heap.size + 1 + 1 + 1, 0, none⟩ = some (.bool k.sym.term) := HK5.out.cell 0
   have k1 : w5.cell? ⟨w.heap.size + 1 + 1 + 1, 1, none⟩ = some (.int .i64 k.sym.n) := HK5.out.cell 1
   have zK : w.heap.size + 1 + 1 + 1 < w5.heap.size := HK5.out.lt
   by_cases hl : q.left = k.sym.n
   rotate_left
   ·have hl1 : (q.left != k.sym.n) = true := by simpa using hl
    have HN : Hid (outsM ⟨gt, (n : Int), gs, rs⟩ ws T k (m + 1) = outsM ⟨gt, (n : Int), gs, rs⟩ ws T k m) := Lib.hid (by rw [outsM_succ (g := ⟨gt, (n : Int), gs, rs⟩) HQ.out.1, if_neg (fun h => hl h.2), List.append_nil])
    clear hl
    go_wp2_with fail
    go_roundw
    case rel => exact ⟨m + 1, v, hlt, by go_num, HO5.out, by rw [HN.out]; exact HOw5.out, HKp.out.below HB5.out⟩
    case measure => simp [intOf]; omega
   ·have hl1 : (q.left != k.sym.n) = false := by simp [hl]
    by_cases ht : k.sym.term = true
    ·have HN : Hid (outsM ⟨gt, (n : Int), gs, rs⟩ ws T k (m + 1) = outsM ⟨gt, (n : Int), gs, rs⟩ ws T k m) := Lib.hid (by rw [outsM_succ (g := ⟨gt, (n : Int), gs, rs⟩) HQ.out.1, if_neg (fun h => by rw [ht] at h; exact absurd h.1 (by simp)), List.append_nil])
     rw [ht] at k0
     clear hl ht
     go_wp2_with fail
     go_roundw
     case rel => exact ⟨m + 1, v, hlt, by go_num, HO5.out, by rw [HN.out]; exact HOw5.out, HKp.out.below HB5.out⟩
     case measure => simp [intOf]; omega
    ·have ht' : k.sym.term = false := by simpa using ht
     have HN : Hid (outsM ⟨gt, (n : Int), gs, rs⟩ ws T k (m + 1) = outsM ⟨gt, (n : Int), gs, rs⟩ ws T k m ++ PkOut m [] (waysL ws T q.right k.fr k.to)) := Lib.hid (by rw [outsM_succ (g := ⟨gt, (n : Int), gs, rs⟩) HQ.out.1, if_pos ⟨ht', hl⟩])
     rw [ht'] at k0
     clear hl ht ht'
     obtain ⟨VB, hVB⟩ : ∃ b, b = w5.heap.size := ⟨_, rfl⟩
     obtain ⟨w6, hw6⟩ : ∃ w6 : World, w6 = w5.alloc (.cells #[.func (.func 152) #[] #[.pointer (some ⟨w.heap.size + 1 + 1 + 1, 0, none⟩), .pointer (some ⟨OB, 0, none⟩), .pointer (some ⟨IB, 0, none⟩), .pointer (some ⟨w.heap.size + 1, 0, none⟩), .pointer (some ⟨w.heap.size + 1 + 1, 0, none⟩), .pointer (some ⟨VB, 0, none⟩)]] 231) := ⟨_, rfl⟩
     have HW6 := Lib.hid hw6
     have hb6 : Below w5.heap.size w5 w6 := by rw [hw6]; exact (Below.refl _ _).alloc (Nat.le_refl _) _
     have hb06 : Below wo.heap.size wo w6 := bthen HB5.out hb6 HB5.out.size
     have HV6 : Hid (Blk' w6 VB 231 #[.func (.func 152) #[] #[.pointer (some ⟨w.heap.size + 1 + 1 + 1, 0, none⟩), .pointer (some ⟨OB, 0, none⟩), .pointer (some ⟨IB, 0, none⟩), .pointer (some ⟨w.heap.size + 1, 0, none⟩), .pointer (some ⟨w.heap.size + 1 + 1, 0, none⟩), .pointer (some ⟨VB, 0, none⟩)]]) := Lib.hid (by rw [hw6, hVB]; exact Blk'.new _ _ _)
     have HZ6 : Hid (VB = w5.heap.size ∧ w6.heap.size = w5.heap.size + 1) := Lib.hid ⟨hVB, by rw [hw6]; simp⟩
     have HB6 := Lib.hid hb06
     have HR6 := Lib.hid (HR5.out.below hb6 HR5.out.lt)
     have HI6 := Lib.hid (HI5.out.below hb6 HI5.out.lt)
     go_upto_region 8 with (fail)
     rw [← hVB, ← HW6.out]
     clear hw6 hb6 hb06 hVB HW6 r0 zR k0 k1 zK
     have HP6 : Hid (PkS (w.heap.size + 1 + 1 + 1) OB IB (w.heap.size + 1) (w.heap.size + 1 + 1) VB bf k m ws B cw n T bs Sw (fun b => b = OB ∨ v.ownBlock = some b ∨ w6.heap.size ≤ b) w6) := Lib.hid (by
      refine ⟨HKo.out.below HB6.out HKo.out.lt, HI6.out, HBo.out.below HB6.out HBo.out.lt, HEo.out.below HB6.out HEo.out.lt, HV6.out, HRo.out.below HB6.out, HWo.out.below HB6.out, HTo.out.below HB6.out HTo.out.1, fun b hb hY => ?_⟩
      have z := HZ.out
      have z5 := HZ5.out
      have z6 := HZ6.out
      have hown : v.ownBlock = some b → w1.heap.size ≤ b ∧ b < wo.heap.size := fun h => HOw.out.block b h
      have hlow : b < w1.heap.size ∧ b ≠ OB ∨ wo.heap.size ≤ b ∧ b < w6.heap.size := by
       rcases hb with h | h | h | h | h | h | h | h
       ·exact .inl (by omega)
       ·exact .inr (by omega)
       ·exact .inl (by omega)
       ·exact .inl (by omega)
       ·exact .inr (by omega)
       ·have := HRl.out b h; exact .inl (by omega)
       ·have := HSw.out b h; exact .inl (by omega)
       ·have := HTl.out; exact .inl (by omega)
      rcases hY with h | h | h
      ·omega
      ·have := hown h; omega
      ·omega)
     have r1 : w6.cell? ⟨RB, 1, none⟩ = some (.slice Aq q.right.length cq) := HR6.out.cell 1
     have zR6 : RB < w6.heap.size := HR6.out.lt
     have v0 : w6.cell? ⟨VB, 0, none⟩ = some (.func (.func 152) #[] #[.pointer (some ⟨w.heap.size + 1 + 1 + 1, 0, none⟩), .pointer (some ⟨OB, 0, none⟩), .pointer (some ⟨IB, 0, none⟩), .pointer (some ⟨w.heap.size + 1, 0, none⟩), .pointer (some ⟨w.heap.size + 1 + 1, 0, none⟩), .pointer (some ⟨VB, 0, none⟩)]) := HV6.out.cell 0
     have zV6 : VB < w6.heap.size := HV6.out.lt
     have k2 : w6.cell? ⟨w.heap.size + 1 + 1 + 1, 2, none⟩ = some (.int .i64 (k.fr : Int)) := HP6.out.kb.cell 2
     have zK6 : w.heap.size + 1 + 1 + 1 < w6.heap.size := HP6.out.kb.lt
     go_wp2_with fail
     refine (packs1_any (w.heap.size + 1 + 1 + 1) OB IB (w.heap.size + 1) (w.heap.size + 1 + 1) VB bf k m ws B cw n T bs Sw w1.heap.size w6.heap.size (fun b => b = OB ∨ v.ownBlock = some b ∨ w6.heap.size ≤ b) (by have := HZ.out; omega) (.inl rfl) (fun b h => .inr (.inr h)) hm hT hn HK.out.2.2 (by omega) q.right w6 Aq cq S k.fr [] none 0 (fun _ => False) v (outsM ⟨gt, (n : Int), gs, rs⟩ ws T k m) HP6.out (HO.out.below HB6.out HO.out.lt) (HOw.out.below HB6.out (Nat.le_refl _)) (fun b h => .inr (.inl h)) HQ.out.2.1 HQ.out.2.2.1 (HQ.out.2.2.2.below HB6.out) (fun b hb hY => by
       have z := HZ.out
       have h1 := HS.out b hb
       have h2 := HB6.out.size
       rcases hY with h | h | h
       ·omega
       ·have := (HOw.out.block b h).1; omega
       ·omega) (HSy.out q (List.mem_of_getElem? HQ.out.1)) HK.out.2.1 Els.nilS (fun _ h => h.elim) (Nat.le_refl _) (by omega) (by have := HR4.out q (List.mem_of_getElem? HQ.out.1); simpa using this) (by
       have h1 := outsM_len (g := ⟨gt, (n : Int), gs, rs⟩) (w := ws) (T := T) (k := k) m hrl HR4.out HK.out.2.2
       have h2 : 13 ^ q.right.length ≤ 28561 := Nat.le_trans (Nat.pow_le_pow_right (by omega) (HR4.out q (List.mem_of_getElem? HQ.out.1))) (by decide)
       omega) ⟨by have := HB6.out.size; omega, Nat.le_refl _⟩).mono ?_
     rintro e w7 ⟨rfl, v7, hO7, hOw7, hK7, hat7⟩
     have HO7 := Lib.hid hO7
     have HOw7 := Lib.hid hOw7
     have HK7 : Hid (Kept (fun b => b = OB) w1 w7) := Lib.hid ((HKp.out.below HB6.out).later hK7 (fun b hb => hb.imp id (fun h => (HOw.out.block b h).1)))
     clear hO7 hOw7 hK7 hat7 r1 zR6 v0 zV6 k2 zK6
     go_wp2_with fail
     go_roundw
     case rel => exact ⟨m + 1, v7, hlt, by go_num, HO7.out, by rw [HN.out]; exact HOw7.out, HK7.out⟩
     case measure => simp [intOf]; omega
  ·have hmm : m = rs.length := by omega
   have HFin : Hid (Own wo (fun _ => False) w1.heap.size 203 v (packsK ⟨gt, (n : Int), gs, rs⟩ ws T k)) := Lib.hid (by have h := HOw.out; rw [hmm] at h; rw [← outsM_all]; exact h)
   have o0 : wo.cell? ⟨OB, 0, none⟩ = some v := HO.out.cell 0
   have zO : OB < wo.heap.size := HO.out.lt
   clear hmm
   go_wp2
   go_ret
   exact ⟨v, rfl, HFin.out.base HBw1.out.size, HBw1.out.trans (HKp.out.to_below (B := w.heap.size) (fun b hb => by have := HZ.out; omega) HBw1.out.size)⟩
end Go.Proofs.YtjdojogjogenkaaDoor
