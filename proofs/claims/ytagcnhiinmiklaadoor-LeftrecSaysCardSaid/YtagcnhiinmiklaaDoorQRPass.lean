/- Contract: parlref2.Passes. -/
import Derived.Test.YtagcnhiinmiklaaDoorQRNull
import Derived.Test.YtagcnhiinmiklaaDoorQCycP
import Derived.Test.YtagcnhiinmiklaaDoorQp1
namespace Go.Proofs.YtagcnhiinmiklaaDoor
open Go.RowKit
set_option linter.unusedVariables false

def HitP (g : Gram) (r : List Sym) (x : Int) (i : Nat) : Prop := r[i]? = some ⟨false, x⟩ ∧ Nuls g (r.take i) ∧ Nuls g (r.drop (i + 1))
theorem hitP_iff {g : Gram} {q : Rule} {x : Int} : PassN g q x ↔ ∃ i, HitP g q.right x i := by
  constructor
  · rintro ⟨i, h1, h2⟩
    exact ⟨i, h1, fun y hy => h2 y (List.mem_append_left _ hy), fun y hy => h2 y (List.mem_append_right _ hy)⟩
  · rintro ⟨i, h1, h2, h3⟩
    refine ⟨i, h1, fun y hy => ?_⟩
    rcases List.mem_append.1 hy with hy | hy
    · exact h2 y hy
    · exact h3 y hy
def RpL (g : Gram) (r : List Sym) (x : Int) (w2 : World) (i : Value) (wr : World) : Prop :=
  ∃ k : Nat, k ≤ r.length ∧ i = .int .i64 k ∧ (∀ j, j < k → ¬ HitP g r x j) ∧ Below w2.heap.size w2 wr
theorem rpL_next {g : Gram} {r : List Sym} {x : Int} {k : Nat} (h : ∀ j, j < k → ¬ HitP g r x j) (hk : ¬ HitP g r x k) : ∀ j, j < k + 1 → ¬ HitP g r x j := fun j hj => by
  by_cases e : j = k
  · subst e; exact hk
  · exact h j (by omega)

set_option maxRecDepth 100000 in
set_option maxHeartbeats 8000000 in
theorem rpasses_any (g : Gram) (gv : Value) (b n : Nat) (nl : List Bool) (q : Rule) (Aq : Option Addr) (cq : Nat) (S : Nat → Prop) (x : Int) (w : World) (hgv : ∃ a b c A k d, gv = .agg #[.int .i64 a, .int .i64 b, .int .i64 c, .slice A k d]) (h2 : Blk' w b 4 (bcells nl)) (hl : nl.length = n) (hr4 : q.right.length ≤ 1000)
    (hs : ∀ s ∈ q.right, 0 ≤ s.n ∧ (s.term = false → s.n.toNat < n)) (hrc : q.right.length ≤ cq) (hcr : cq ≤ 9223372036854775807) (hA : Els w S q.right Aq) (hS : ∀ b, S b → b < w.heap.size) (hem : ∀ l, (∀ s ∈ l, s ∈ q.right) → (emptyB nl l = true ↔ Nuls g l)) :
    Calls Tryd.prog 35 #[gv, .slice (some ⟨b, 0, none⟩) n n, .agg #[.int .i64 q.left, .slice Aq q.right.length cq], .int .i64 x] w fun e w' => ∃ bb, e = .returned (.bool bb) ∧ (bb = true ↔ PassN g q x) ∧ Below w.heap.size w w' := by
  obtain ⟨ga, gb, gc, GA, gk, gd, rfl⟩ := hgv
  have HP := Lib.hid (@hitP_iff g q x)
  obtain ⟨ql, qr⟩ := q
  dsimp only at *
  have HS := Lib.hid hS
  have HEm := Lib.hid hem
  have HSy := Lib.hid hs
  have hqr9 : qr.length ≤ 9223372036854775807 := by omega
  obtain ⟨w2, hw2⟩ : ∃ w2 : World, w2 = (w.alloc (.cells #[.int .i64 ga, .int .i64 gb, .int .i64 gc, .slice GA gk gd] 24)).alloc (.cells #[.int .i64 ql, .slice Aq qr.length cq] 49) := ⟨_, rfl⟩
  have HW2 := Lib.hid hw2
  have hb2 : Below w.heap.size w w2 := by rw [hw2]; exact ((Below.refl _ _).alloc (Nat.le_refl _) _).alloc (by simp) _
  have HB2 := Lib.hid hb2
  have HRb : Hid (Blk' w2 (w.heap.size + 1) 49 #[.int .i64 ql, .slice Aq qr.length cq]) := Lib.hid (by rw [hw2]; exact Blk'.new' _ _ _ (by simp))
  have HN := Lib.hid (h2.below hb2 h2.lt)
  have HE := Lib.hid (hA.below hb2)
  have hz2 : w.heap.size + 1 < w2.heap.size := HRb.out.lt
  have r1 : w2.cell? ⟨w.heap.size + 1, 1, none⟩ = some (.slice Aq qr.length cq) := HRb.out.cell 1
  clear hw2 hb2 h2 hA hS hem hs
  go_enter Tryd.func35, Tryd.ntmps35
  go_upto_region 1 with (fail)
  rw [← HW2.out]
  go_wp2_with fail
  go_loopw [14] (fun i wr => RpL g qr x w2 i wr) (fun i _ => qr.length - (intOf i).toNat)
  case atStart => exact ⟨0, Nat.zero_le _, rfl, (fun j h => by omega), Below.refl _ _⟩
  case round =>
    obtain ⟨wo, hwo⟩ : ∃ wo : World, wo = wr := ⟨_, rfl⟩
    subst hwo
    obtain ⟨k, hk, rfl, hno, hb⟩ := hrel
    have HNo := Lib.hid hno
    have HB := Lib.hid hb
    have hzo : w2.heap.size ≤ wo.heap.size := hb.size
    clear hno hb r1
    by_cases hkl : k < qr.length
    · obtain ⟨s, hx⟩ := get_some hkl
      obtain ⟨bx, ox, rfl, hSx, hbx, hxi, hxc0, hxc1⟩ := (HE.out.below HB.out).sym hx
      have HX := Lib.hid hx
      obtain ⟨st, sn⟩ := s
      dsimp only at hxi hxc0 hxc1
      have hk0 : (0 : Int) ≤ (k : Int) := by omega
      obtain ⟨ws, hws⟩ : ∃ ws : World, ws = wo.alloc (.cells #[.bool st, .int .i64 sn] 45) := ⟨_, rfl⟩
      have HWs := Lib.hid hws
      have hbs : Below wo.heap.size wo ws := by rw [hws]; exact (Below.refl _ _).alloc (Nat.le_refl _) _
      have HBs := Lib.hid (bthen HB.out hbs HB.out.size)
      have HXs : Hid (Blk' ws wo.heap.size 45 #[.bool st, .int .i64 sn]) := Lib.hid (by rw [hws]; exact Blk'.new _ _ _)
      have hRs := HRb.out.below HBs.out HRb.out.lt
      have r1 : ws.cell? ⟨w.heap.size + 1, 1, none⟩ = some (.slice (some ⟨bx, ox, none⟩) qr.length cq) := hRs.cell 1
      have zr : w.heap.size + 1 < ws.heap.size := hRs.lt
      have x0 : ws.cell? ⟨wo.heap.size, 0, none⟩ = some (.bool st) := HXs.out.cell 0
      have x1 : ws.cell? ⟨wo.heap.size, 1, none⟩ = some (.int .i64 sn) := HXs.out.cell 1
      have zx : wo.heap.size < ws.heap.size := HXs.out.lt
      have HNs := Lib.hid (HN.out.below HBs.out HN.out.lt)
      have HEs := Lib.hid (HE.out.below HBs.out)
      clear hws hbs hRs hx hxi
      by_cases hc : st = false ∧ sn = x
      · obtain ⟨rfl, rfl⟩ := hc
        have hE1 := HEs.out.takeS k
        have hE2 := HEs.out.dropS (k + 1)
        have hl1 : (qr.take k).length = k := by rw [List.length_take]; omega
        have hl2 : (qr.drop (k + 1)).length = qr.length - (k + 1) := by simp
        have HEL := Lib.hid (And.intro hE1 (And.intro hE2 (And.intro hl1 hl2)))
        have HIn : Hid ((∀ s ∈ qr.take k, s ∈ qr) ∧ (∀ s ∈ qr.drop (k + 1), s ∈ qr)) := Lib.hid ⟨fun s h => List.mem_of_mem_take h, fun s h => List.mem_of_mem_drop h⟩
        clear hE1 hE2 hl1 hl2
        have hi3 : (k : Int) + 1 ≤ (qr.length : Int) := by omega
        have hi4 : (k : Int) + 1 ≤ (cq : Int) := by omega
        have hi5 : (k : Int) ≤ (cq : Int) := by omega
        have hi6 : (0 : Int) ≤ (k : Int) + 1 := by omega
        have Hw : Hid (IntKind.i64.wrap ((k : Int) + 1) = (k : Int) + 1) := Lib.hid (IntWalk.i64_in _ (by omega))
        go_upto_region 4 with (fail)
        rw [← HWs.out]
        clear hxc0 hxc1
        go_wp2_with fail
        refine (rempty_any b n k _ nl (qr.take k) _ S ws HNs.out hl HEL.out.2.2.1.symm (by rw [HEL.out.2.2.1]; omega) (fun s h => HSy.out s (HIn.out.1 s h)) HEL.out.1).mono ?_
        rintro e w5 ⟨rfl, hb5⟩
        obtain ⟨e1, he1⟩ : ∃ e1, e1 = emptyB nl (qr.take k) := ⟨_, rfl⟩
        rw [← he1]
        have HE1 : Hid (e1 = true ↔ Nuls g (qr.take k)) := Lib.hid (by rw [he1]; exact HEm.out _ HIn.out.1)
        have HB5 := Lib.hid (bthen HBs.out hb5 HBs.out.size)
        have hR5 := HRb.out.below HB5.out HRb.out.lt
        have HN5 := Lib.hid (HNs.out.below hb5 HNs.out.lt)
        have HEL5 := Lib.hid (HEL.out.2.1.below hb5)
        have r5 : w5.cell? ⟨w.heap.size + 1, 1, none⟩ = some (.slice (some ⟨bx, ox, none⟩) qr.length cq) := hR5.cell 1
        have zr5 : w.heap.size + 1 < w5.heap.size := hR5.lt
        clear he1 hb5 hR5 r1 x0 x1
        cases e1
        · have HNk : Hid (¬ HitP g qr sn k) := Lib.hid (fun h => by have := HE1.out.2 h.2.1; cases this)
          go_wp2
          go_roundw
          case rel => exact ⟨k + 1, hkl, by go_num, rpL_next HNo.out HNk.out, HB5.out⟩
          case measure => simp [intOf]; omega
        · have hw := Hw.out
          have HDr : Hid (∀ A2 : Option Addr, (cq = k + 1 ∨ A2 = some ⟨bx, ox + (k + 1) * 2, none⟩) → Els w5 S (qr.drop (k + 1)) A2) := Lib.hid (fun A2 h => by
            rcases h with h | h
            · rw [List.drop_of_length_le (by omega)]; exact Els.nilS
            · rw [h]; exact HEL5.out)
          rcases Classical.em (cq = k + 1) with hcap | hcap
          all_goals
            first
            | have hce : (cq = k + 1) = True := by simp [hcap]
            | have hce : (cq = k + 1) = False := by simp [hcap]
            have HCap := Lib.hid hcap
            clear hcap
            go_wp2_with fail
            refine (rempty_any b n _ _ nl (qr.drop (k + 1)) _ S w5 HN5.out hl (by rw [HEL.out.2.2.2]) (by rw [HEL.out.2.2.2]; omega) (fun s h => HSy.out s (HIn.out.2 s h)) (HDr.out _ (by first | exact .inl HCap.out | exact .inr rfl | (right; congr 2; omega)))).mono ?_
            rintro e w6 ⟨rfl, hb6⟩
            obtain ⟨e2, he2⟩ : ∃ e2, e2 = emptyB nl (qr.drop (k + 1)) := ⟨_, rfl⟩
            rw [← he2]
            have HE2 : Hid (e2 = true ↔ Nuls g (qr.drop (k + 1))) := Lib.hid (by rw [he2]; exact HEm.out _ HIn.out.2)
            have HB6 := Lib.hid (bthen HB5.out hb6 HB5.out.size)
            clear he2 hb6 r5 hw
            cases e2
            · have HNk : Hid (¬ HitP g qr sn k) := Lib.hid (fun h => by have := HE2.out.2 h.2.2; cases this)
              go_wp2
              go_roundw
              case rel => exact ⟨k + 1, hkl, by go_num, rpL_next HNo.out HNk.out, HB6.out⟩
              case measure => simp [intOf]; omega
            · go_wp2
              go_ret
              exact ⟨true, rfl, ⟨fun _ => HP.out.2 ⟨k, HX.out, HE1.out.1 trivial, HE2.out.1 trivial⟩, fun _ => rfl⟩, bthen HB2.out HB6.out HB2.out.size⟩
      · have HNk : Hid (¬ HitP g qr x k) := Lib.hid (fun h => by
          have h1 := h.1
          rw [HX.out] at h1
          injection h1 with h1
          injection h1 with h2 h3
          exact hc ⟨h2, h3⟩)
        have hne : st = true ∨ (st = false ∧ ¬ sn = x) := by
          cases st
          · exact .inr ⟨rfl, fun e => hc ⟨rfl, e⟩⟩
          · exact .inl rfl
        clear hc
        go_upto_region 4 with (fail)
        rw [← HWs.out]
        clear hxc0 hxc1
        rcases hne with rfl | ⟨rfl, hne⟩
        · go_wp2
          go_roundw
          case rel => exact ⟨k + 1, hkl, by go_num, rpL_next HNo.out HNk.out, HBs.out⟩
          case measure => simp [intOf]; omega
        · have hne2 : (sn == x) = false := by simp [hne]
          go_wp2
          go_roundw
          case rel => exact ⟨k + 1, hkl, by go_num, rpL_next HNo.out HNk.out, HBs.out⟩
          case measure => simp [intOf]; omega
    · have hkk : k = qr.length := by omega
      go_wp2
      go_ret
      refine ⟨false, rfl, ⟨(fun h => by cases h), fun h => ?_⟩, bthen HB2.out HB.out HB2.out.size⟩
      obtain ⟨i, hi⟩ := HP.out.1 h
      have hlt := (List.getElem?_eq_some_iff.1 hi.1).1
      exact absurd hi (HNo.out i (by omega))
end Go.Proofs.YtagcnhiinmiklaaDoor
