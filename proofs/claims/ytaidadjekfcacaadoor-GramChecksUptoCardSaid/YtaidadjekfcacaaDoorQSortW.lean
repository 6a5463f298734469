/- Contract: slices.SortFunc at gram.Sorted's closure, by the shelf's contract. -/
import Derived.Test.YtaidadjekfcacaaDoorQOrdG
import Derived.Test.YtaidadjekfcacaaDoorQp1
import Derived.Test.YtaidadjekfcacaaDoorQSortF
namespace Go.Proofs.YtaidadjekfcacaaDoor
open Go.RowKit
set_option linter.unusedVariables false

section
variable {α : Type} [Inhabited α]
theorem kept_sortWorld (enc : α → Value) (w : World) (blk off m : Nat) (dk : Array α) (os : Array Obj) : Kept (fun b => b = blk) w (sortWorld enc w blk off m dk os) := by
  unfold sortWorld Go.Sort.grow Go.Sort.putRow Go.Sort.mapBlock Go.Sort.ahead
  refine ⟨rfl, rfl, rfl, by simp, fun k hk hx => ?_⟩
  show (w.heap.modify blk _ ++ os)[k]? = w.heap[k]?
  rw [Array.getElem?_append_left (by simpa using hk), Array.getElem?_modify, if_neg (fun e => hx e.symm)]
end
/-- A place of the rules. -/
abbrev Pl (n : Nat) := { k : Nat // k < n }
def encP {n : Nat} (k : Pl n) : Value := .int .i64 (k.1 : Int)
def cfP (rs : List Rule) (x y : Pl rs.length) : Int := ruleCmp (ruleAt rs (x.1 : Int)) (ruleAt rs (y.1 : Int))
theorem ltP (rs : List Rule) (x y : Pl rs.length) : ltOf (cfP rs) x y = ltAt rs (x.1 : Int) (y.1 : Int) := rfl
theorem swoP (rs : List Rule) : Go.Sort.SWO (ltOf (cfP rs)) where
  irrefl x := by rw [ltP]; exact ltRule_irr _
  trans x y z h1 h2 := by rw [ltP] at *; exact ltRule_trans h1 h2
  ntrans x y z h1 h2 := by
    rw [ltP] at *
    unfold ltAt at *
    cases h : ltRule (ruleAt rs (x.1 : Int)) (ruleAt rs (z.1 : Int)) with
    | false => rfl
    | true =>
      by_cases e : ruleAt rs (x.1 : Int) = ruleAt rs (y.1 : Int)
      · rw [e] at h; rw [h] at h2; cases h2
      · rcases ltRule_total e with q | q
        · rw [q] at h1; cases h1
        · have := ltRule_trans q h; rw [this] at h2; cases h2
theorem sortG_go : ∀ args w, (callFunc 107 args).run Tryd.prog w = .ok (.enter 107 args) w := enters_of Tryd.func107 (by kernel_rfl) rfl

set_option maxRecDepth 100000 in
set_option maxHeartbeats 1000000 in
/-- Sorting the places of rules that are apart. -/
theorem sortFuncW_any (t n s : Int) (rs : List Rule) (A : Option Addr) (c G : Nat) (Sr : Nat → Prop) (w : World) (xs : List Int) (g cap : Nat) (h1 : 1 ≤ xs.length) (h32 : xs.length ≤ 32) (hok : SrtOk rs xs) (hG : SrtG t n s rs A c G Sr w) (hR : RowI w g xs) (hgG : G ≠ g) (hgS : ∀ b, Sr b → b ≠ g) :
    Calls Tryd.prog 106 #[.slice (some ⟨g, 0, none⟩) xs.length cap, .func (.func 107) #[] #[.pointer (some ⟨G, 0, none⟩)]] w (RetSort rs xs g w) := by
  obtain ⟨x0, hx0⟩ := get_some (show 0 < xs.length by omega)
  obtain ⟨k0, _, hk0⟩ := hok.range x0 (List.mem_of_getElem? hx0)
  letI : Inhabited (Pl rs.length) := ⟨⟨k0, hk0⟩⟩
  obtain ⟨ds, hds⟩ : ∃ ds : List (Pl rs.length), ds.map (fun k => (k.1 : Int)) = xs := by
    have key : ∀ l : List Int, (∀ v ∈ l, ∃ k : Nat, v = (k : Int) ∧ k < rs.length) → ∃ ds : List (Pl rs.length), ds.map (fun k => (k.1 : Int)) = l := by
      intro l
      induction l with
      | nil => intro _; exact ⟨[], rfl⟩
      | cons v l ih =>
        intro h
        obtain ⟨k, rfl, hk⟩ := h v (by simp)
        obtain ⟨ds, e⟩ := ih (fun v hv => h v (by simp [hv]))
        exact ⟨⟨k, hk⟩ :: ds, by rw [List.map_cons, e]⟩
    exact key xs hok.range
  have hdl : ds.length = xs.length := by rw [← hds, List.length_map]
  have hH : Go.Sort.Holds encP w g 0 ds.toArray := by
    intro j hj
    have hj' : j < ds.length := by simpa using hj
    rw [Nat.zero_add]
    refine ⟨?_, hR.frozen j⟩
    have hx : xs[j]? = some ((ds[j].1 : Nat) : Int) := by rw [← hds, List.getElem?_map, List.getElem?_eq_getElem hj']; rfl
    rw [hR.cell hx]
    unfold encP
    rw [getElem!_pos ds.toArray j hj]
    simp
  have hcmp : CmpLays1 Tryd.prog 107 #[.pointer (some ⟨G, 0, none⟩)] encP (cfP rs) g 0 ds.toArray.size w := by
    intro m os dk hs x y
    have hk := kept_sortWorld encP w g 0 m dk os
    exact (sorted1Gr t n s rs A c G Sr _ x.1 y.1 x.2 y.2 (hG.kept hk (fun e => hgG e) (fun b hb e => hgS b hb e))).mono fun e w' h => ⟨h.1, h.2⟩
  have hsz : ds.toArray.size = xs.length := by simpa using hdl
  have h := Any.slices_SortFunc sortI encP (fun _ => rfl) (cfP rs) (swoP rs) 107 #[.pointer (some ⟨G, 0, none⟩)] g 0 cap ds.toArray w sortG_go hcmp hH hR.lt (by omega)
  rw [hsz] at h
  refine h.mono ?_
  rintro e w' ⟨rfl, d', n', os, ⟨hp1, _, hp2⟩, hsd, rfl⟩
  have hd's : d'.size = xs.length := by rw [hp1, hsz]
  have hperm : d'.toList.Perm ds := by
    have e1 : d'.extract 0 xs.length = d' := by rw [← hd's]; exact Array.extract_size
    have e2 : ds.toArray.extract 0 xs.length = ds.toArray := by rw [← hsz]; exact Array.extract_size
    rw [e1, e2] at hp2
    simpa using hp2
  obtain ⟨ys, hys⟩ : ∃ ys : List Int, ys = d'.toList.map (fun k => (k.1 : Int)) := ⟨_, rfl⟩
  have hyl : ys.length = xs.length := by rw [hys, List.length_map, Array.length_toList, hd's]
  have hperm2 : ys.Perm xs := by rw [hys, ← hds]; exact hperm.map _
  have hyget : ∀ (i : Nat) (a : Int), ys[i]? = some a → ∃ hi : i < d'.size, a = ((d'[i]'hi).1 : Int) := by
    intro i a ha
    rw [hys, List.getElem?_map] at ha
    cases hi : d'.toList[i]? with
    | none => rw [hi] at ha; cases ha
    | some k =>
      rw [hi] at ha
      obtain ⟨hl, he⟩ := List.getElem?_eq_some_iff.1 hi
      have hl' : i < d'.size := by simpa using hl
      refine ⟨hl', ?_⟩
      injection ha with ha
      rw [← ha, ← he, Array.getElem_toList]
  have hH' := holds_sortWorld encP w g 0 n' ds.toArray d' os hR.lt hH hp1
  have hk := kept_sortWorld encP w g 0 n' d' os
  refine ⟨rfl, ys, ?_, hperm2, ?_, hk⟩
  · obtain ⟨cur, hb, hc⟩ := hR
    have hb' : (sortWorld encP w g 0 n' d' os).heap[g]? = some (.cells (Go.Sort.putCells encP 0 d' cur) 3 (0, 0)) := by
      unfold sortWorld Go.Sort.grow Go.Sort.putRow Go.Sort.mapBlock Go.Sort.ahead
      show (w.heap.modify g _ ++ os)[g]? = _
      rw [Array.getElem?_append_left (by simpa using hb.lt), Array.getElem?_modify, if_pos rfl, show w.heap[g]? = _ from hb]
      rfl
    refine ⟨_, hb', fun i a ha => ?_⟩
    obtain ⟨hi, rfl⟩ := hyget i a ha
    have h9 := (hH' i hi).1
    rw [Nat.zero_add] at h9
    have hbk : Blk' (sortWorld encP w g 0 n' d' os) g 3 (Go.Sort.putCells encP 0 d' cur) := hb'
    rw [hbk.cell] at h9
    rw [h9, getElem!_pos d' i hi]
    rfl
  · intro p q a b hpq hq ha hb
    obtain ⟨hip, rfl⟩ := hyget p a ha
    obtain ⟨hiq, rfl⟩ := hyget q b hb
    have hs := hsd p q (Nat.zero_le _) hpq (by omega)
    rw [getElem!_pos d' p hip, getElem!_pos d' q hiq, ltP] at hs
    have hne : (d'[p]'hip).1 ≠ (d'[q]'hiq).1 := by
      intro e
      have hnd : ys.Nodup := hperm2.nodup_iff.2 hok.nodup
      have := nodup_inj ys p q _ hnd ha (by rw [hb, e])
      omega
    cases h : ltAt rs ((d'[p]'hip).1 : Int) ((d'[q]'hiq).1 : Int) with
    | true => rfl
    | false =>
      have h9 := ltAt_total (i := 0) (j := 0) (rs := rs) (a := (d'[p]'hip).1) (b := (d'[q]'hiq).1) hok.apart (d'[p]'hip).2 (d'[q]'hiq).2 hne h
      rw [h9] at hs
      cases hs
end Go.Proofs.YtaidadjekfcacaaDoor
