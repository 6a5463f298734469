/- Contract: parlmake.tree and Tree make a tree of the grammar, or none. -/
import Derived.Test.YtjdojogjogenkaaDoorQw2
import Derived.Test.YtjdojogjogenkaaDoorQp1
import Derived.Test.YtjdojogjogenkaaDoorQw1
namespace Go.Proofs.YtjdojogjogenkaaDoor
open Go.RowKit
set_option linter.unusedVariables false

theorem StreamAt.kept {X : Nat → Prop} {S : Nat → Prop} {w w' : World} {g : Nat} (h : StreamAt S w g) (k : Kept X w w') (hg : ¬ X g) (hx : ∀ b, S b → ¬ X b) : StreamAt S w' g := by
  obtain ⟨xs, A, c, h1, h2, h3, h4, h5⟩ := h
  have hlt := World.block_lt_of_cell? w _ h1
  exact ⟨xs, A, c, (k.cell (p := ⟨g, 0, none⟩) hlt hg).trans h1, (World.frozen?_of_block (a := ⟨g, 0, none⟩) (k.block g hlt hg)).trans h2, h3, h4, h5.kept k hx⟩
theorem StreamAt.lt {S : Nat → Prop} {w : World} {g : Nat} (h : StreamAt S w g) : g < w.heap.size := by
  obtain ⟨xs, A, c, h1, _⟩ := h
  exact World.block_lt_of_cell? w _ h1
theorem vts_len {g : Gram} : ∀ (ks : List Tree) (ss : List Sym), vts g ks ss → ks.length = ss.length
  | [], [], _ => rfl
  | k :: ks, s :: ss, h => by unfold vts at h; simp [vts_len ks ss h.2]
  | [], _ :: _, h => by unfold vts at h; exact h.elim
  | _ :: _, [], h => by unfold vts at h; exact h.elim
theorem vts_snoc {g : Gram} : ∀ (ks : List Tree) (ss : List Sym) (k : Tree) (s : Sym), vts g ks ss → vt g k s → vts g (ks ++ [k]) (ss ++ [s])
  | [], [], k, s, _, h => by simpa [vts] using h
  | x :: ks, y :: ss, k, s, h, h' => by unfold vts at h; simp only [List.cons_append, vts]; exact ⟨h.1, vts_snoc ks ss k s h.2 h'⟩
  | [], _ :: _, _, _, h, _ => by unfold vts at h; exact h.elim
  | _ :: _, [], _, _, h, _ => by unfold vts at h; exact h.elim
theorem yields_snoc (ks : List Tree) (k : Tree) : yields (ks ++ [k]) = yields ks ++ yieldT k := by
  induction ks with
  | nil => simp [yields]
  | cons x ks ih => simp only [List.cons_append, yields, ih, List.append_assoc]
theorem whereFrom_mem (p : Rule → Bool) : ∀ (rs : List Rule) (k : Nat) (x : Int), x ∈ whereFrom p k rs → ∃ i : Nat, x = ((k + i : Nat) : Int) ∧ ∃ q, rs[i]? = some q ∧ p q = true
  | [], k, x, h => by simp [whereFrom] at h
  | r :: rs, k, x, h => by
    unfold whereFrom at h
    split at h
    · rename_i hp
      rcases List.mem_cons.1 h with e | h
      · exact ⟨0, by simpa using e, r, rfl, hp⟩
      · obtain ⟨i, h1, q, h2, h3⟩ := whereFrom_mem p rs (k + 1) x h
        exact ⟨i + 1, by rw [h1]; congr 1; omega, q, by simpa using h2, h3⟩
    · obtain ⟨i, h1, q, h2, h3⟩ := whereFrom_mem p rs (k + 1) x h
      exact ⟨i + 1, by rw [h1]; congr 1; omega, q, by simpa using h2, h3⟩

/-- The stream's block and the count's. -/
def TwoB (Sg Lf : Nat) (b : Nat) : Prop := b = Sg ∨ b = Lf
/-- What parlmake.tree returns: a tree with the symbol at its root, or false. -/
def RetTree (g : Gram) (y : Sym) (S : Nat → Prop) (Sg Lf : Nat) (left : Int) (w : World) (e : Ending) (w' : World) : Prop :=
  ∃ (v : Value) (ok : Bool) (l' : Int), e = .returned (.tuple #[v, .bool ok]) ∧ Kept (TwoB Sg Lf) w w' ∧ StreamAt S w' Sg ∧ Blk' w' Lf 3 #[.int .i64 l'] ∧ (∃ (a b : Int) (A : Option Addr) (n c : Nat), v = .agg #[.int .i64 a, .int .i64 b, .slice A n c]) ∧
    (ok = true → 0 ≤ l' ∧ ∃ t : Tree, vt g t y ∧ Vl w' (fun b => w.heap.size ≤ b ∧ b < w'.heap.size) t v ∧ l' + (nodesT t : Nat) ≤ left) ∧ (ok = false → v = .agg #[.int .i64 0, .int .i64 0, .slice none 0 0])

theorem res_store {S : Nat → Prop} {Sg Lf : Nat} {w wx : World} {l' : Int} {R : Nat} {cs : Array Value} (K : Kept (TwoB Sg Lf) w wx) (st : StreamAt S wx Sg) (L : Blk' wx Lf 3 #[.int .i64 l']) (Z : Blk' wx R 27 cs) (hR : w.heap.size ≤ R) (hS : ∀ b, S b → b < w.heap.size) (zS : Sg < w.heap.size) (zL : Lf < w.heap.size) (a b c : Value) :
    Kept (TwoB Sg Lf) w (((wx.setCell ⟨R, 0, none⟩ a).setCell ⟨R, 1, none⟩ b).setCell ⟨R, 2, none⟩ c) ∧ StreamAt S (((wx.setCell ⟨R, 0, none⟩ a).setCell ⟨R, 1, none⟩ b).setCell ⟨R, 2, none⟩ c) Sg ∧
      Blk' (((wx.setCell ⟨R, 0, none⟩ a).setCell ⟨R, 1, none⟩ b).setCell ⟨R, 2, none⟩ c) Lf 3 #[.int .i64 l'] ∧ Blk' (((wx.setCell ⟨R, 0, none⟩ a).setCell ⟨R, 1, none⟩ b).setCell ⟨R, 2, none⟩ c) R 27 (((cs.setIfInBounds 0 a).setIfInBounds 1 b).setIfInBounds 2 c) := by
  have n1 : Sg ≠ R := by omega
  have n2 : ¬ S R := fun h => by have := hS _ h; omega
  have n3 : Lf ≠ R := by omega
  exact ⟨((K.setCell (p := ⟨R, 0, none⟩) (.inr hR) a).setCell (p := ⟨R, 1, none⟩) (.inr hR) b).setCell (p := ⟨R, 2, none⟩) (.inr hR) c,
    ((st.setCell (p := ⟨R, 0, none⟩) n1 n2 a).setCell (p := ⟨R, 1, none⟩) n1 n2 b).setCell (p := ⟨R, 2, none⟩) n1 n2 c,
    ((L.far (p := ⟨R, 0, none⟩) n3 a).far (p := ⟨R, 1, none⟩) n3 b).far (p := ⟨R, 2, none⟩) n3 c, ((Z.set_ 0 a).set_ 1 b).set_ 2 c⟩

def MineL (g : Gram) (n : Int) (w0 w : World) (B : Nat) (Sg Lf : Nat) (v i : Value) (wr : World) : Prop :=
  ∃ (k : Nat) (out : List Int), k ≤ g.rules.length ∧ i = .int .i64 k ∧ out.length ≤ k ∧ whereFrom (fun q => q.left == n) 0 g.rules = out ++ whereFrom (fun q => q.left == n) k (g.rules.drop k) ∧ Below w0.heap.size w0 wr ∧ Own wr (fun _ => False) w0.heap.size 3 v out
def KidsL (g : Gram) (ss : List Sym) (r left : Int) (S : Nat → Prop) (w wq : World) (Sg Lf T : Nat) (i : Value) (wr : World) : Prop :=
  ∃ (m : Nat) (ks : List Tree) (v : Value) (l' : Int), m ≤ ss.length ∧ i = .int .i64 m ∧ ks.length = m ∧ vts g ks (ss.take m) ∧ 0 ≤ l' ∧ l' + (nodesL ks : Nat) ≤ left ∧ Kept (fun b => TwoB Sg Lf b ∨ b = T) wq wr ∧ StreamAt S wr Sg ∧ Blk' wr Lf 3 #[.int .i64 l'] ∧
    Blk' wr T 27 #[.int .i64 r, .int .i64 0, v] ∧ Own wr (fun _ => False) (T + 1) 27 v ks

set_option maxRecDepth 100000 in
set_option maxHeartbeats 1000000 in
theorem tree_none (gt gn gs : Int) (rs : List Rule) (A : Option Addr) (c : Nat) (S : Nat → Prop) (Sg Lf : Nat) (yt : Bool) (yn : Int) (left deep : Int) (w : World) (hne : Sg ≠ Lf) (hS : ∀ b, S b → b ≠ Sg ∧ b ≠ Lf) (hl0 : 0 ≤ left) (hl1 : left ≤ 1000) (hst : StreamAt S w Sg) (hL : Blk' w Lf 3 #[.int .i64 left]) (hno : left = 0 ∨ deep < 0) : Calls Tryd.prog 58 #[.agg #[.int .i64 gt, .int .i64 gn, .int .i64 gs, .slice A rs.length c], .agg #[.bool yt, .int .i64 yn], .pointer (some ⟨Sg, 0, none⟩), .pointer (some ⟨Lf, 0, none⟩), .int .i64 deep] w (RetTree ⟨gt, gn, gs, rs⟩ ⟨yt, yn⟩ S Sg Lf left w) := by
  have l0 : w.cell? ⟨Lf, 0, none⟩ = some (.int .i64 left) := hL.cell 0
  have lf := hL.frozen 0
  have zL := hL.lt
  have zL1 : Lf < w.heap.size + 1 := by omega
  have zL2 : Lf < w.heap.size + 1 + 1 := by omega
  have hK : ∀ o1 o2 o3, Kept (TwoB Sg Lf) w ((((w.setCell ⟨Lf, 0, none⟩ (.int .i64 (left - 1))).alloc o1).alloc o2).alloc o3) := fun o1 o2 o3 => ((((Kept.refl _ _).setCell (p := ⟨Lf, 0, none⟩) (.inl (.inr rfl)) _).alloc _).alloc _).alloc _
  have hSt : ∀ o1 o2 o3, StreamAt S ((((w.setCell ⟨Lf, 0, none⟩ (.int .i64 (left - 1))).alloc o1).alloc o2).alloc o3) Sg := fun o1 o2 o3 => (((hst.setCell (p := ⟨Lf, 0, none⟩) hne (fun h => (hS _ h).2 rfl) _).alloc o1 trivial).alloc o2 trivial).alloc o3 trivial
  have hL1 : ∀ o1 o2 o3, Blk' ((((w.setCell ⟨Lf, 0, none⟩ (.int .i64 (left - 1))).alloc o1).alloc o2).alloc o3) Lf 3 #[.int .i64 (left - 1)] := fun o1 o2 o3 => (((hL.set_ 0 _).alloc o1).alloc o2).alloc o3
  have HZ := Lib.hid (And.intro hK (And.intro hSt hL1))
  clear hK hSt hL1 hst hL
  by_cases h0 : left = 0
  · subst h0
    clear hno
    go_enter Tryd.func58, Tryd.ntmps58
    go_wp2
    exact bodyPost_ret (v := .tuple #[.agg #[.int .i64 0, .int .i64 0, .slice none 0 0], .bool false]) (by simp [results, Tryd.results58, go_sem]) rfl ⟨_, _, _, rfl, HZ.out.1 _ _ _, HZ.out.2.1 _ _ _, HZ.out.2.2 _ _ _, ⟨_, _, _, _, _, rfl⟩, (fun h => by cases h), (fun _ => rfl)⟩
  · have hd : deep < 0 := by omega
    have hl2 : ¬ left - 1 < 0 := by omega
    clear hno h0
    go_enter Tryd.func58, Tryd.ntmps58
    go_wp2
    exact bodyPost_ret (v := .tuple #[.agg #[.int .i64 0, .int .i64 0, .slice none 0 0], .bool false]) (by simp [results, Tryd.results58, go_sem]) rfl ⟨_, _, _, rfl, HZ.out.1 _ _ _, HZ.out.2.1 _ _ _, HZ.out.2.2 _ _ _, ⟨_, _, _, _, _, rfl⟩, (fun h => by cases h), (fun _ => rfl)⟩

set_option maxRecDepth 100000 in
set_option maxHeartbeats 1000000 in
theorem tree_term (gt gn gs : Int) (rs : List Rule) (A : Option Addr) (c : Nat) (S : Nat → Prop) (Sg Lf : Nat) (yn : Int) (left deep : Int) (w : World) (hne : Sg ≠ Lf) (hS : ∀ b, S b → b ≠ Sg ∧ b ≠ Lf) (hl0 : 0 ≤ left) (hl1 : left ≤ 1000) (hst : StreamAt S w Sg) (hL : Blk' w Lf 3 #[.int .i64 left]) (h1 : 1 ≤ left) (h2 : 0 ≤ deep) (hy : I64 yn) : Calls Tryd.prog 58 #[.agg #[.int .i64 gt, .int .i64 gn, .int .i64 gs, .slice A rs.length c], .agg #[.bool true, .int .i64 yn], .pointer (some ⟨Sg, 0, none⟩), .pointer (some ⟨Lf, 0, none⟩), .int .i64 deep] w (RetTree ⟨gt, gn, gs, rs⟩ ⟨true, yn⟩ S Sg Lf left w) := by
  have l0 : w.cell? ⟨Lf, 0, none⟩ = some (.int .i64 left) := hL.cell 0
  have lf := hL.frozen 0
  have zL := hL.lt
  have zL1 : Lf < w.heap.size + 1 := by omega
  have zL2 : Lf < w.heap.size + 1 + 1 := by omega
  have hK : ∀ o1 o2 o3, Kept (TwoB Sg Lf) w ((((w.setCell ⟨Lf, 0, none⟩ (.int .i64 (left - 1))).alloc o1).alloc o2).alloc o3) := fun o1 o2 o3 => ((((Kept.refl _ _).setCell (p := ⟨Lf, 0, none⟩) (.inl (.inr rfl)) _).alloc _).alloc _).alloc _
  have hSt : ∀ o1 o2 o3, StreamAt S ((((w.setCell ⟨Lf, 0, none⟩ (.int .i64 (left - 1))).alloc o1).alloc o2).alloc o3) Sg := fun o1 o2 o3 => (((hst.setCell (p := ⟨Lf, 0, none⟩) hne (fun h => (hS _ h).2 rfl) _).alloc o1 trivial).alloc o2 trivial).alloc o3 trivial
  have hL1 : ∀ o1 o2 o3, Blk' ((((w.setCell ⟨Lf, 0, none⟩ (.int .i64 (left - 1))).alloc o1).alloc o2).alloc o3) Lf 3 #[.int .i64 (left - 1)] := fun o1 o2 o3 => (((hL.set_ 0 _).alloc o1).alloc o2).alloc o3
  have HZ := Lib.hid (And.intro hK (And.intro hSt hL1))
  have HY := Lib.hid hy
  have hl2 : ¬ left - 1 < 0 := by omega
  have hd2 : ¬ deep < 0 := by omega
  clear hK hSt hL1 hst hL hy
  go_enter Tryd.func58, Tryd.ntmps58
  go_wp2
  refine bodyPost_ret (v := .tuple #[.agg #[.int .i64 (-1), .int .i64 yn, .slice none 0 0], .bool true]) (by simp [results, Tryd.results58, go_sem]) rfl ⟨_, _, _, rfl, HZ.out.1 _ _ _, HZ.out.2.1 _ _ _, HZ.out.2.2 _ _ _, ⟨_, _, _, _, _, rfl⟩, fun _ => ⟨by omega, ⟨-1, yn, []⟩, ?_, ?_, ?_⟩, (fun h => by cases h)⟩
  · unfold vt; simp
  · exact Vl.of_tree (t := ⟨-1, yn, []⟩) (show I64 (-1) from ⟨by decide, by decide⟩) HY.out Vl.nil
  · have e : nodesT ⟨-1, yn, []⟩ = 1 := by simp [nodesT, nodesL]
    rw [e]; omega

set_option maxRecDepth 100000 in
set_option maxHeartbeats 4000000 in
theorem tree_any (g : Gram) (A : Option Addr) (c : Nat) (Sr S : Nat → Prop) (Sg Lf : Nat) (h64 : I64 g.terms ∧ I64 g.nons ∧ I64 g.start) (hlc : g.rules.length ≤ c) (hc : c ≤ 9223372036854775807) (hrl : g.rules.length ≤ 1000) (hrr : ∀ q ∈ g.rules, q.right.length ≤ 1000)
    (hne : Sg ≠ Lf) (hSr : ∀ b, Sr b → b ≠ Sg ∧ b ≠ Lf) (hS : ∀ b, S b → b ≠ Sg ∧ b ≠ Lf) :
    ∀ (n : Nat) (deep : Int) (y : Sym) (left : Int) (w : World), deep + 1 = (n : Int) → n ≤ 1000 → I64 y.n → 0 ≤ left → left ≤ 1000 → Els w Sr g.rules A → StreamAt S w Sg → Blk' w Lf 3 #[.int .i64 left] → (∀ b, Sr b ∨ S b → b < w.heap.size) →
      Calls Tryd.prog 58 #[.agg #[.int .i64 g.terms, .int .i64 g.nons, .int .i64 g.start, .slice A g.rules.length c], .agg #[.bool y.term, .int .i64 y.n], .pointer (some ⟨Sg, 0, none⟩), .pointer (some ⟨Lf, 0, none⟩), .int .i64 deep] w (RetTree g y S Sg Lf left w) := by
  obtain ⟨gt, gn, gs, rs⟩ := g
  dsimp only at *
  intro n
  induction n with
  | zero =>
    intro deep y left w hd hn hy hl0 hl1 hA hst hL hbd
    exact tree_none gt gn gs rs A c S Sg Lf y.term y.n left deep w hne hS hl0 hl1 hst hL (.inr (by omega))
  | succ n ih =>
    intro deep y left w hd hn hy hl0 hl1 hA hst hL hbd
    by_cases hle : left = 0
    · exact tree_none gt gn gs rs A c S Sg Lf y.term y.n left deep w hne hS hl0 hl1 hst hL (.inl hle)
    obtain ⟨yt, yn⟩ := y
    cases yt
    rotate_left
    · exact tree_term gt gn gs rs A c S Sg Lf yn left deep w hne hS hl0 hl1 hst hL (by omega) (by omega) hy
    dsimp only at hy
    have l0 : w.cell? ⟨Lf, 0, none⟩ = some (.int .i64 left) := hL.cell 0
    have lf := hL.frozen 0
    have zL := hL.lt
    have zL1 : Lf < w.heap.size + 1 := by omega
    have zL2 : Lf < w.heap.size + 1 + 1 := by omega
    have zS : Sg < w.heap.size := hst.lt
    have hl2 : ¬ left - 1 < 0 := by omega
    have hd2 : ¬ deep < 0 := by omega
    obtain ⟨w1, hw1⟩ : ∃ w1 : World, w1 = (((w.setCell ⟨Lf, 0, none⟩ (.int .i64 (left - 1))).alloc (.cells #[.int .i64 gt, .int .i64 gn, .int .i64 gs, .slice A rs.length c] 24)).alloc (.cells #[.bool false, .int .i64 yn] 40)).alloc (.cells #[.int .i64 0, .int .i64 0, .slice none 0 0] 27) := ⟨_, rfl⟩
    have hk1 : Kept (TwoB Sg Lf) w w1 := by rw [hw1]; exact ((((Kept.refl _ _).setCell (p := ⟨Lf, 0, none⟩) (.inl (.inr rfl)) _).alloc _).alloc _).alloc _
    have hst1 : StreamAt S w1 Sg := by rw [hw1]; exact (((hst.setCell (p := ⟨Lf, 0, none⟩) hne (fun h => (hS _ h).2 rfl) _).alloc _ trivial).alloc _ trivial).alloc _ trivial
    have hL1 : Blk' w1 Lf 3 #[.int .i64 (left - 1)] := by rw [hw1]; exact (((hL.set_ 0 _).alloc _).alloc _).alloc _
    have hG1 : Blk' w1 w.heap.size 24 #[.int .i64 gt, .int .i64 gn, .int .i64 gs, .slice A rs.length c] := by rw [hw1]; exact ((Blk'.new' _ _ _ (by simp [World.setCell])).alloc _).alloc _
    have hY1 : Blk' w1 (w.heap.size + 1) 40 #[.bool false, .int .i64 yn] := by rw [hw1]; exact (Blk'.new' _ _ _ (by simp [World.setCell])).alloc _
    have hZ1 : Blk' w1 (w.heap.size + 1 + 1) 27 #[.int .i64 0, .int .i64 0, .slice none 0 0] := by rw [hw1]; exact Blk'.new' _ _ _ (by simp [World.setCell])
    have hA1 := hA.kept hk1 (fun b hb h => by rcases h with h | h; exact (hSr b hb).1 h; exact (hSr b hb).2 h)
    have H1 := Lib.hid (And.intro hk1 (And.intro hst1 (And.intro hL1 (And.intro hG1 (And.intro hY1 (And.intro hZ1 hA1))))))
    have HW1 := Lib.hid hw1
    have IH := Lib.hid ih
    have HSr := Lib.hid hSr
    have HSS := Lib.hid hS
    have HRR := Lib.hid hrr
    have HBd := Lib.hid hbd
    have HRL := Lib.hid hrl
    have H64 := Lib.hid h64
    have HY := Lib.hid hy
    have hrl9 : rs.length ≤ 9223372036854775807 := by omega
    clear hk1 hst1 hL1 hG1 hY1 hZ1 hA1 hw1 ih hSr hS hrr hbd hrl h64 hy hst hL hA
    go_enter Tryd.func58, Tryd.ntmps58
    go_upto_region 8 with fail
    rw [← HW1.out]
    have g13 : w1.cell? ⟨w.heap.size, 3, none⟩ = some (.slice A rs.length c) := H1.out.2.2.2.1.cell 3
    go_wp2_with fail
    go_loopw [12, 42] (fun v i wr => MineL ⟨gt, gn, gs, rs⟩ yn w1 w1 0 Sg Lf v i wr) (fun _ i _ => rs.length - (intOf i).toNat)
    case atStart => exact ⟨0, [], Nat.zero_le _, rfl, by simp, by simp, Below.refl _ _, Own.nil _ _ _ _⟩
    case round =>
      obtain ⟨wo, hwo⟩ : ∃ wo : World, wo = wr := ⟨_, rfl⟩
      subst hwo
      obtain ⟨k, out, hk, rfl, hol, hr, hb, hown⟩ := hrel
      dsimp only at hk hr
      have HR := Lib.hid hr
      have HB := Lib.hid hb
      have HO := Lib.hid hown
      have y1 : wo.cell? ⟨w.heap.size + 1, 1, none⟩ = some (.int .i64 yn) := (H1.out.2.2.2.2.1.below hb H1.out.2.2.2.2.1.lt).cell 1
      have zy : w.heap.size + 1 < wo.heap.size := (H1.out.2.2.2.2.1.below hb H1.out.2.2.2.2.1.lt).lt
      clear hr hb hown
      by_cases hlt : k < rs.length
      · obtain ⟨r, hx⟩ := get_some hlt
        obtain ⟨b, o, Ar, cr, rfl, hSb, hbs, hi, hrc, hcr, hEr, hc0, hc1⟩ := (H1.out.2.2.2.2.2.2.below HB.out).rule hx
        have Hd := Lib.hid (drop_cons hx)
        obtain ⟨l, rr⟩ := r
        dsimp only at *
        have hk0 : (0 : Int) ≤ (k : Int) := by omega
        have HOa := Lib.hid (HO.out.alloc (.cells #[.int .i64 l, .slice Ar rr.length cr] 60))
        have HBa := Lib.hid (HB.out.alloc HB.out.size (.cells #[.int .i64 l, .slice Ar rr.length cr] 60))
        clear hx hEr
        by_cases he : l = yn
        · have hq : (l == yn) = true := by simp [he]
          have E3 := Lib.hid (show whereFrom (fun q => q.left == yn) 0 rs = (out ++ [(k : Int)]) ++ whereFrom (fun q => q.left == yn) (k + 1) (rs.drop (k + 1)) by rw [HR.out, Hd.out, whereFrom]; simp [he])
          have hcap1 : (out.length + 1) * 8 ≤ 140737488355328 := by have := HRL.out; omega
          have hcap2 : out.length + 1 ≤ 9223372036854775807 := by omega
          have HI : Hid (I64 (k : Int)) := Lib.hid ⟨by omega, by omega⟩
          clear he
          go_wp2_with (at_builtin; refine wpList_own1 _ rfl _ _ elemInt rfl rfl (HOa.out.alloc _) (k : Int) [.int .i64 (k : Int)] rfl (by have h := At.new (wo.alloc (.cells #[.int .i64 l, .slice Ar rr.length cr] 60)) [.int .i64 (k : Int)] 3; rwa [show (wo.alloc (.cells #[.int .i64 l, .slice Ar rr.length cr] 60)).heap.size = wo.heap.size + 1 from by simp] at h) ⟨rfl, HI.out⟩ hcap1 hcap2 (Nat.le_trans HBa.out.size ((Below.refl _ _).alloc (Nat.le_refl _) _).size) ?_; intro v' w3 hown3 hg3 hat3; have H3 := Lib.hid (And.intro hown3 hg3); clear hown3 hg3 hat3)
          go_roundw
          case rel => exact ⟨k + 1, out ++ [(k : Int)], hlt, by go_num, by simp; omega, E3.out, bgrown (HBa.out.alloc HBa.out.size _) H3.out.2 (HOa.out.alloc _) (Nat.le_refl _) (Nat.le_trans HBa.out.size ((Below.refl _ _).alloc (Nat.le_refl _) _).size), H3.out.1⟩
          case measure => simp [intOf]; omega
        · have hq : (l == yn) = false := by simp [he]
          have E3 := Lib.hid (show whereFrom (fun q => q.left == yn) 0 rs = out ++ whereFrom (fun q => q.left == yn) (k + 1) (rs.drop (k + 1)) by rw [HR.out, Hd.out, whereFrom]; simp [he])
          clear he
          go_wp2
          go_roundw
          case rel => exact ⟨k + 1, out, hlt, by go_num, by omega, E3.out, HBa.out, HOa.out⟩
          case measure => simp [intOf]; omega
      · have E4 := Lib.hid (show whereFrom (fun q => q.left == yn) 0 rs = out by rw [HR.out, List.drop_of_length_le (by omega), whereFrom, List.append_nil])
        clear HR
        have HZo := Lib.hid (And.intro (H1.out.1.below HB.out) (And.intro (H1.out.2.1.below HB.out (Nat.le_refl _)) (And.intro (H1.out.2.2.1.below HB.out H1.out.2.2.1.lt) (And.intro (H1.out.2.2.2.2.2.1.below HB.out H1.out.2.2.2.2.2.1.lt) (And.intro (H1.out.2.2.2.1.below HB.out H1.out.2.2.2.1.lt) (H1.out.2.2.2.2.2.2.below HB.out))))))
        have zR : w.heap.size + 1 + 1 < wo.heap.size := HZo.out.2.2.2.1.lt
        by_cases hout : out.length = 0
        · have h0 : ((out.length : Int) == 0) = true := by simp [hout]
          have HX := Lib.hid (res_store HZo.out.1 HZo.out.2.1 HZo.out.2.2.1 HZo.out.2.2.2.1 (by omega) (fun b hb => HBd.out b (.inr hb)) zS zL (.int .i64 0) (.int .i64 0) (.slice none 0 0))
          have z0 : wo.cell? ⟨w.heap.size + 1 + 1, 0, none⟩ = some (.int .i64 0) := (HZo.out.2.2.2.1).cell 0
          have z1 : wo.cell? ⟨w.heap.size + 1 + 1, 1, none⟩ = some (.int .i64 0) := (HZo.out.2.2.2.1).cell 1
          have z2 : wo.cell? ⟨w.heap.size + 1 + 1, 2, none⟩ = some (.slice none 0 0) := (HZo.out.2.2.2.1).cell 2
          have zf0 := (HZo.out.2.2.2.1).frozen 0
          have zf1 := (HZo.out.2.2.2.1).frozen 1
          have zf2 := (HZo.out.2.2.2.1).frozen 2
          obtain ⟨Ao, co, e1, _⟩ := HO.out.form
          subst e1
          clear hout
          have r0 := HX.out.2.2.2.cell 0
          have r1 := HX.out.2.2.2.cell 1
          have r2 := HX.out.2.2.2.cell 2
          simp at r0 r1 r2
          go_wp2
          exact bodyPost_ret (v := .tuple #[.agg #[.int .i64 0, .int .i64 0, .slice none 0 0], .bool false]) (by simp [results, Tryd.results58, go_sem, r0, r1, r2]) rfl ⟨_, _, _, rfl, HX.out.1, HX.out.2.1, HX.out.2.2.1, ⟨_, _, _, _, _, rfl⟩, (fun h => by cases h), (fun _ => rfl)⟩
        · have h0 : ((out.length : Int) == 0) = false := beq_eq_false_iff_ne.2 (by omega)
          have hol1 : (1 : Int) ≤ (out.length : Int) := by omega
          have hol2 : (out.length : Int) ≤ 1000000000 := by have := HRL.out; omega
          obtain ⟨Ao, co, e1, hco, hcm, _⟩ := HO.out.form
          subst e1
          have hom : out.length ≤ 9223372036854775807 := by omega
          clear hout
          go_wp2_with fail
          refine (next_any S Sg _ wo hol1 hol2 (fun h => (HSS.out _ h).1 rfl) HZo.out.2.1).mono ?_
          rintro e w2 ⟨r, hr0, hr1, rfl, hs2, hg2⟩
          obtain ⟨x, hx⟩ := get_some (show r.toNat < out.length by omega)
          obtain ⟨i, hxi, q, hq, hql⟩ := whereFrom_mem _ rs 0 x (by rw [E4.out]; exact List.mem_of_getElem? hx)
          rw [Nat.zero_add] at hxi
          subst hxi
          have hO2 := HO.out.grown hg2 (fun k hk => by injection hk with hk; subst hk; exact ⟨fun e => by have := (HO.out.block _ e).1; have := H1.out.1.size; omega, by simp; have := H1.out.1.size; omega⟩)
          obtain ⟨gg, cg, cs, hv, hg1, hg2', hrd, hat⟩ := hO2.at_ hx
          injection hv with hv1 hv2 hv3
          subst hv1
          have hm0 : w2.cell? ⟨gg, r.toNat, none⟩ = some (.int .i64 (i : Int)) := by
            obtain ⟨rfl, _⟩ := hrd
            have h := hat.c0
            rwa [show r.toNat * Dat.size Int = r.toNat from Nat.mul_one _] at h
          have hk2 : Kept (TwoB Sg Lf) w w2 := HZo.out.1.grown hg2 (fun k hk => by injection hk with hk; exact .inl (.inl hk.symm))
          have hXo : Kept (TwoB Sg Lf) wo w2 := Kept.of_grown hg2 (fun k hk => by injection hk with hk; exact .inl hk.symm)
          have hnS : ¬ TwoB Sg Lf w.heap.size := fun h => by rcases h with h | h <;> omega
          have hnR : ¬ TwoB Sg Lf (w.heap.size + 1 + 1) := fun h => by rcases h with h | h <;> omega
          have hG2 := HZo.out.2.2.2.2.1.kept hXo hnS
          have hZ2 := HZo.out.2.2.2.1.kept hXo hnR
          have hL2 : Blk' w2 Lf 3 #[.int .i64 (left - 1)] := HZo.out.2.2.1.grown hg2 (fun e => by injection e with e; exact hne e.symm)
          have hA2 := HZo.out.2.2.2.2.2.kept hXo (fun b hb h => by rcases h with h | h; exact (HSr.out b hb).1 h; exact (HSr.out b hb).2 h)
          obtain ⟨l, rr⟩ := q
          simp only [beq_iff_eq] at hql
          subst hql
          have hil : i < rs.length := (List.getElem?_eq_some_iff.1 hq).1
          have hin0 : (0 : Int) ≤ (i : Int) := by omega
          have hin1 : (i : Int) < (rs.length : Int) := by omega
          have g23 : w2.cell? ⟨w.heap.size, 3, none⟩ = some (.slice A rs.length c) := hG2.cell 3
          have zT : w.heap.size + 1 + 1 < w2.heap.size := hZ2.lt
          have zT0 : w.heap.size < w2.heap.size := by omega
          obtain ⟨b, o, Aq, cq, rfl, hSb, hbs, hi, hrc, hcr, hEr, hc0, hc1⟩ := hA2.rule hq
          dsimp only at hrc hcr hEr hc0 hc1
          have hba : Below w2.heap.size w2 (w2.alloc (.cells #[.int .i64 (i : Int), .int .i64 0, .slice none 0 0] 27)) := (Below.refl _ _).alloc (Nat.le_refl _) _
          have HQ := Lib.hid (And.intro hq (And.intro hrc (And.intro hcr (hEr.below hba))))
          have H2 := Lib.hid (And.intro (hk2.below hba) (And.intro (hs2.below hba (Nat.le_refl _)) (And.intro (hL2.below hba hL2.lt) (And.intro (hG2.below hba hG2.lt) (And.intro (hZ2.below hba hZ2.lt) (hA2.below hba))))))
          have hrm : rr.length ≤ 9223372036854775807 := by omega
          have HIi : Hid (I64 (i : Int)) := Lib.hid ⟨by omega, by have := HRL.out; omega⟩
          have hgo : gg < w2.heap.size := hg2'
          have HT2 := Lib.hid (Blk'.new w2 27 #[.int .i64 (i : Int), .int .i64 0, .slice none 0 0])
          clear hx hq hO2 hrd hat hk2 hXo hG2 hZ2 hL2 hA2 hEr hba hs2 hg2 hi
          have hw3 : (w2.alloc (.cells #[.int .i64 (i : Int), .int .i64 0, .slice none 0 0] 27)).heap.size = w2.heap.size + 1 := by simp
          have HW3 := Lib.hid hw3
          clear hw3
          go_wp2_with fail
          go_loopw [77] (fun ix wr => KidsL ⟨gt, gn, gs, rs⟩ rr (i : Int) (left - 1) S w (w2.alloc (.cells #[.int .i64 (i : Int), .int .i64 0, .slice none 0 0] 27)) Sg Lf w2.heap.size ix wr) (fun ix _ => rr.length - (intOf ix).toNat)
          case atStart => exact ⟨0, [], _, left - 1, Nat.zero_le _, rfl, rfl, by simp [vts], by omega, by simp [nodesL], Kept.refl _ _, H2.out.2.1, H2.out.2.2.1, HT2.out, Own.nil _ _ _ _⟩
          case round =>
            obtain ⟨wi, hwi⟩ : ∃ wi : World, wi = wr := ⟨_, rfl⟩
            subst hwi
            obtain ⟨m, ks, v, l', hm, rfl, hkl, hvt, hl'0, hl'1, hK, hs, hLf, hT, hown⟩ := hrel
            have hnSX : ∀ b, b < w2.heap.size → ¬ TwoB Sg Lf b → ¬ (TwoB Sg Lf b ∨ b = w2.heap.size) := fun b hb h h' => by rcases h' with h' | h'; exact h h'; omega
            have hnS : ¬ TwoB Sg Lf w.heap.size := fun h => by rcases h with h | h <;> omega
            have hnR : ¬ TwoB Sg Lf (w.heap.size + 1 + 1) := fun h => by rcases h with h | h <;> omega
            have hSrX : ∀ b, Sr b → ¬ (TwoB Sg Lf b ∨ b = w2.heap.size) := fun b hb h => by
              have hbd := HBd.out b (.inl hb)
              rcases h with (h | h) | h
              · exact (HSr.out b hb).1 h
              · exact (HSr.out b hb).2 h
              · omega
            have hKw := H2.out.1.later hK (fun b hb => by rcases hb with hb | hb; exact .inl hb; exact .inr (by omega))
            have hGi := H2.out.2.2.2.1.kept hK (hnSX _ (by omega) hnS)
            have hZi := H2.out.2.2.2.2.1.kept hK (hnSX _ (by omega) hnR)
            have hAi := H2.out.2.2.2.2.2.kept hK hSrX
            have hEi := HQ.out.2.2.2.kept hK hSrX
            have HI := Lib.hid (And.intro hKw (And.intro hs (And.intro hLf (And.intro hGi (And.intro hZi (And.intro hAi (And.intro hT (And.intro hown (And.intro hvt (And.intro hkl hK))))))))))
            have HLl := Lib.hid (And.intro hl'0 hl'1)
            have zi : w2.heap.size < wi.heap.size := hT.lt
            have g0 : wi.cell? ⟨w.heap.size, 0, none⟩ = some (.int .i64 gt) := hGi.cell 0
            have g1 : wi.cell? ⟨w.heap.size, 1, none⟩ = some (.int .i64 gn) := hGi.cell 1
            have g2 : wi.cell? ⟨w.heap.size, 2, none⟩ = some (.int .i64 gs) := hGi.cell 2
            have g3 : wi.cell? ⟨w.heap.size, 3, none⟩ = some (.slice (some ⟨b, o, none⟩) rs.length c) := hGi.cell 3
            have zi0 : w.heap.size < wi.heap.size := by omega
            clear hvt hl'0 hl'1 hK hs hLf hT hown hKw hGi hZi hAi hnSX hSrX hkl
            by_cases hlt : m < rr.length
            · obtain ⟨s, hsx⟩ := get_some hlt
              obtain ⟨bq, oq, rfl, hSq, hbq, hin, hq0, hq1⟩ := hEi.sym hsx
              have HSx := Lib.hid (And.intro hsx hin)
              obtain ⟨st, sn⟩ := s
              dsimp only at hq0 hq1
              have hm0 : (0 : Int) ≤ (m : Int) := by omega
              have hbx : Below wi.heap.size wi (wi.alloc (.cells #[.bool st, .int .i64 sn] 40)) := (Below.refl _ _).alloc (Nat.le_refl _) _
              have HX := Lib.hid (And.intro hbx (And.intro (HI.out.2.1.below hbx (Nat.le_refl _)) (And.intro (HI.out.2.2.1.below hbx HI.out.2.2.1.lt) (HI.out.2.2.2.2.2.1.below hbx))))
              have hBX : Hid (∀ b, Sr b ∨ S b → b < (wi.alloc (.cells #[.bool st, .int .i64 sn] 40)).heap.size) := Lib.hid (fun b hb => by have := HBd.out b hb; simp; omega)
              have hdd : deep - 1 + 1 = (n : Int) := by omega
              have hnn : n ≤ 1000 := by omega
              have HD := Lib.hid (And.intro hdd hnn)
              clear hsx hin hbx hEi hdd hnn
              go_wp2_with fail
              refine (IH.out (deep - 1) ⟨st, sn⟩ l' _ HD.out.1 HD.out.2 HSx.out.2 HLl.out.1 (by have := HLl.out; omega) HX.out.2.2.2 HX.out.2.1 HX.out.2.2.1 hBX.out).mono ?_
              rintro e w5 ⟨v5, ok, l5, rfl, hk5, hs5, hL5, ⟨a5, b5, A5, n5, c5, rfl⟩, hok⟩
              have HOK := Lib.hid hok.1
              have hk6 : Kept (TwoB Sg Lf) wi w5 := (Kept.of_below _ HX.out.1).trans hk5
              have hZ5 := HI.out.2.2.2.2.1.kept hk6 hnR
              have hnT : ¬ TwoB Sg Lf w2.heap.size := fun h => by rcases h with h | h <;> omega
              have hT5 := HI.out.2.2.2.2.2.2.1.kept hk6 hnT
              have hO5 := HI.out.2.2.2.2.2.2.2.1.kept hk6 (fun b hb h => by rcases hb with hb | hb <;> simp at h <;> omega)
              have H5 := Lib.hid (And.intro (HI.out.1.trans hk6) (And.intro hs5 (And.intro hL5 (And.intro hZ5 (And.intro hT5 (And.intro hO5 hk6))))))
              have z5 : w2.heap.size < w5.heap.size := hT5.lt
              have z50 : w.heap.size + 1 + 1 < w5.heap.size := hZ5.lt
              clear hk5 hs5 hL5 hok hk6 hZ5 hT5 hO5
              cases ok
              · have HX0 := Lib.hid (res_store H5.out.1 H5.out.2.1 H5.out.2.2.1 H5.out.2.2.2.1 (show w.heap.size ≤ w.heap.size + 1 + 1 by omega) (fun b hb => HBd.out b (.inr hb)) zS zL (.int .i64 0) (.int .i64 0) (.slice none 0 0))
                have z0r : w5.cell? ⟨w.heap.size + 1 + 1, 0, none⟩ = some (.int .i64 0) := (H5.out.2.2.2.1).cell 0
                have z1r : w5.cell? ⟨w.heap.size + 1 + 1, 1, none⟩ = some (.int .i64 0) := (H5.out.2.2.2.1).cell 1
                have z2r : w5.cell? ⟨w.heap.size + 1 + 1, 2, none⟩ = some (.slice none 0 0) := (H5.out.2.2.2.1).cell 2
                have zf0 := (H5.out.2.2.2.1).frozen 0
                have zf1 := (H5.out.2.2.2.1).frozen 1
                have zf2 := (H5.out.2.2.2.1).frozen 2
                have r0 := (HX0.out.2.2.2.alloc (.cells #[.int .i64 a5, .int .i64 b5, .slice A5 n5 c5] 27)).cell 0
                have r1 := (HX0.out.2.2.2.alloc (.cells #[.int .i64 a5, .int .i64 b5, .slice A5 n5 c5] 27)).cell 1
                have r2 := (HX0.out.2.2.2.alloc (.cells #[.int .i64 a5, .int .i64 b5, .slice A5 n5 c5] 27)).cell 2
                simp at r0 r1 r2
                go_wp2
                exact bodyPost_ret (v := .tuple #[.agg #[.int .i64 0, .int .i64 0, .slice none 0 0], .bool false]) (by simp [results, Tryd.results58, go_sem, r0, r1, r2]) rfl ⟨_, _, _, rfl, HX0.out.1.alloc _, HX0.out.2.1.alloc _ trivial, HX0.out.2.2.1.alloc _, ⟨_, _, _, _, _, rfl⟩, (fun h => by cases h), (fun _ => rfl)⟩
              · obtain ⟨hl50, t5, hvt5, hvl5, hl51⟩ := HOK.out rfl
                obtain ⟨Av, cv, e1, _⟩ := HI.out.2.2.2.2.2.2.2.1.form
                subst e1
                obtain ⟨s5, hs5e, hr5, ht5, hk5⟩ := hvl5.tree
                simp at hs5e
                obtain ⟨rfl, rfl, rfl⟩ := hs5e
                obtain ⟨rfl, _, _, _⟩ := hk5.els
                have t52 : w5.cell? ⟨w2.heap.size, 2, none⟩ = some (.slice Av ks.length cv) := H5.out.2.2.2.2.1.cell 2
                have tf := H5.out.2.2.2.2.1.frozen 2
                have hkm : ks.length ≤ 1000 := by have := HI.out.2.2.2.2.2.2.2.2.2.1; have := HRR.out ⟨l, rr⟩ (List.mem_of_getElem? HQ.out.1); dsimp only at this; omega
                have hcap1 : (ks.length + 1) * 40 ≤ 140737488355328 := by omega
                have hcap2 : ks.length + 1 ≤ 9223372036854775807 := by omega
                have HO6 := Lib.hid ((H5.out.2.2.2.2.2.1.alloc (.cells #[.int .i64 t5.rule, .int .i64 t5.term, .slice A5 t5.kids.length c5] 27)).alloc (.cells #[.int .i64 t5.rule, .int .i64 t5.term, .slice A5 t5.kids.length c5] 27))
                have HRd : Hid (Dat.rd ((w5.alloc (.cells #[.int .i64 t5.rule, .int .i64 t5.term, .slice A5 t5.kids.length c5] 27)).alloc (.cells #[.int .i64 t5.rule, .int .i64 t5.term, .slice A5 t5.kids.length c5] 27)) (OwnT (fun _ => False) (w2.heap.size + 1) (.slice Av ks.length cv) ((w5.alloc (.cells #[.int .i64 t5.rule, .int .i64 t5.term, .slice A5 t5.kids.length c5] 27)).alloc (.cells #[.int .i64 t5.rule, .int .i64 t5.term, .slice A5 t5.kids.length c5] 27))) t5 [.int .i64 t5.rule, .int .i64 t5.term, .slice A5 t5.kids.length c5]) :=
                  Lib.hid (rd_tree.2 ⟨_, rfl, hr5, ht5, (hk5.below (((Below.refl _ _).alloc (Nat.le_refl _) _).alloc (by simp) _)).mono (fun b hb => ⟨.inr (by have := hb.1; simp at this; omega), fun e => by have := (HI.out.2.2.2.2.2.2.2.1.block b e).2; have := hb.1; simp at this; omega, by have := hb.2; simp; omega⟩)⟩)
                have HT6 := Lib.hid (And.intro hl50 (And.intro hvt5 hl51))
                clear hl50 hvt5 hvl5 hl51 hr5 ht5 hk5
                go_wp2_with (at_builtin; refine wpList_own1 _ rfl _ _ elemTree rfl rfl HO6.out t5 [.int .i64 t5.rule, .int .i64 t5.term, .slice A5 t5.kids.length c5] rfl (by have h := At.new (w5.alloc (.cells #[.int .i64 t5.rule, .int .i64 t5.term, .slice A5 t5.kids.length c5] 27)) [.int .i64 t5.rule, .int .i64 t5.term, .slice A5 t5.kids.length c5] 27; rwa [show (w5.alloc (.cells #[.int .i64 t5.rule, .int .i64 t5.term, .slice A5 t5.kids.length c5] 27)).heap.size = w5.heap.size + 1 from by simp] at h) HRd.out hcap1 hcap2 (by simp; omega) ?_; intro v' w7 hown7 hg7 hat7; obtain ⟨A7, k7, hv7, _⟩ := hown7.form; rw [snoc_len] at hv7; subst hv7; have H7 := Lib.hid (And.intro hown7 hg7); have hT7 := ((H5.out.2.2.2.2.1.alloc (.cells #[.int .i64 t5.rule, .int .i64 t5.term, .slice A5 t5.kids.length c5] 27)).alloc (.cells #[.int .i64 t5.rule, .int .i64 t5.term, .slice A5 t5.kids.length c5] 27)).grown hg7 (own_ne HO6.out); have t72 := hT7.cell 2; have tf7 := hT7.frozen 2; have HT7 := Lib.hid hT7; clear hown7 hg7 hat7 hT7; simp at t72)
                have hTb : ∀ k, (Value.slice Av ks.length cv).ownBlock = some k → w2.heap.size + 1 ≤ k := fun k hk => (HI.out.2.2.2.2.2.2.2.1.block k hk).1
                have HTb := Lib.hid hTb
                clear hTb
                go_roundw
                case rel =>
                  refine ⟨m + 1, ks ++ [t5], _, l5, hlt, by go_num, by rw [List.length_append, HI.out.2.2.2.2.2.2.2.2.2.1]; rfl, ?_, HT6.out.1, ?_, ?_, ?_, ?_, HT7.out.set_ 2 _, H7.out.1.setCell (fun e => by have := (H7.out.1.block _ e).1; dsimp only at this; omega) (by simp) _⟩
                  · rw [take_snoc HSx.out.1]
                    exact vts_snoc _ _ _ _ HI.out.2.2.2.2.2.2.2.2.1 HT6.out.2.1
                  · rw [nodesL_append]
                    simp only [nodesL]
                    have h1 := HT6.out.2.2
                    have h2 := HLl.out.2
                    omega
                  · exact ((((HI.out.2.2.2.2.2.2.2.2.2.2.trans (H5.out.2.2.2.2.2.2.mono (fun b _ hb => .inl hb))).alloc _).alloc _).grown H7.out.2 (fun k hk => .inr (by have := HTb.out k hk; simp; omega))).setCell (p := ⟨w2.heap.size, 2, none⟩) (.inl (.inr rfl)) _
                  · exact (((H5.out.2.1.alloc _ trivial).alloc _ trivial).grown H7.out.2 (fun e => by have := HTb.out _ e.symm; omega) (fun k hk h => by have := HTb.out k hk; have := HBd.out k (.inr h); omega)).setCell (p := ⟨w2.heap.size, 2, none⟩) (by show Sg ≠ w2.heap.size; omega) (fun h => by have := HBd.out _ (.inr h); dsimp only at this; omega) _
                  · exact (((H5.out.2.2.1.alloc _).alloc _).grown H7.out.2 (fun e => by have := HTb.out _ e.symm; omega)).far (p := ⟨w2.heap.size, 2, none⟩) (by show Lf ≠ w2.heap.size; omega) _
                case measure => simp [intOf]; omega
            · have hmm : m = rr.length := by omega
              have HMm := Lib.hid hmm
              clear hmm hEi
              obtain ⟨Av, cv, e1, _⟩ := HI.out.2.2.2.2.2.2.2.1.form
              subst e1
              have t0 : wi.cell? ⟨w2.heap.size, 0, none⟩ = some (.int .i64 (i : Int)) := HI.out.2.2.2.2.2.2.1.cell 0
              have t1 : wi.cell? ⟨w2.heap.size, 1, none⟩ = some (.int .i64 0) := HI.out.2.2.2.2.2.2.1.cell 1
              have t2 : wi.cell? ⟨w2.heap.size, 2, none⟩ = some (.slice Av ks.length cv) := HI.out.2.2.2.2.2.2.1.cell 2
              have z0r : wi.cell? ⟨w.heap.size + 1 + 1, 0, none⟩ = some (.int .i64 0) := (HI.out.2.2.2.2.1).cell 0
              have z1r : wi.cell? ⟨w.heap.size + 1 + 1, 1, none⟩ = some (.int .i64 0) := (HI.out.2.2.2.2.1).cell 1
              have z2r : wi.cell? ⟨w.heap.size + 1 + 1, 2, none⟩ = some (.slice none 0 0) := (HI.out.2.2.2.2.1).cell 2
              have zf0 := (HI.out.2.2.2.2.1).frozen 0
              have zf1 := (HI.out.2.2.2.2.1).frozen 1
              have zf2 := (HI.out.2.2.2.2.1).frozen 2
              have HX0 := Lib.hid (res_store HI.out.1 HI.out.2.1 HI.out.2.2.1 HI.out.2.2.2.2.1 (show w.heap.size ≤ w.heap.size + 1 + 1 by omega) (fun b hb => HBd.out b (.inr hb)) zS zL (.int .i64 (i : Int)) (.int .i64 0) (.slice Av ks.length cv))
              have r0 := HX0.out.2.2.2.cell 0
              have r1 := HX0.out.2.2.2.cell 1
              have r2 := HX0.out.2.2.2.cell 2
              simp at r0 r1 r2
              go_wp2
              refine bodyPost_ret (v := .tuple #[.agg #[.int .i64 (i : Int), .int .i64 0, .slice Av ks.length cv], .bool true]) (by simp [results, Tryd.results58, go_sem, r0, r1, r2]) rfl ⟨_, _, _, rfl, HX0.out.1, HX0.out.2.1, HX0.out.2.2.1, ⟨_, _, _, _, _, rfl⟩, fun _ => ⟨HLl.out.1, ⟨(i : Int), 0, ks⟩, ?_, ?_, ?_⟩, (fun h => by cases h)⟩
              · unfold vt
                rw [if_neg (by simp)]
                refine ⟨rfl, hin0, ⟨l, rr⟩, by simpa using HQ.out.1, rfl, ?_⟩
                have h := HI.out.2.2.2.2.2.2.2.2.1
                rw [List.take_of_length_le (by rw [HMm.out]; exact Nat.le_refl _)] at h
                exact h
              · have hkx : Kept (fun b => b = w.heap.size + 1 + 1) wi (((wi.setCell ⟨w.heap.size + 1 + 1, 0, none⟩ (.int .i64 (i : Int))).setCell ⟨w.heap.size + 1 + 1, 1, none⟩ (.int .i64 0)).setCell ⟨w.heap.size + 1 + 1, 2, none⟩ (.slice Av ks.length cv)) :=
                  (((Kept.refl (fun b => b = w.heap.size + 1 + 1) wi).setCell (p := ⟨w.heap.size + 1 + 1, 0, none⟩) (.inl rfl) _).setCell (p := ⟨w.heap.size + 1 + 1, 1, none⟩) (.inl rfl) _).setCell (p := ⟨w.heap.size + 1 + 1, 2, none⟩) (.inl rfl) _
                exact Vl.of_tree (t := ⟨(i : Int), 0, ks⟩) HIi.out (show I64 0 from ⟨by decide, by decide⟩) ((HI.out.2.2.2.2.2.2.2.1.vl.kept hkx (fun b hb h => by have := hb.1; simp at this; omega)).mono (fun b hb => ⟨by have := hb.1; simp at this; omega, by have := hb.2; simp [World.setCell]; omega⟩))
              · have e : nodesT ⟨(i : Int), 0, ks⟩ = 1 + nodesL ks := by unfold nodesT; rfl
                rw [e]
                have h2 := HLl.out.2
                omega
end Go.Proofs.YtjdojogjogenkaaDoor
