/- Contract: mean.of: the forest of a word. -/
import Derived.Test.YtjdojogjogenkaaDoorQBuild
import Derived.Test.YtjdojogjogenkaaDoorQw1
import Derived.Test.YtjdojogjogenkaaDoorQMCheck
import Derived.Test.YtjdojogjogenkaaDoorQCount
namespace Go.Proofs.YtjdojogjogenkaaDoor
open Go.RowKit
set_option linter.unusedVariables false
def ForIs (g : Gram) (ws : List Int) (T : List (List Nat)) (S : Nat → Prop) (w' : World) (A : Option Addr) (nf : Nat) (root : Int) : Prop :=
 (root = -1 ∧ ¬ DerW g [⟨false, g.start⟩] ws) ∨
  ∃ (F : List FNode) (ks : List NKey) (r : Nat), root = (r : Int) ∧ nf = F.length ∧ Els w' S F A ∧ ForestIs g ws T ks F ∧ ks[r]? = some ⟨⟨false, g.start⟩, 0, ws.length⟩ ∧ F.length ≤ 1000000 ∧ r < F.length ∧
   ∀ nd ∈ F, nd.packs.length ≤ 100000000 ∧ ∀ p ∈ nd.packs, p.kids.length ≤ 1000 ∧ ∀ k ∈ p.kids, 0 ≤ k ∧ k.toNat < F.length
theorem ForIs.below {g : Gram} {ws : List Int} {T : List (List Nat)} {S : Nat → Prop} {w w' : World} {A : Option Addr} {nf : Nat} {root : Int} (h : ForIs g ws T S w A nf root) (k : Below w.heap.size w w') : ForIs g ws T S w' A nf root := by
 rcases h with h | ⟨F, ks, r, h1, h2, h3, h4⟩
 ·exact .inl h
 ·exact .inr ⟨F, ks, r, h1, h2, h3.below k, h4⟩
theorem ForIs.kept {g : Gram} {ws : List Int} {T : List (List Nat)} {S X : Nat → Prop} {w w' : World} {A : Option Addr} {nf : Nat} {root : Int} (h : ForIs g ws T S w A nf root) (k : Kept X w w') (hx : ∀ b, S b → ¬ X b) : ForIs g ws T S w' A nf root := by
 rcases h with h | ⟨F, ks, r, h1, h2, h3, h4⟩
 ·exact .inl h
 ·exact .inr ⟨F, ks, r, h1, h2, h3.kept k hx, h4⟩
def GotF (g : Gram) (ws : List Int) (w : World) (v5 : Value) (wx : World) : Prop :=
 ∃ X T A nf c root S, v5 = .pointer (some ⟨X, 0, none⟩) ∧ Blk' wx X 104 #[.slice A nf c, .int .i64 root] ∧ SndM g ws T ∧ ClM g ws T ∧ ForIs g ws T S wx A nf root ∧ (∀ b, S b → w.heap.size + 1 < b ∧ b < wx.heap.size) ∧ Below w.heap.size w wx ∧ w.heap.size + 1 < X
def RetF (g : Gram) (ws : List Int) (w : World) (e : Ending) (w' : World) : Prop :=
 ∃ T A nf c root S, e = .returned (.agg #[.slice A nf c, .int .i64 root]) ∧ SndM g ws T ∧ ClM g ws T ∧ ForIs g ws T S w' A nf root ∧ (∀ b, S b → b < w'.heap.size) ∧ Below w.heap.size w w'
set_option maxRecDepth 100000 in
set_option maxHeartbeats 4000000 in
theorem of_forest (tm n y : Nat) (rs : List Rule) (A : Option Addr) (c : Nat) (ws : List Int) (B : Option Addr) (cw : Nat) (S Sw : Nat → Prop) (w : World)
  (hck : checkI ⟨(tm : Int), (n : Int), (y : Int), rs⟩ = 0) (hm : ws.length ≤ 12) (hlc : rs.length ≤ c) (hc : c ≤ 9223372036854775807) (hA : Els w S rs A) (hS : ∀ b, S b → b < w.heap.size) (hB : Els w Sw ws B) (hSw : ∀ b, Sw b → b < w.heap.size) (hTab : Tab32 w) :
  Calls Tryd.prog 57 #[.agg #[.int .i64 (tm : Int), .int .i64 (n : Int), .int .i64 (y : Int), .slice A rs.length c], .slice B ws.length cw] w (RetF ⟨(tm : Int), (n : Int), (y : Int), rs⟩ ws w) := by
 have hE : ∀ W, Below w.heap.size w W → Calls Tryd.prog 99 #[.agg #[.int .i64 (tm : Int), .int .i64 (n : Int), .int .i64 (y : Int), .slice A rs.length c], .slice B ws.length cw] W (RetEnds ⟨(tm : Int), (n : Int), (y : Int), rs⟩ ws n W) := fun W hb =>
  ends_acc ⟨(tm : Int), (n : Int), (y : Int), rs⟩ n ws A B c cw S Sw W rfl hck hlc hc (hA.belowB hb hS) (fun b h => Nat.lt_of_lt_of_le (hS b h) hb.size) hm (hB.belowB hb hSw) (fun b h => Nat.lt_of_lt_of_le (hSw b h) hb.size) (hTab.below hb hTab.1)
 have hU : ∀ W bf bs T, Below w.heap.size w W → MskS ws.length n T → SndM ⟨(tm : Int), (n : Int), (y : Int), rs⟩ ws T → ClM ⟨(tm : Int), (n : Int), (y : Int), rs⟩ ws T → RowsU W bf bs (ws.length + 1) n n T → Calls Tryd.prog 98 #[.agg #[.int .i64 (tm : Int), .int .i64 (n : Int), .int .i64 (y : Int), .slice A rs.length c], .slice B ws.length cw, .slice (some ⟨bf, 0, none⟩) n n, .int .i64 1099511627776] W (RetB ⟨(tm : Int), (n : Int), (y : Int), rs⟩ ws T W) := fun W bf bs T hb h1 h2 h3 h4 =>
  build_any tm n y rs A c ws B cw T bf bs S Sw W (validG_of hck) hm h1 h2 h3 hlc hc (hA.belowB hb hS) (fun b h => Nat.lt_of_lt_of_le (hS b h) hb.size) h4 (hB.belowB hb hSw) (fun b h => Nat.lt_of_lt_of_le (hSw b h) hb.size) (hTab.below hb hTab.1)
 have HE := Lib.hid hE
 have HU := Lib.hid hU
 clear hE hU hck hA hS hB hSw hTab hlc hc hm
 go_enter Tryd.func57, Tryd.ntmps57
 go_upto_region 1 with (fail)
 obtain ⟨w1, hw1⟩ : ∃ w1 : World, w1 = (w.alloc (.cells #[.int .i64 (tm : Int), .int .i64 (n : Int), .int .i64 (y : Int), .slice A rs.length c] 24)).alloc (.cells #[.slice none 0 0, .int .i64 0] 104) := ⟨_, rfl⟩
 rw [← hw1]
 have hb1 : Below w.heap.size w w1 := by rw [hw1]; exact ((Below.refl _ _).alloc (Nat.le_refl _) _).alloc (by simp) _
 have HG1 : Hid (Blk' w1 w.heap.size 24 #[.int .i64 (tm : Int), .int .i64 (n : Int), .int .i64 (y : Int), .slice A rs.length c]) := Lib.hid (by rw [hw1]; exact (Blk'.new _ _ _).alloc _)
 have HF1 : Hid (Blk' w1 (w.heap.size + 1) 104 #[.slice none 0 0, .int .i64 0]) := Lib.hid (by rw [hw1]; exact Blk'.new' _ _ _ (by simp))
 have HB1 := Lib.hid hb1
 have HZ1 : Hid (w1.heap.size = w.heap.size + 2) := Lib.hid (by rw [hw1]; simp)
 clear hw1 hb1
 have g0 : w1.cell? ⟨w.heap.size, 0, none⟩ = some (.int .i64 (tm : Int)) := HG1.out.cell 0
 have g1 : w1.cell? ⟨w.heap.size, 1, none⟩ = some (.int .i64 (n : Int)) := HG1.out.cell 1
 have g2 : w1.cell? ⟨w.heap.size, 2, none⟩ = some (.int .i64 (y : Int)) := HG1.out.cell 2
 have g3 : w1.cell? ⟨w.heap.size, 3, none⟩ = some (.slice A rs.length c) := HG1.out.cell 3
 have zG : w.heap.size < w1.heap.size := HG1.out.lt
 go_cut [5] (fun v5 wx => GotF ⟨(tm : Int), (n : Int), (y : Int), rs⟩ ws w v5 wx ∧ Blk' wx (w.heap.size + 1) 104 #[.slice none 0 0, .int .i64 0])
 case first =>
  have HBd := Lib.hid HB1.out.drew
  have HGd := Lib.hid HG1.out.drew
  have HQd := Lib.hid HF1.out.drew
  have HSd : Hid (w.heap.size + 2 ≤ w1.drew.heap.size) := Lib.hid (by have := HZ1.out; show w.heap.size + 2 ≤ w1.heap.size; omega)
  refine wp_region_noPanic ?_
  refine wp_region_held_drew (S := (fun w' => w'.cell? ⟨w.heap.size, 0, none⟩ = some (.int .i64 (tm : Int)) ∧ w'.cell? ⟨w.heap.size, 1, none⟩ = some (.int .i64 (n : Int)) ∧ w'.cell? ⟨w.heap.size, 2, none⟩ = some (.int .i64 (y : Int)) ∧ w'.cell? ⟨w.heap.size, 3, none⟩ = some (.slice A rs.length c))) (by kernel_rfl) ?ha (fun hHeld => ?ba)
  case ha => ((try dsimp only); go_keep)
  refine take_run (i := 0) (v := ?va0) rfl (by kernel_rfl) (by kernel_rfl) (by kernel_rfl) (fun _ _ _ h => h) (by rfl) ?ya0 (by assumption) ?ra0
  case ya0 => (intro w hSw; (try dsimp only at hSw); go_simp; try with_reducible rfl)
  try simp only [Act.put, List.setIfInBounds_toArray, List.set_cons_zero, List.set_cons_succ]
  refine take_run (i := 1) (v := ?va1) rfl (by kernel_rfl) (by kernel_rfl) (by kernel_rfl) (fun _ _ _ h => h) (by rfl) ?ya1 (by assumption) ?ra1
  case ya1 => (intro w hSw; (try dsimp only at hSw); go_simp; try with_reducible rfl)
  try simp only [Act.put, List.setIfInBounds_toArray, List.set_cons_zero, List.set_cons_succ]
  refine take_run (i := 2) (v := ?va2) rfl (by kernel_rfl) (by kernel_rfl) (by kernel_rfl) (fun _ _ _ h => h) (by rfl) ?ya2 (by assumption) ?ra2
  case ya2 => (intro w hSw; (try dsimp only at hSw); go_simp; try with_reducible rfl)
  try simp only [Act.put, List.setIfInBounds_toArray, List.set_cons_zero, List.set_cons_succ]
  refine take_run (i := 3) (v := ?va3) rfl (by kernel_rfl) (by kernel_rfl) (by kernel_rfl) (fun _ _ _ h => h) (by rfl) ?ya3 (by assumption) ?ra3
  case ya3 => (intro w hSw; (try dsimp only at hSw); go_simp; try with_reducible rfl)
  try simp only [Act.put, List.setIfInBounds_toArray, List.set_cons_zero, List.set_cons_succ]
  refine take_two (i := 4) (j := 9) rfl rfl (by kernel_rfl) (by rfl) (by rfl) (fun Kq hK => ?onea4) (fun Kq hK => ?twoa4)
  case onea4 =>
   go_simp
   go_at_call 99
   refine (HE.out w1.drew HBd.out).mono ?_
   rintro e w2 ⟨bf, bs, T, rfl, hR, hSh, hSn, hCl, hge, hb⟩
   have HBxw2 := Lib.hid hb
   have HBw2 : Hid (Below w.heap.size w w2) := Lib.hid (bthen HBd.out hb HBd.out.size)
   have HGw2 := Lib.hid (HGd.out.below hb HGd.out.lt)
   have HQw2 := Lib.hid (HQd.out.below hb HQd.out.lt)
   have HSw2 : Hid (w.heap.size + 2 ≤ w2.heap.size) := Lib.hid (by have := HSd.out; have := hb.size; omega)
   have HRw2 := Lib.hid hR
   have HSh := Lib.hid hSh
   have HSn := Lib.hid hSn
   have HCl := Lib.hid hCl
   have g0b : w2.cell? ⟨w.heap.size, 0, none⟩ = some (.int .i64 (tm : Int)) := HGw2.out.cell 0
   have g1b : w2.cell? ⟨w.heap.size, 1, none⟩ = some (.int .i64 (n : Int)) := HGw2.out.cell 1
   have g2b : w2.cell? ⟨w.heap.size, 2, none⟩ = some (.int .i64 (y : Int)) := HGw2.out.cell 2
   have g3b : w2.cell? ⟨w.heap.size, 3, none⟩ = some (.slice A rs.length c) := HGw2.out.cell 3
   have zGb : w.heap.size < w2.heap.size := HGw2.out.lt
   clear hR hSh hSn hCl hge hb
   refine hK.out _ _ ?hb4 (fun hHeld => ?rb4)
   case hb4 => ((try dsimp only); go_keep)
   clear hK Kq
   try simp only [Act.put, List.setIfInBounds_toArray, List.set_cons_zero, List.set_cons_succ]
   refine take_two (i := 5) (j := 9) rfl rfl (by kernel_rfl) (by rfl) (by rfl) (fun Kq hK => ?oneb5) (fun Kq hK => ?twob5)
   case oneb5 =>
    go_simp
    go_at_call 98
    refine (HU.out w2 bf bs T HBw2.out HSh.out HSn.out HCl.out HRw2.out).mono ?_
    rintro e w3 ⟨AF, nf, cF, root, rfl, hb, hF⟩
    have HBxw3 := Lib.hid hb
    have HBw3 : Hid (Below w.heap.size w w3) := Lib.hid (bthen HBw2.out hb HBw2.out.size)
    have HGw3 := Lib.hid (HGw2.out.below hb HGw2.out.lt)
    have HQw3 := Lib.hid (HQw2.out.below hb HQw2.out.lt)
    have HSw3 : Hid (w.heap.size + 2 ≤ w3.heap.size) := Lib.hid (by have := HSw2.out; have := hb.size; omega)
    have HFw3 : Hid (ForIs ⟨(tm : Int), (n : Int), (y : Int), rs⟩ ws T (fun b => w2.heap.size ≤ b ∧ b < w3.heap.size) w3 AF nf root) := Lib.hid hF
    have g0c : w3.cell? ⟨w.heap.size, 0, none⟩ = some (.int .i64 (tm : Int)) := HGw3.out.cell 0
    have g1c : w3.cell? ⟨w.heap.size, 1, none⟩ = some (.int .i64 (n : Int)) := HGw3.out.cell 1
    have g2c : w3.cell? ⟨w.heap.size, 2, none⟩ = some (.int .i64 (y : Int)) := HGw3.out.cell 2
    have g3c : w3.cell? ⟨w.heap.size, 3, none⟩ = some (.slice A rs.length c) := HGw3.out.cell 3
    have zGc : w.heap.size < w3.heap.size := HGw3.out.lt
    clear hF hb
    refine hK.out _ _ ?hc5 (fun hHeld => ?rc5)
    case hc5 => ((try dsimp only); go_keep)
    clear hK Kq
    try simp only [Act.put, List.setIfInBounds_toArray, List.set_cons_zero, List.set_cons_succ]
    refine take_run (i := 6) (v := ?vc6) rfl (by kernel_rfl) (by kernel_rfl) (by kernel_rfl) (fun _ _ _ h => h) (by rfl) ?yc6 (by assumption) ?rc6
    case yc6 => (intro w hSw; (try dsimp only at hSw); go_simp; try with_reducible rfl)
    try simp only [Act.put, List.setIfInBounds_toArray, List.set_cons_zero, List.set_cons_succ]
    refine take_run (i := 7) (v := ?vc7) rfl (by kernel_rfl) (by kernel_rfl) (by kernel_rfl) (fun _ _ _ h => h) (by rfl) ?yc7 (by assumption) ?rc7
    case yc7 => (intro w hSw; (try dsimp only at hSw); go_simp; try with_reducible rfl)
    try simp only [Act.put, List.setIfInBounds_toArray, List.set_cons_zero, List.set_cons_succ]
    refine take_run (i := 8) (v := ?vc8) rfl (by kernel_rfl) (by kernel_rfl) (by kernel_rfl) (fun _ _ _ h => h) (by rfl) ?yc8 (by assumption) ?rc8
    case yc8 => (intro w hSw; (try dsimp only at hSw); go_simp; try with_reducible rfl)
    try simp only [Act.put, List.setIfInBounds_toArray, List.set_cons_zero, List.set_cons_succ]
    refine take_call (i := 9) rfl (by kernel_rfl) (by rfl) (fun Kq hK => ?_)
    go_simp
    obtain ⟨X, hX⟩ : ∃ b, b = w3.heap.size := ⟨_, rfl⟩
    obtain ⟨w4, hV⟩ : ∃ V : World, V = w3.alloc (.cells #[.slice none 0 0, .int .i64 0] 104) := ⟨_, rfl⟩
    have hb : Below w3.heap.size w3 w4 := by rw [hV]; exact (Below.refl _ _).alloc (Nat.le_refl _) _
    have HBxw4 := Lib.hid hb
    have HBw4 : Hid (Below w.heap.size w w4) := Lib.hid (bthen HBw3.out hb HBw3.out.size)
    have HGw4 := Lib.hid (HGw3.out.below hb HGw3.out.lt)
    have HQw4 := Lib.hid (HQw3.out.below hb HQw3.out.lt)
    have HSw4 : Hid (w.heap.size + 2 ≤ w4.heap.size) := Lib.hid (by have := HSw3.out; have := hb.size; omega)
    have HXw4 : Hid (Blk' w4 X 104 #[.slice none 0 0, .int .i64 0]) := Lib.hid (by rw [hV, hX]; exact Blk'.new _ _ _)
    have HXn : Hid (w.heap.size + 1 < X) := Lib.hid (by have := HSw3.out; omega)
    have HXe : Hid (X = w3.heap.size ∧ w4.heap.size = X + 1) := Lib.hid ⟨hX, by rw [hV, hX]; simp⟩
    have g0d : w4.cell? ⟨w.heap.size, 0, none⟩ = some (.int .i64 (tm : Int)) := HGw4.out.cell 0
    have g1d : w4.cell? ⟨w.heap.size, 1, none⟩ = some (.int .i64 (n : Int)) := HGw4.out.cell 1
    have g2d : w4.cell? ⟨w.heap.size, 2, none⟩ = some (.int .i64 (y : Int)) := HGw4.out.cell 2
    have g3d : w4.cell? ⟨w.heap.size, 3, none⟩ = some (.slice A rs.length c) := HGw4.out.cell 3
    have zGd : w.heap.size < w4.heap.size := HGw4.out.lt
    rw [← hX, ← hV]
    clear hb hV hX
    refine hK.out _ _ ?hd9 (fun hHeld => ?rd9)
    case hd9 => ((try dsimp only); go_keep)
    clear hK Kq
    try simp only [Act.put, List.setIfInBounds_toArray, List.set_cons_zero, List.set_cons_succ]
    have HFw4 := Lib.hid (HFw3.out.below HBxw4.out)
    have HSX : Hid (¬ (w2.heap.size ≤ X ∧ X < w3.heap.size)) := Lib.hid (by have := HXe.out; omega)
    have HSL : Hid (∀ b, w2.heap.size ≤ b ∧ b < w3.heap.size → b < w4.heap.size) := Lib.hid (fun b hb => by have := HXe.out; omega)
    have x0 : w4.cell? ⟨X, 0, none⟩ = some (.slice none 0 0) := HXw4.out.cell 0
    have x1 : w4.cell? ⟨X, 1, none⟩ = some (.int .i64 0) := HXw4.out.cell 1
    have fx0 := HXw4.out.frozen 0
    have fx1 := HXw4.out.frozen 1
    have zX : X < w4.heap.size := HXw4.out.lt
    have hxw : ¬ w.heap.size = X := by have := HXn.out; omega
    have hxw2 : ¬ X = w.heap.size := by have := HXn.out; omega
    refine take_call (i := 10) rfl (by kernel_rfl) (by rfl) (fun Kq hK => ?_)
    go_simp
    refine hK.out _ _ ?hd10 (fun hHeld => ?rd10)
    case hd10 => ((try dsimp only); go_keep)
    clear hK Kq
    try simp only [Act.put, List.setIfInBounds_toArray, List.set_cons_zero, List.set_cons_succ]
    refine take_run (i := 11) (v := ?vd11) rfl (by kernel_rfl) (by kernel_rfl) (by kernel_rfl) (fun _ _ _ h => h) (by rfl) ?yd11 (by assumption) ?rd11
    case yd11 => (intro w hSw; (try dsimp only at hSw); go_simp; try with_reducible rfl)
    try simp only [Act.put, List.setIfInBounds_toArray, List.set_cons_zero, List.set_cons_succ]
    refine wpAnyH_done (by kernel_rfl) ?_ _
    refine NoPanic.normal ?_
    go_wp2_with fail
    go_meet
    have hKX : Kept (fun b => b = X) w4 ((w4.setCell ⟨X, 0, none⟩ (.slice AF nf cF)).setCell ⟨X, 1, none⟩ (.int .i64 root)) := ((Kept.refl (fun b => b = X) w4).setCell (p := ⟨X, 0, none⟩) (.inl rfl) _).setCell (p := ⟨X, 1, none⟩) (.inl rfl) _
    refine ⟨⟨X, T, AF, nf, cF, root, _, rfl, (HXw4.out.set_ 0 (.slice AF nf cF)).set_ 1 (.int .i64 root), HSn.out, HCl.out, HFw4.out.kept hKX (fun b hb e => HSX.out (by rw [← (show b = X from e)]; exact hb)), fun b hb => ⟨by have := HSw2.out; have := hb.1; omega, Nat.lt_of_lt_of_le (HSL.out b hb) hKX.size⟩, HBw4.out.trans (hKX.to_below (B := w.heap.size) (fun b hb => by have := HXn.out; have e : b = X := hb; omega) HBw4.out.size), HXn.out⟩, HQw4.out.kept hKX (by have := HXn.out; omega)⟩
   case twob5 =>
    go_simp
    obtain ⟨X, hX⟩ : ∃ b, b = w2.heap.size := ⟨_, rfl⟩
    obtain ⟨w3, hV⟩ : ∃ V : World, V = w2.alloc (.cells #[.slice none 0 0, .int .i64 0] 104) := ⟨_, rfl⟩
    have hb : Below w2.heap.size w2 w3 := by rw [hV]; exact (Below.refl _ _).alloc (Nat.le_refl _) _
    have HBxw3 := Lib.hid hb
    have HBw3 : Hid (Below w.heap.size w w3) := Lib.hid (bthen HBw2.out hb HBw2.out.size)
    have HGw3 := Lib.hid (HGw2.out.below hb HGw2.out.lt)
    have HQw3 := Lib.hid (HQw2.out.below hb HQw2.out.lt)
    have HSw3 : Hid (w.heap.size + 2 ≤ w3.heap.size) := Lib.hid (by have := HSw2.out; have := hb.size; omega)
    have HXw3 : Hid (Blk' w3 X 104 #[.slice none 0 0, .int .i64 0]) := Lib.hid (by rw [hV, hX]; exact Blk'.new _ _ _)
    have HXn : Hid (w.heap.size + 1 < X) := Lib.hid (by have := HSw2.out; omega)
    have HXe : Hid (X = w2.heap.size ∧ w3.heap.size = X + 1) := Lib.hid ⟨hX, by rw [hV, hX]; simp⟩
    have g0e : w3.cell? ⟨w.heap.size, 0, none⟩ = some (.int .i64 (tm : Int)) := HGw3.out.cell 0
    have g1e : w3.cell? ⟨w.heap.size, 1, none⟩ = some (.int .i64 (n : Int)) := HGw3.out.cell 1
    have g2e : w3.cell? ⟨w.heap.size, 2, none⟩ = some (.int .i64 (y : Int)) := HGw3.out.cell 2
    have g3e : w3.cell? ⟨w.heap.size, 3, none⟩ = some (.slice A rs.length c) := HGw3.out.cell 3
    have zGe : w.heap.size < w3.heap.size := HGw3.out.lt
    rw [← hX, ← hV]
    clear hb hV hX
    refine hK.out _ _ ?he9 (fun hHeld => ?re9)
    case he9 => ((try dsimp only); go_keep)
    clear hK Kq
    try simp only [Act.put, List.setIfInBounds_toArray, List.set_cons_zero, List.set_cons_succ]
    refine take_call (i := 5) rfl (by kernel_rfl) (by rfl) (fun Kq hK => ?_)
    go_simp
    go_at_call 98
    refine (HU.out w3 bf bs T HBw3.out HSh.out HSn.out HCl.out (HRw2.out.below HBxw3.out)).mono ?_
    rintro e w4 ⟨AF, nf, cF, root, rfl, hb, hF⟩
    have HBxw4 := Lib.hid hb
    have HBw4 : Hid (Below w.heap.size w w4) := Lib.hid (bthen HBw3.out hb HBw3.out.size)
    have HGw4 := Lib.hid (HGw3.out.below hb HGw3.out.lt)
    have HQw4 := Lib.hid (HQw3.out.below hb HQw3.out.lt)
    have HSw4 : Hid (w.heap.size + 2 ≤ w4.heap.size) := Lib.hid (by have := HSw3.out; have := hb.size; omega)
    have HFw4 : Hid (ForIs ⟨(tm : Int), (n : Int), (y : Int), rs⟩ ws T (fun b => w3.heap.size ≤ b ∧ b < w4.heap.size) w4 AF nf root) := Lib.hid hF
    have g0f : w4.cell? ⟨w.heap.size, 0, none⟩ = some (.int .i64 (tm : Int)) := HGw4.out.cell 0
    have g1f : w4.cell? ⟨w.heap.size, 1, none⟩ = some (.int .i64 (n : Int)) := HGw4.out.cell 1
    have g2f : w4.cell? ⟨w.heap.size, 2, none⟩ = some (.int .i64 (y : Int)) := HGw4.out.cell 2
    have g3f : w4.cell? ⟨w.heap.size, 3, none⟩ = some (.slice A rs.length c) := HGw4.out.cell 3
    have zGf : w.heap.size < w4.heap.size := HGw4.out.lt
    clear hF hb
    refine hK.out _ _ ?hf5 (fun hHeld => ?rf5)
    case hf5 => ((try dsimp only); go_keep)
    clear hK Kq
    try simp only [Act.put, List.setIfInBounds_toArray, List.set_cons_zero, List.set_cons_succ]
    have HXw4 := Lib.hid (HXw3.out.below HBxw4.out HXw3.out.lt)
    have HSX : Hid (¬ (w3.heap.size ≤ X ∧ X < w4.heap.size)) := Lib.hid (by have := HXe.out; omega)
    have HSL : Hid (∀ b, w3.heap.size ≤ b ∧ b < w4.heap.size → b < w4.heap.size) := Lib.hid (fun b hb => hb.2)
    refine take_run (i := 6) (v := ?vf6) rfl (by kernel_rfl) (by kernel_rfl) (by kernel_rfl) (fun _ _ _ h => h) (by rfl) ?yf6 (by assumption) ?rf6
    case yf6 => (intro w hSw; (try dsimp only at hSw); go_simp; try with_reducible rfl)
    try simp only [Act.put, List.setIfInBounds_toArray, List.set_cons_zero, List.set_cons_succ]
    refine take_run (i := 7) (v := ?vf7) rfl (by kernel_rfl) (by kernel_rfl) (by kernel_rfl) (fun _ _ _ h => h) (by rfl) ?yf7 (by assumption) ?rf7
    case yf7 => (intro w hSw; (try dsimp only at hSw); go_simp; try with_reducible rfl)
    try simp only [Act.put, List.setIfInBounds_toArray, List.set_cons_zero, List.set_cons_succ]
    refine take_run (i := 8) (v := ?vf8) rfl (by kernel_rfl) (by kernel_rfl) (by kernel_rfl) (fun _ _ _ h => h) (by rfl) ?yf8 (by assumption) ?rf8
    case yf8 => (intro w hSw; (try dsimp only at hSw); go_simp; try with_reducible rfl)
    try simp only [Act.put, List.setIfInBounds_toArray, List.set_cons_zero, List.set_cons_succ]
    have x0 : w4.cell? ⟨X, 0, none⟩ = some (.slice none 0 0) := HXw4.out.cell 0
    have x1 : w4.cell? ⟨X, 1, none⟩ = some (.int .i64 0) := HXw4.out.cell 1
    have fx0 := HXw4.out.frozen 0
    have fx1 := HXw4.out.frozen 1
    have zX : X < w4.heap.size := HXw4.out.lt
    have hxw : ¬ w.heap.size = X := by have := HXn.out; omega
    have hxw2 : ¬ X = w.heap.size := by have := HXn.out; omega
    refine take_call (i := 10) rfl (by kernel_rfl) (by rfl) (fun Kq hK => ?_)
    go_simp
    refine hK.out _ _ ?hf10 (fun hHeld => ?rf10)
    case hf10 => ((try dsimp only); go_keep)
    clear hK Kq
    try simp only [Act.put, List.setIfInBounds_toArray, List.set_cons_zero, List.set_cons_succ]
    refine take_run (i := 11) (v := ?vf11) rfl (by kernel_rfl) (by kernel_rfl) (by kernel_rfl) (fun _ _ _ h => h) (by rfl) ?yf11 (by assumption) ?rf11
    case yf11 => (intro w hSw; (try dsimp only at hSw); go_simp; try with_reducible rfl)
    try simp only [Act.put, List.setIfInBounds_toArray, List.set_cons_zero, List.set_cons_succ]
    refine wpAnyH_done (by kernel_rfl) ?_ _
    refine NoPanic.normal ?_
    go_wp2_with fail
    go_meet
    have hKX : Kept (fun b => b = X) w4 ((w4.setCell ⟨X, 0, none⟩ (.slice AF nf cF)).setCell ⟨X, 1, none⟩ (.int .i64 root)) := ((Kept.refl (fun b => b = X) w4).setCell (p := ⟨X, 0, none⟩) (.inl rfl) _).setCell (p := ⟨X, 1, none⟩) (.inl rfl) _
    refine ⟨⟨X, T, AF, nf, cF, root, _, rfl, (HXw4.out.set_ 0 (.slice AF nf cF)).set_ 1 (.int .i64 root), HSn.out, HCl.out, HFw4.out.kept hKX (fun b hb e => HSX.out (by rw [← (show b = X from e)]; exact hb)), fun b hb => ⟨by have := HSw3.out; have := hb.1; omega, Nat.lt_of_lt_of_le (HSL.out b hb) hKX.size⟩, HBw4.out.trans (hKX.to_below (B := w.heap.size) (fun b hb => by have := HXn.out; have e : b = X := hb; omega) HBw4.out.size), HXn.out⟩, HQw4.out.kept hKX (by have := HXn.out; omega)⟩
  case twoa4 =>
   go_simp
   obtain ⟨X, hX⟩ : ∃ b, b = w1.heap.size := ⟨_, rfl⟩
   obtain ⟨w2, hV⟩ : ∃ V : World, V = (w1.alloc (.cells #[.slice none 0 0, .int .i64 0] 104)).drew := ⟨_, rfl⟩
   have hb : Below w1.drew.heap.size w1.drew w2 := by rw [hV]; exact (Below.refl _ _).alloc (Nat.le_refl _) _
   have HBxw2 := Lib.hid hb
   have HBw2 : Hid (Below w.heap.size w w2) := Lib.hid (bthen HBd.out hb HBd.out.size)
   have HGw2 := Lib.hid (HGd.out.below hb HGd.out.lt)
   have HQw2 := Lib.hid (HQd.out.below hb HQd.out.lt)
   have HSw2 : Hid (w.heap.size + 2 ≤ w2.heap.size) := Lib.hid (by have := HSd.out; have := hb.size; omega)
   have HXw2 : Hid (Blk' w2 X 104 #[.slice none 0 0, .int .i64 0]) := Lib.hid (by rw [hV, hX]; exact (Blk'.new _ _ _).drew)
   have HXn : Hid (w.heap.size + 1 < X) := Lib.hid (by have := HZ1.out; omega)
   have HXe : Hid (X = w1.heap.size ∧ w2.heap.size = X + 1) := Lib.hid ⟨hX, by rw [hV, hX]; show (w1.alloc _).heap.size = _; simp⟩
   have g0g : w2.cell? ⟨w.heap.size, 0, none⟩ = some (.int .i64 (tm : Int)) := HGw2.out.cell 0
   have g1g : w2.cell? ⟨w.heap.size, 1, none⟩ = some (.int .i64 (n : Int)) := HGw2.out.cell 1
   have g2g : w2.cell? ⟨w.heap.size, 2, none⟩ = some (.int .i64 (y : Int)) := HGw2.out.cell 2
   have g3g : w2.cell? ⟨w.heap.size, 3, none⟩ = some (.slice A rs.length c) := HGw2.out.cell 3
   have zGg : w.heap.size < w2.heap.size := HGw2.out.lt
   rw [← hX, ← hV]
   clear hb hV hX
   refine hK.out _ _ ?hg9 (fun hHeld => ?rg9)
   case hg9 => ((try dsimp only); go_keep)
   clear hK Kq
   try simp only [Act.put, List.setIfInBounds_toArray, List.set_cons_zero, List.set_cons_succ]
   refine take_call (i := 4) rfl (by kernel_rfl) (by rfl) (fun Kq hK => ?_)
   go_simp
   go_at_call 99
   refine (HE.out w2 HBw2.out).mono ?_
   rintro e w3 ⟨bf, bs, T, rfl, hR, hSh, hSn, hCl, hge, hb⟩
   have HBxw3 := Lib.hid hb
   have HBw3 : Hid (Below w.heap.size w w3) := Lib.hid (bthen HBw2.out hb HBw2.out.size)
   have HGw3 := Lib.hid (HGw2.out.below hb HGw2.out.lt)
   have HQw3 := Lib.hid (HQw2.out.below hb HQw2.out.lt)
   have HSw3 : Hid (w.heap.size + 2 ≤ w3.heap.size) := Lib.hid (by have := HSw2.out; have := hb.size; omega)
   have HRw3 := Lib.hid hR
   have HSh := Lib.hid hSh
   have HSn := Lib.hid hSn
   have HCl := Lib.hid hCl
   have g0h : w3.cell? ⟨w.heap.size, 0, none⟩ = some (.int .i64 (tm : Int)) := HGw3.out.cell 0
   have g1h : w3.cell? ⟨w.heap.size, 1, none⟩ = some (.int .i64 (n : Int)) := HGw3.out.cell 1
   have g2h : w3.cell? ⟨w.heap.size, 2, none⟩ = some (.int .i64 (y : Int)) := HGw3.out.cell 2
   have g3h : w3.cell? ⟨w.heap.size, 3, none⟩ = some (.slice A rs.length c) := HGw3.out.cell 3
   have zGh : w.heap.size < w3.heap.size := HGw3.out.lt
   clear hR hSh hSn hCl hge hb
   refine hK.out _ _ ?hh4 (fun hHeld => ?rh4)
   case hh4 => ((try dsimp only); go_keep)
   clear hK Kq
   try simp only [Act.put, List.setIfInBounds_toArray, List.set_cons_zero, List.set_cons_succ]
   refine take_call (i := 5) rfl (by kernel_rfl) (by rfl) (fun Kq hK => ?_)
   go_simp
   go_at_call 98
   refine (HU.out w3 bf bs T HBw3.out HSh.out HSn.out HCl.out HRw3.out).mono ?_
   rintro e w4 ⟨AF, nf, cF, root, rfl, hb, hF⟩
   have HBxw4 := Lib.hid hb
   have HBw4 : Hid (Below w.heap.size w w4) := Lib.hid (bthen HBw3.out hb HBw3.out.size)
   have HGw4 := Lib.hid (HGw3.out.below hb HGw3.out.lt)
   have HQw4 := Lib.hid (HQw3.out.below hb HQw3.out.lt)
   have HSw4 : Hid (w.heap.size + 2 ≤ w4.heap.size) := Lib.hid (by have := HSw3.out; have := hb.size; omega)
   have HFw4 : Hid (ForIs ⟨(tm : Int), (n : Int), (y : Int), rs⟩ ws T (fun b => w3.heap.size ≤ b ∧ b < w4.heap.size) w4 AF nf root) := Lib.hid hF
   have g0k : w4.cell? ⟨w.heap.size, 0, none⟩ = some (.int .i64 (tm : Int)) := HGw4.out.cell 0
   have g1k : w4.cell? ⟨w.heap.size, 1, none⟩ = some (.int .i64 (n : Int)) := HGw4.out.cell 1
   have g2k : w4.cell? ⟨w.heap.size, 2, none⟩ = some (.int .i64 (y : Int)) := HGw4.out.cell 2
   have g3k : w4.cell? ⟨w.heap.size, 3, none⟩ = some (.slice A rs.length c) := HGw4.out.cell 3
   have zGk : w.heap.size < w4.heap.size := HGw4.out.lt
   clear hF hb
   refine hK.out _ _ ?hk5 (fun hHeld => ?rk5)
   case hk5 => ((try dsimp only); go_keep)
   clear hK Kq
   try simp only [Act.put, List.setIfInBounds_toArray, List.set_cons_zero, List.set_cons_succ]
   have HXw4 := Lib.hid ((HXw2.out.below HBxw3.out HXw2.out.lt).below HBxw4.out (HXw2.out.below HBxw3.out HXw2.out.lt).lt)
   have HSX : Hid (¬ (w3.heap.size ≤ X ∧ X < w4.heap.size)) := Lib.hid (by have := HXe.out; have := HBxw3.out.size; omega)
   have HSL : Hid (∀ b, w3.heap.size ≤ b ∧ b < w4.heap.size → b < w4.heap.size) := Lib.hid (fun b hb => hb.2)
   refine take_run (i := 6) (v := ?vk6) rfl (by kernel_rfl) (by kernel_rfl) (by kernel_rfl) (fun _ _ _ h => h) (by rfl) ?yk6 (by assumption) ?rk6
   case yk6 => (intro w hSw; (try dsimp only at hSw); go_simp; try with_reducible rfl)
   try simp only [Act.put, List.setIfInBounds_toArray, List.set_cons_zero, List.set_cons_succ]
   refine take_run (i := 7) (v := ?vk7) rfl (by kernel_rfl) (by kernel_rfl) (by kernel_rfl) (fun _ _ _ h => h) (by rfl) ?yk7 (by assumption) ?rk7
   case yk7 => (intro w hSw; (try dsimp only at hSw); go_simp; try with_reducible rfl)
   try simp only [Act.put, List.setIfInBounds_toArray, List.set_cons_zero, List.set_cons_succ]
   refine take_run (i := 8) (v := ?vk8) rfl (by kernel_rfl) (by kernel_rfl) (by kernel_rfl) (fun _ _ _ h => h) (by rfl) ?yk8 (by assumption) ?rk8
   case yk8 => (intro w hSw; (try dsimp only at hSw); go_simp; try with_reducible rfl)
   try simp only [Act.put, List.setIfInBounds_toArray, List.set_cons_zero, List.set_cons_succ]
   have x0 : w4.cell? ⟨X, 0, none⟩ = some (.slice none 0 0) := HXw4.out.cell 0
   have x1 : w4.cell? ⟨X, 1, none⟩ = some (.int .i64 0) := HXw4.out.cell 1
   have fx0 := HXw4.out.frozen 0
   have fx1 := HXw4.out.frozen 1
   have zX : X < w4.heap.size := HXw4.out.lt
   have hxw : ¬ w.heap.size = X := by have := HXn.out; omega
   have hxw2 : ¬ X = w.heap.size := by have := HXn.out; omega
   refine take_call (i := 10) rfl (by kernel_rfl) (by rfl) (fun Kq hK => ?_)
   go_simp
   refine hK.out _ _ ?hk10 (fun hHeld => ?rk10)
   case hk10 => ((try dsimp only); go_keep)
   clear hK Kq
   try simp only [Act.put, List.setIfInBounds_toArray, List.set_cons_zero, List.set_cons_succ]
   refine take_run (i := 11) (v := ?vk11) rfl (by kernel_rfl) (by kernel_rfl) (by kernel_rfl) (fun _ _ _ h => h) (by rfl) ?yk11 (by assumption) ?rk11
   case yk11 => (intro w hSw; (try dsimp only at hSw); go_simp; try with_reducible rfl)
   try simp only [Act.put, List.setIfInBounds_toArray, List.set_cons_zero, List.set_cons_succ]
   refine wpAnyH_done (by kernel_rfl) ?_ _
   refine NoPanic.normal ?_
   go_wp2_with fail
   go_meet
   have hKX : Kept (fun b => b = X) w4 ((w4.setCell ⟨X, 0, none⟩ (.slice AF nf cF)).setCell ⟨X, 1, none⟩ (.int .i64 root)) := ((Kept.refl (fun b => b = X) w4).setCell (p := ⟨X, 0, none⟩) (.inl rfl) _).setCell (p := ⟨X, 1, none⟩) (.inl rfl) _
   refine ⟨⟨X, T, AF, nf, cF, root, _, rfl, (HXw4.out.set_ 0 (.slice AF nf cF)).set_ 1 (.int .i64 root), HSn.out, HCl.out, HFw4.out.kept hKX (fun b hb e => HSX.out (by rw [← (show b = X from e)]; exact hb)), fun b hb => ⟨by have := HSw3.out; have := hb.1; omega, Nat.lt_of_lt_of_le (HSL.out b hb) hKX.size⟩, HBw4.out.trans (hKX.to_below (B := w.heap.size) (fun b hb => by have := HXn.out; have e : b = X := hb; omega) HBw4.out.size), HXn.out⟩, HQw4.out.kept hKX (by have := HXn.out; omega)⟩
 case rest =>
 obtain ⟨⟨X, T, AF, nf, cF, root, SF, rfl, hX, hSn, hCl, hF, hSF, hb, hXn⟩, hR⟩ := hcut
 obtain ⟨w2, hw2⟩ : ∃ w2 : World, w2 = wc := ⟨_, rfl⟩
 subst hw2
 have HX := Lib.hid hX
 have HR := Lib.hid hR
 have HRest := Lib.hid (And.intro hSn (And.intro hCl (And.intro hF (And.intro hSF hb))))
 have x0 : w2.cell? ⟨X, 0, none⟩ = some (.slice AF nf cF) := HX.out.cell 0
 have x1 : w2.cell? ⟨X, 1, none⟩ = some (.int .i64 root) := HX.out.cell 1
 have zX : X < w2.heap.size := HX.out.lt
 have r0 : w2.cell? ⟨w.heap.size + 1, 0, none⟩ = some (.slice none 0 0) := HR.out.cell 0
 have r1 : w2.cell? ⟨w.heap.size + 1, 1, none⟩ = some (.int .i64 0) := HR.out.cell 1
 have fr0 := HR.out.frozen 0
 have fr1 := HR.out.frozen 1
 have zR : w.heap.size + 1 < w2.heap.size := HR.out.lt
 have hne : ¬ X = w.heap.size + 1 := by omega
 clear hX hR hSn hCl hF hSF hb
 go_wp2_with fail
 obtain ⟨wF, hwF⟩ : ∃ wF : World, wF = (w2.setCell ⟨w.heap.size + 1, 0, none⟩ (.slice AF nf cF)).setCell ⟨w.heap.size + 1, 1, none⟩ (.int .i64 root) := ⟨_, rfl⟩
 rw [← hwF]
 have hFF : Blk' wF (w.heap.size + 1) 104 #[.slice AF nf cF, .int .i64 root] := by rw [hwF]; exact (HR.out.set_ 0 (.slice AF nf cF)).set_ 1 (.int .i64 root)
 have hKF : Kept (fun b => b = w.heap.size + 1) w2 wF := by rw [hwF]; exact ((Kept.refl (fun b => b = w.heap.size + 1) w2).setCell (p := ⟨w.heap.size + 1, 0, none⟩) (.inl rfl) _).setCell (p := ⟨w.heap.size + 1, 1, none⟩) (.inl rfl) _
 have u0 : wF.cell? ⟨w.heap.size + 1, 0, none⟩ = some (.slice AF nf cF) := hFF.cell 0
 have u1 : wF.cell? ⟨w.heap.size + 1, 1, none⟩ = some (.int .i64 root) := hFF.cell 1
 clear hwF hFF x0 x1 zX r0 r1 fr0 fr1 zR hne
 obtain ⟨hSn, hCl, hF, hSF, hb⟩ := HRest.out
 exact bodyPost_ret (v := .agg #[.slice AF nf cF, .int .i64 root]) (by simp [results, Tryd.results57, go_sem, u0, u1]) rfl ⟨T, AF, nf, cF, root, SF, rfl, hSn, hCl, hF.kept hKF (fun b h e => by have := (hSF b h).1; have e2 : b = w.heap.size + 1 := e; omega), fun b h => Nat.lt_of_lt_of_le (hSF b h).2 hKF.size, hb.trans (hKF.to_below (B := w.heap.size) (fun b e => by have e2 : b = w.heap.size + 1 := e; omega) hb.size)⟩
end Go.Proofs.YtjdojogjogenkaaDoor
