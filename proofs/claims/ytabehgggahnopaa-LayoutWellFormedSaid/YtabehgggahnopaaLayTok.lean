/- Contract: layout.Tokens. -/
import Derived.Test.YtabehgggahnopaaLayP
import Derived.Deep.LoopGhost
namespace Go.Proofs.Ytabehgggahnopaa
open Go.RowKit
set_option linter.unusedVariables false

theorem Own.litI {w : World} (S : Nat → Prop) {base : Nat} {e : TypeId} {x : Int} (hb : base ≤ w.heap.size) (hx : I64 x) : Own (w.alloc (.cells #[.int .i64 x] e)) S base e (.slice (some ⟨w.heap.size, 0, none⟩) 1 1) [x] := by
  refine ⟨[[Value.int .i64 x]], ⟨rfl, .inr ⟨w.heap.size, 1, #[.int .i64 x], rfl, hb, heap_alloc_new w _, Nat.le_refl _, by simp [maxLen], rfl, rfl⟩⟩, rfl, ?_⟩
  intro i y cs hi hc
  match i, hi, hc with
  | 0, hi, hc => simp at hi hc; subst hi; subst hc; exact ⟨rfl, hx⟩
def RetTok (r : List Tok × Int) (w : World) (e : Ending) (w' : World) : Prop :=
  ∃ (A : Option Addr) (c : Nat), e = .returned (.tuple #[.slice A r.1.length c, .int .i64 r.2]) ∧ r.1.length ≤ c ∧ c ≤ 9223372036854775807 ∧ Els w' (fun b => w.heap.size ≤ b ∧ b < w'.heap.size) r.1 A ∧ Below w.heap.size w w'
theorem retTok_err {r : List Tok × Int} {E : Int} {w w' : World} (h : r = ([], E)) (hb : Below w.heap.size w w') : RetTok r w (.returned (.tuple #[.slice none 0 0, .int .i64 E])) w' :=
  ⟨none, 0, by rw [h]; rfl, by rw [h]; exact Nat.le_refl _, by omega, by rw [h]; exact fun h => absurd rfl h, hb⟩
theorem tokR_err {s : ByteArray} {l : List Tok} {k : K3} {E : Int} (h : tokRun s k none [] [0] l = .inr E) : tokR s l k = ([], E) := by unfold tokR; rw [h]
theorem tokRun_err {s : ByteArray} {k : K3} {prev : Option Tok} {out : List Tok} {stk : List Int} {t : Tok} {l : List Tok} {E : Int} (h : tokStep s k prev out stk t = .inr E) : tokRun s k prev out stk (t :: l) = .inr E := by rw [tokRun, h]
theorem tokRun_ok {s : ByteArray} {k : K3} {prev : Option Tok} {out out' : List Tok} {stk stk' : List Int} {t : Tok} {l : List Tok} (h : tokStep s k prev out stk t = .inl (out', stk')) : tokRun s k prev out stk (t :: l) = tokRun s k (some t) out' stk' l := by rw [tokRun, h]
theorem tkd_out {out o7 o8 : List Tok} {n m : Nat} {d : Tok} (h : m + 1 ≤ n) (h7 : o7 = out ++ List.replicate (n - (m + 1)) d) (h8 : o8 = o7 ++ [d]) : out ++ List.replicate (n - m) d = o8 := by
  rw [h8, h7, show n - m = (n - (m + 1)) + 1 by omega, List.replicate_succ', List.append_assoc]
theorem tkd_stk {stk s7 : List Int} {m : Nat} (h7 : s7 = stk.take (m + 1)) : stk.take m = s7.take m := by rw [h7, List.take_take, Nat.min_eq_left (by omega)]
theorem retTok_own {r : List Tok × Int} {out : List Tok} {A : Option Addr} {c z : Nat} {w w' : World} (h : r = (out, 0)) (hown : Own w' (fun _ => False) (z + 3) 28 (.slice A out.length c) out) (hz : w.heap.size ≤ z) (hb : Below w.heap.size w w') : RetTok r w (.returned (.tuple #[.slice A out.length c, .int .i64 0])) w' := by
  subst h
  obtain ⟨_, h1, h2, h3⟩ := hown.vl.els
  exact ⟨A, c, rfl, h1, h2, h3.keep (fun _ _ _ => rfl) (fun b hb => ⟨by rcases hb.1 with h | h; exact absurd h id; omega, hb.2⟩), hb⟩
def prevOf (l : List Tok) (j : Nat) : Option Tok := if j = 0 then none else l[j - 1]?
def TkL (s : ByteArray) (k : K3) (l : List Tok) (z : Nat) (w3 : World) (i : Value) (wr : World) : Prop :=
  ∃ (j : Nat) (out : List Tok) (stk : List Int), j ≤ l.length ∧ i = .int .i64 j ∧ tokRun s k none [] [0] l = tokRun s k (prevOf l j) out stk (l.drop j) ∧ out.length ≤ 30 * j ∧ stk.length ≤ 21 ∧ stk[0]? = some 0 ∧ TkSt (fun b => b < z) z out stk wr ∧ Kept (fun b => ¬ b < z) w3 wr
/-- The columns that are dropped. -/
def TkD (X : Nat → Prop) (z : Nat) (out : List Tok) (stk : List Int) (col : Int) (d : Tok) (wt : World) (m : Nat) (wr : World) : Prop :=
  1 ≤ m ∧ m ≤ stk.length ∧ TkSt X z (out ++ List.replicate (stk.length - m) d) (stk.take m) wr ∧ keepN col stk m = keepN col stk stk.length ∧ Kept (fun b => ¬ X b) wt wr

set_option maxRecDepth 100000 in
set_option maxHeartbeats 16000000 in
theorem tokens_any (s : ByteArray) (l : List Tok) (k : K3) (A : Option Addr) (c : Nat) (S : Nat → Prop) (w : World) (hs : s.size ≤ 9223372036854775807) (hk : I64 k.k0 ∧ I64 k.k1 ∧ I64 k.k2) (hlc : l.length ≤ c) (hc : c ≤ 9223372036854775807) (hA : Els w S l A) (hS : ∀ b, S b → b < w.heap.size) :
    Calls Try.prog 7 #[.string s, .slice A l.length c, .agg #[.int .i64 k.k0, .int .i64 k.k1, .int .i64 k.k2]] w (RetTok (tokensL s l k) w) := by
  have HK := Lib.hid hk
  have HS := Lib.hid hS
  have hl9 : l.length ≤ 9223372036854775807 := by omega
  obtain ⟨ka, kb, kc⟩ := k
  dsimp only at *
  clear hk
  have KE_0 : Hid (Els w S l A) := Lib.hid (hA)
  clear hA hS
  obtain ⟨w_1, hww_1⟩ : ∃ w_1 : World, w_1 = w.alloc (.cells #[.int .i64 ka, .int .i64 kb, .int .i64 kc] 23) := ⟨_, rfl⟩
  have hbw_1 : Below w.heap.size w w_1 := by rw [hww_1]; exact (Below.refl _ _).alloc (by first | exact Nat.le_refl _ | (simp; done) | (simp; omega)) _
  have sqw_1 : w_1.heap.size = w.heap.size + 1 := by rw [hww_1]; simp
  have KE_1 : Hid (Els w_1 S l A) := Lib.hid (KE_0.out.below hbw_1)
  have QB_1 : Hid (Below w.heap.size w w_1) := Lib.hid (hbw_1)
  have sz_1 : w.heap.size + 1 ≤ w_1.heap.size := by rw [sqw_1]; exact Nat.le_refl _
  have KK_1 : Hid (Blk' w_1 (w.heap.size) 23 #[.int .i64 ka, .int .i64 kb, .int .i64 kc]) := Lib.hid (by rw [hww_1]; exact Blk'.new w _ _)
  have HWw_1 := Lib.hid hww_1
  have SQw_1 := Lib.hid sqw_1
  clear hww_1 hbw_1 sqw_1
  clear KE_0
  go_enter Try.func7, Try.ntmps7
  go_upto_region 1 with (fail)
  rw [← HWw_1.out]
  have cK_1_0 : w_1.cell? ⟨w.heap.size, 0, none⟩ = some (.int .i64 ka) := KK_1.out.cell 0
  have cK_1_1 : w_1.cell? ⟨w.heap.size, 1, none⟩ = some (.int .i64 kb) := KK_1.out.cell 1
  have cK_1_2 : w_1.cell? ⟨w.heap.size, 2, none⟩ = some (.int .i64 kc) := KK_1.out.cell 2
  have zK_1 : w.heap.size < w_1.heap.size := KK_1.out.lt
  go_wp2_with fail
  refine (lcheck_any s l ⟨ka, kb, kc⟩ A c S w_1 hs HK.out hlc hc KE_1.out (fun b hb => by have := HS.out b hb; omega)).mono ?_
  rintro e w_2 ⟨rfl, hbz⟩
  clear cK_1_0 cK_1_1 cK_1_2 zK_1
  have KE_2 : Hid (Els w_2 S l A) := Lib.hid (KE_1.out.below hbz)
  have KK_2 : Hid (Blk' w_2 (w.heap.size) 23 #[.int .i64 ka, .int .i64 kb, .int .i64 kc]) := Lib.hid (KK_1.out.below hbz KK_1.out.lt)
  have QB_2 : Hid (Below w.heap.size w w_2) := Lib.hid (bthen QB_1.out hbz QB_1.out.size)
  have sz_2 : w_1.heap.size ≤ w_2.heap.size := (hbz).size
  clear hbz
  clear KE_1 KK_1 QB_1
  obtain ⟨E, hE⟩ : ∃ E, E = checkL s l ⟨ka, kb, kc⟩ := ⟨_, rfl⟩
  rw [← hE]
  have HEq := Lib.hid hE
  clear hE
  by_cases hE0 : E = 0
  rotate_left
  · go_wp2
    go_ret2
    exact retTok_err (by unfold tokensL; rw [← HEq.out, if_pos hE0]) QB_2.out
  subst hE0
  obtain ⟨q1, q2, _, q3⟩ := checkL_ok HEq.out.symm
  have hval := checkT_valid l 0 q3
  have HV := Lib.hid hval
  have HTk : Hid (tokensL s l ⟨ka, kb, kc⟩ = tokR s l ⟨ka, kb, kc⟩) := Lib.hid (by unfold tokensL; rw [← HEq.out]; simp)
  clear hval q3
  obtain ⟨w_3, hww_3⟩ : ∃ w_3 : World, w_3 = ((w_2.alloc (.cells #[.slice none 0 0] 22)).alloc (.cells #[.int .i64 0] 3)).alloc (.cells #[.slice (some ⟨w_2.heap.size + 1, 0, none⟩) 1 1] 38) := ⟨_, rfl⟩
  have hbw_3 : Below w_2.heap.size w_2 w_3 := by rw [hww_3]; exact (((Below.refl _ _).alloc (by first | exact Nat.le_refl _ | (simp; done) | (simp; omega)) _).alloc (by first | exact Nat.le_refl _ | (simp; done) | (simp; omega)) _).alloc (by first | exact Nat.le_refl _ | (simp; done) | (simp; omega)) _
  have sqw_3 : w_3.heap.size = w_2.heap.size + 1 + 1 + 1 := by rw [hww_3]; simp
  have KE_3 : Hid (Els w_3 S l A) := Lib.hid (KE_2.out.below hbw_3)
  have KK_3 : Hid (Blk' w_3 (w.heap.size) 23 #[.int .i64 ka, .int .i64 kb, .int .i64 kc]) := Lib.hid (KK_2.out.below hbw_3 KK_2.out.lt)
  have QB_3 : Hid (Below w.heap.size w w_3) := Lib.hid (bthen QB_2.out hbw_3 QB_2.out.size)
  have sz_3 : w_2.heap.size + 1 + 1 + 1 ≤ w_3.heap.size := by rw [sqw_3]; exact Nat.le_refl _
  have KO_3 : Hid (Blk' w_3 (w_2.heap.size) 22 #[.slice none 0 0]) := Lib.hid (by rw [hww_3]; exact ((Blk'.new w_2 _ _).alloc _).alloc _)
  have KQ_3 : Hid (Blk' w_3 (w_2.heap.size + 1 + 1) 38 #[.slice (some ⟨w_2.heap.size + 1, 0, none⟩) 1 1]) := Lib.hid (by rw [hww_3]; exact Blk'.new' (g := w_2.heap.size + 1 + 1) _ _ _ (by simp))
  have HWw_3 := Lib.hid hww_3
  have SQw_3 := Lib.hid sqw_3
  clear hww_3 hbw_3 sqw_3
  clear KE_2 KK_2 QB_2
  go_upto_region 8 with (fail)
  rw [← HWw_3.out]
  have hlit : Own w_3 (fun _ => False) (w_2.heap.size + 1) 3 (.slice (some ⟨w_2.heap.size + 1, 0, none⟩) 1 1) [(0 : Int)] := by
    have h := (Own.litI (w := w_2.alloc (.cells #[.slice none 0 0] 22)) (fun _ => False) (base := w_2.heap.size + 1) (e := 3) (x := 0) (by simp) (by unfold I64; omega)).alloc (.cells #[.slice (some ⟨w_2.heap.size + 1, 0, none⟩) 1 1] 38)
    rw [show (w_2.alloc (.cells #[.slice none 0 0] 22)).heap.size = w_2.heap.size + 1 by simp] at h
    rw [HWw_3.out]
    exact h
  have HT3 : Hid (TkSt (fun b => b < w_2.heap.size) w_2.heap.size [] [0] w_3) := Lib.hid ⟨.slice none 0 0, .slice (some ⟨w_2.heap.size + 1, 0, none⟩) 1 1, KO_3.out, KQ_3.out, Own.nil _ _ _ _, hlit, (fun k hk => by simp [Value.ownBlock] at hk; omega), (fun k hk => by simp [Value.ownBlock] at hk), (fun b hb => ⟨by omega, by omega, by omega, by simp [Value.ownBlock], by simp [Value.ownBlock]; omega⟩)⟩
  clear hlit
  go_wp2_with fail
  go_loopw [30] (fun i wr => TkL s ⟨ka, kb, kc⟩ l w_2.heap.size w_3 i wr) (fun i _ => l.length - (intOf i).toNat)
  case atStart => exact ⟨0, [], [0], Nat.zero_le _, rfl, rfl, by simp, by simp, rfl, HT3.out, Kept.refl _ _⟩
  case round =>
    obtain ⟨wo, hwo⟩ : ∃ wo : World, wo = wr := ⟨_, rfl⟩
    subst hwo
    obtain ⟨j, out, stk, hj, rfl, heq, hol, hsl, hs0, hst, hkp⟩ := hrel
    have HEL := Lib.hid heq
    have HOl := Lib.hid (And.intro hol (And.intro hsl hs0))
    obtain ⟨vo, vs, htk⟩ := hst
    have HTk0 := Lib.hid htk
    have HL0 := Lib.hid hkp
    have HK0 : Hid (Blk' wo w.heap.size 23 #[.int .i64 ka, .int .i64 kb, .int .i64 kc]) := Lib.hid (KK_3.out.kept hkp (fun h => h (by omega)))
    have HE0 : Hid (Els wo S l A) := Lib.hid (KE_3.out.kept hkp (fun b hb h => h (by have := HS.out b hb; omega)))
    have hsz0 : w_3.heap.size ≤ wo.heap.size := hkp.size
    clear heq hol hsl hs0 htk hkp
    by_cases hlt : j < l.length
    · obtain ⟨t, ht⟩ := get_some hlt
      have hj0 : (0 : Int) ≤ (j : Int) := by omega
      have HD : Hid (l.drop j = t :: l.drop (j + 1)) := Lib.hid (drop_cons ht)
      obtain ⟨hv1, hv2, hv3, _⟩ := HV.out t (List.mem_of_getElem? ht)
      obtain ⟨b, o, rfl, hSb, hbs, ti0, ti1, ti2, c0, c1, c2, c2'⟩ := HE0.out.tok ht
      obtain ⟨tk, tf, tt⟩ := t
      dsimp only at ti0 ti1 ti2 c0 c1 c2 c2' hv1 hv2 hv3
      obtain ⟨f, rfl⟩ : ∃ f : Nat, tf = (f : Int) := ⟨tf.toNat, by omega⟩
      have HTi := Lib.hid (And.intro ti0 (And.intro ti1 ti2))
      have hfs : f ≤ s.size := by omega
      obtain ⟨w4, hw4⟩ : ∃ w4 : World, w4 = wo.alloc (.cells #[.int .i64 tk, .int .i64 (f : Int), .int .i64 tt] 28) := ⟨_, rfl⟩
      have hb4 : Below wo.heap.size wo w4 := by rw [hw4]; exact (Below.refl _ _).alloc (Nat.le_refl _) _
      have hz4 : w4.heap.size = wo.heap.size + 1 := by rw [hw4]; simp
      have HZ4 := Lib.hid hz4
      obtain ⟨X, hX⟩ : ∃ X : Nat → Prop, X = fun b => b < w_2.heap.size ∨ b = wo.heap.size := ⟨_, rfl⟩
      have HXl : Hid (∀ b, b < w_2.heap.size → X b) := Lib.hid (fun b h => by rw [hX]; exact .inl h)
      have HXt : Hid (X wo.heap.size) := Lib.hid (by rw [hX]; exact .inr rfl)
      have HT4 : Hid (TkV X w_2.heap.size out stk vo vs w4) := Lib.hid (by rw [hX]; exact HTk0.out.guard hb4 (Nat.le_refl _) (by omega))
      have HB4 : Hid (Blk' w4 wo.heap.size 28 #[.int .i64 tk, .int .i64 (f : Int), .int .i64 tt]) := Lib.hid (by rw [hw4]; exact Blk'.new _ _ _)
      have HL4 : Hid (Kept (fun b => ¬ b < w_2.heap.size) w_3 w4) := Lib.hid (HL0.out.below hb4)
      have HK4 := Lib.hid (HK0.out.below hb4 HK0.out.lt)
      have HE4 := Lib.hid (HE0.out.below hb4)
      have HX3 : Hid (∀ W, Kept (fun b => ¬ X b) w4 W → Kept (fun b => ¬ b < w_2.heap.size) w_3 W) := Lib.hid (fun W h => HL4.out.trans (h.mono (fun b _ hx hb => hx (HXl.out b hb))))
      have HW4 := Lib.hid hw4
      have hsz4 : wo.heap.size < w4.heap.size := by omega
      clear ht ti0 ti1 ti2 hw4 hb4 hX hz4
      go_upto_region 11 with (fail)
      rw [← HW4.out]
      clear c0 c1 c2 c2'
      have HGt : Hid (l[j]? = some ⟨tk, f, tt⟩) := Lib.hid (by have h := congrArg (fun q => q[0]?) HD.out; simpa using h)
      obtain ⟨Ao0, co0, rfl, hco0, hcp0, _⟩ := HT4.out.2.2.1.form
      obtain ⟨As0, cs0, rfl, hcs0, hct0, hfs0⟩ := HT4.out.2.2.2.1.form
      obtain ⟨g0, rfl, _, _⟩ : ∃ g, As0 = some ⟨g, 0, none⟩ ∧ True ∧ True := by
        rcases hfs0 with h | ⟨g, h, _, _⟩
        · exact absurd h (fun e => by have h1 := HOl.out.2.2; rw [e] at h1; cases h1)
        · exact ⟨g, h, trivial, trivial⟩
      clear hfs0
      have t0 : w4.cell? ⟨wo.heap.size, 0, none⟩ = some (.int .i64 tk) := HB4.out.cell 0
      have t1 : w4.cell? ⟨wo.heap.size, 1, none⟩ = some (.int .i64 (f : Int)) := HB4.out.cell 1
      have t2 : w4.cell? ⟨wo.heap.size, 2, none⟩ = some (.int .i64 tt) := HB4.out.cell 2
      have zt : wo.heap.size < w4.heap.size := HB4.out.lt
      go_wp2_with fail
      refine (begin_any s f (by omega) hfs w4).mono ?_
      rintro e w6 ⟨rfl, rfl⟩
      obtain ⟨ln, hln⟩ : ∃ ln, ln = lnl s f := ⟨_, rfl⟩
      rw [← hln]
      have HLn := Lib.hid hln
      have hlf : ln ≤ f := by rw [hln]; exact lnl_le s f
      clear hln
      by_cases hj1 : j = 0
      · subst hj1
        skip
        clear t0 t1 t2 zt
        have t0 : w4.cell? ⟨wo.heap.size, 0, none⟩ = some (.int .i64 tk) := HB4.out.cell 0
        have t1 : w4.cell? ⟨wo.heap.size, 1, none⟩ = some (.int .i64 (f : Int)) := HB4.out.cell 1
        have t2 : w4.cell? ⟨wo.heap.size, 2, none⟩ = some (.int .i64 tt) := HB4.out.cell 2
        have zt : wo.heap.size < w4.heap.size := HB4.out.lt
        obtain ⟨col, hcol⟩ : ∃ col : Int, col = (f : Int) - (ln : Int) := ⟨_, rfl⟩
        have hwc : IntKind.i64.wrap ((f : Int) - (ln : Int)) = col := by rw [hcol]; exact IntWalk.i64_in _ (by omega)
        have hwc2 : wrap64 ((f : Int) - (ln : Int)) = col := by rw [hcol]; exact IntWalk.wrap64_in _ (by omega)
        have hc0 : 0 ≤ col := by omega
        have hc4 : col ≤ 4000 := by omega
        have HCo : Hid (col = (f : Int) - (lnl s f : Nat)) := Lib.hid (by rw [hcol, ← HLn.out])
        clear hcol
        have HNw : Hid (tokStep s ⟨ka, kb, kc⟩ (prevOf l 0) out stk ⟨tk, f, tt⟩ = tokNew s ⟨ka, kb, kc⟩ true out stk ⟨tk, f, tt⟩) := Lib.hid (rfl)
        have hsne : stk ≠ [] := fun e => by have h1 := HOl.out.2.2; rw [e] at h1; cases h1
        obtain ⟨lt, hlt2⟩ : ∃ lt, lt = lastD stk := ⟨_, rfl⟩
        have HLt := Lib.hid hlt2
        clear hlt2
        have HNs : Hid (tokNew s ⟨ka, kb, kc⟩ true out stk ⟨tk, f, tt⟩ = if lt < col then (if true then .inr 3 else if 20 < stk.length then .inr 11 else tokEnd ⟨ka, kb, kc⟩ ⟨tk, f, tt⟩ col (out ++ [⟨ka, f, f⟩]) (stk ++ [col])) else tokEnd ⟨ka, kb, kc⟩ ⟨tk, f, tt⟩ col out stk) := Lib.hid (by unfold tokNew; dsimp only; rw [Int.toNat_natCast, ← HCo.out, ← HLt.out])
        go_wp2_with fail
        refine (ltop_any w4 HT4.out hsne).mono ?_
        rintro e w7 ⟨rfl, rfl⟩
        rw [← HLt.out]
        by_cases hgt : lt < col
        · skip
          go_wp2
          go_ret2
          exact retTok_err (by rw [HTk.out]; exact tokR_err (by rw [HEL.out, HD.out]; exact tokRun_err (by rw [HNw.out, HNs.out, if_pos hgt]; rfl))) (QB_3.out.trans ((HX3.out _ (Kept.refl _ _)).to_below (fun b (h : ¬ b < w_2.heap.size) => by omega) QB_3.out.size))
        · skip
          have hsl21 : stk.length ≤ 21 := HOl.out.2.1
          go_wp2_with fail
          refine (ltop_any w4 HT4.out hsne).mono ?_
          rintro e w7 ⟨rfl, rfl⟩
          rw [← HLt.out]
          go_wp2_with fail
          refine (ltop_any w4 HT4.out hsne).mono ?_
          rintro e w7 ⟨rfl, rfl⟩
          rw [← HLt.out]
          obtain ⟨d, hd⟩ : ∃ d : Tok, d = ⟨kb, f, f⟩ := ⟨_, rfl⟩
          have HDd := Lib.hid hd
          clear hd
          have hst0 : TkD X w_2.heap.size out stk col d w4 stk.length w4 := ⟨by have := HOl.out.2.2; exact List.length_pos_iff.2 hsne, Nat.le_refl _, ⟨_, _, by rw [Nat.sub_self, List.replicate_zero, List.append_nil, List.take_length]; exact HT4.out⟩, rfl, Kept.refl _ _⟩
          have HS0 := Lib.hid hst0
          clear hst0
          go_wp2_with fail
          go_loopg [] stk.length (fun m wr => TkD X w_2.heap.size out stk col d w4 m wr)
          case atStart => exact HS0.out
          case round =>
            obtain ⟨wd, hwd⟩ : ∃ wd : World, wd = wr := ⟨_, rfl⟩
            subst hwd
            obtain ⟨hm1, hm2, ⟨vo7, vs7, htd⟩, hkn, hkd⟩ := hrel
            obtain ⟨m, rfl⟩ : ∃ m, gk = m + 1 := ⟨gk - 1, by omega⟩
            obtain ⟨x, hx⟩ := get_some (show m < stk.length by omega)
            have HTd := Lib.hid htd
            have HKn := Lib.hid (And.intro hx hkn)
            have hkd2 := hkd
            clear htd hx hkn
            have HB101 := Lib.hid (HB4.out.kept hkd2 (fun h => h HXt.out))
            have HK101 := Lib.hid (HK4.out.kept hkd2 (fun h => h (HXl.out _ (by omega))))
            have HE101 := Lib.hid (HE4.out.kept hkd2 (fun b hb h => h (HXl.out _ (by have := HS.out b hb; omega))))
            have HP101 : Hid (Kept (fun b => ¬ X b) w4 wd) := Lib.hid (hkd2)
            have hsz101 : w4.heap.size ≤ wd.heap.size := (hkd2).size
            have HKd := Lib.hid hkd
            clear hkd hkd2
            obtain ⟨o7, hqo7⟩ : ∃ q, q = out ++ List.replicate (stk.length - (m + 1)) d := ⟨_, rfl⟩
            have HQo7 := Lib.hid hqo7
            clear hqo7
            obtain ⟨s7, hqs7⟩ : ∃ q, q = stk.take (m + 1) := ⟨_, rfl⟩
            have HQs7 := Lib.hid hqs7
            clear hqs7
            rw [← HQo7.out, ← HQs7.out] at HTd
            have hs7 : s7.length = m + 1 := by rw [HQs7.out, List.length_take]; omega
            have hla : lastD s7 = x := by rw [HQs7.out]; exact lastD_take HKn.out.1
            have HLa := Lib.hid hla
            have ho7 : o7.length ≤ 30 * 0 + 23 := by rw [HQo7.out, List.length_append, List.length_replicate]; have := HOl.out.1; omega
            clear hla
            have HLOT := Lib.hid (And.intro hs7 (And.intro ho7 (And.intro hm2 hm1)))
            clear hs7 ho7 hm2 hm1
            obtain ⟨Ao2, co2, rfl, hco2, hcp2, _⟩ := HTd.out.2.2.1.form
            obtain ⟨As2, cs2, rfl, hcs2, hct2, hfs2⟩ := HTd.out.2.2.2.1.form
            obtain ⟨g2, rfl, _, _⟩ : ∃ g, As2 = some ⟨g, 0, none⟩ ∧ True ∧ True := by
              rcases hfs2 with h | ⟨g, h, _, _⟩
              · exact absurd h (fun e => by have hs7 := HLOT.out.1; rw [e] at hs7; cases hs7)
              · exact ⟨g, h, trivial, trivial⟩
            clear hfs2
            have t0 : wd.cell? ⟨wo.heap.size, 0, none⟩ = some (.int .i64 tk) := HB101.out.cell 0
            have t1 : wd.cell? ⟨wo.heap.size, 1, none⟩ = some (.int .i64 (f : Int)) := HB101.out.cell 1
            have t2 : wd.cell? ⟨wo.heap.size, 2, none⟩ = some (.int .i64 tt) := HB101.out.cell 2
            have zt : wo.heap.size < wd.heap.size := HB101.out.lt
            have s0 : wd.cell? ⟨w_2.heap.size + 2, 0, none⟩ = some (.slice (some ⟨g2, 0, none⟩) s7.length cs2) := HTd.out.2.1.cell 0
            have fs := HTd.out.2.1.frozen 0
            have zs : w_2.heap.size + 2 < wd.heap.size := HTd.out.2.1.lt
            go_wp2_with fail
            refine (ltop_any wd HTd.out (fun e => by have hs7 := HLOT.out.1; rw [e] at hs7; cases hs7)).mono ?_
            rintro e w7 ⟨rfl, rfl⟩
            rw [HLa.out]
            by_cases hcx : col < x
            · have hmm : 1 ≤ m := by
                have hm2 := HLOT.out.2.2.1
                have h1 := keepN_pos (stk := stk) (c := col) HOl.out.2.2 hc0 (m + 1) (by omega)
                rw [keepN_hit HKn.out.1 hcx] at h1
                have := keepN_le col stk m
                omega
              have hm0 : (0 : Int) ≤ (m : Int) := by omega
              have hm3 : (m : Int) ≤ (cs2 : Int) := by rw [HLOT.out.1] at hcs2; omega
              have hmw : IntKind.i64.wrap (m : Int) = (m : Int) := IntWalk.i64_in _ (by omega)
              have hmw2 : wrap64 (m : Int) = (m : Int) := IntWalk.wrap64_in _ (by omega)
              have hm7 : m ≤ s7.length := by rw [HLOT.out.1]; exact Nat.le_succ m
              obtain ⟨p1, p2⟩ := HTd.out.pop hm7
              clear hm7
              have HP1 := Lib.hid p1
              have HP2 := Lib.hid p2
              clear p1 p2
              obtain ⟨w8, hw8⟩ : ∃ w8 : World, w8 = wd.setCell ⟨w_2.heap.size + 2, 0, none⟩ (.slice (some ⟨g2, 0, none⟩) m cs2) := ⟨_, rfl⟩
              rw [← hw8] at HP1 HP2
              have HW8 := Lib.hid hw8
              clear hw8
              have HB103 := Lib.hid (HB101.out.kept HP2.out (fun h => h HXt.out))
              have HK103 := Lib.hid (HK101.out.kept HP2.out (fun h => h (HXl.out _ (by omega))))
              have HE103 := Lib.hid (HE101.out.kept HP2.out (fun b hb h => h (HXl.out _ (by have := HS.out b hb; omega))))
              have HP103 : Hid (Kept (fun b => ¬ X b) w4 w8) := Lib.hid (HP101.out.trans HP2.out)
              have hsz103 : wd.heap.size ≤ w8.heap.size := (HP2.out).size
              rw [HLOT.out.1] at s0
              have HLO2 := Lib.hid (And.intro hmm hcx)
              clear hmm
              go_upto_region 26 with (fail)
              rw [← HW8.out]
              clear hcx
              clear t0 t1 t2 zt s0 fs zs
              have t0 : w8.cell? ⟨wo.heap.size, 0, none⟩ = some (.int .i64 tk) := HB103.out.cell 0
              have t1 : w8.cell? ⟨wo.heap.size, 1, none⟩ = some (.int .i64 (f : Int)) := HB103.out.cell 1
              have t2 : w8.cell? ⟨wo.heap.size, 2, none⟩ = some (.int .i64 tt) := HB103.out.cell 2
              have zt : wo.heap.size < w8.heap.size := HB103.out.lt
              go_wp2_with fail
              refine (ladd_any ⟨ka, kb, kc⟩ 1 f w.heap.size w8 HP1.out (by omega) HK.out HTi.out.2.1 (by have := HLOT.out.2.1; omega) HK103.out).mono ?_
              rintro e w54 ⟨rfl, ⟨vo4, htv⟩, hkx⟩
              clear t0 t1 t2 zt
              obtain ⟨o8, hqo8⟩ : ∃ q, q = o7 ++ [⟨kb, f, f⟩] := ⟨_, rfl⟩
              have HQo8 := Lib.hid hqo8
              clear hqo8
              have HU4 : Hid (TkV X w_2.heap.size o8 (s7.take m) vo4 (.slice (some ⟨g2, 0, none⟩) m cs2) w54) := Lib.hid (by rw [HQo8.out]; exact htv)
              have HB105 := Lib.hid (HB103.out.kept hkx (fun h => h HXt.out))
              have HK105 := Lib.hid (HK103.out.kept hkx (fun h => h (HXl.out _ (by omega))))
              have HE105 := Lib.hid (HE103.out.kept hkx (fun b hb h => h (HXl.out _ (by have := HS.out b hb; omega))))
              have HP105 : Hid (Kept (fun b => ¬ X b) w4 w54) := Lib.hid (HP103.out.trans hkx)
              have hsz105 : w8.heap.size ≤ w54.heap.size := (hkx).size
              have HKx := Lib.hid hkx
              clear htv hkx
              go_wp2_with fail
              obtain ⟨hs7, ho7, hm2, hm1⟩ := HLOT.out
              obtain ⟨hmm, hcx⟩ := HLO2.out
              go_roundg m
              case measure => omega
              case rel =>
                have e0 : o8 = o7 ++ [d] := by rw [HQo8.out, HDd.out]
                have e1 := tkd_out hm2 HQo7.out e0
                have e2 := tkd_stk HQs7.out
                have e3 := HKd.out.trans (HP2.out.trans HKx.out)
                have e4 : m ≤ stk.length := Nat.le_of_succ_le hm2
                have e5 : keepN col stk m = keepN col stk stk.length := (keepN_hit HKn.out.1 hcx).symm.trans HKn.out.2
                have e6 := HU4.out
                rw [← e1, ← e2] at e6
                exact ⟨hmm, e4, ⟨_, _, e6⟩, e5, e3⟩
            · have HKe : Hid (keepN col stk stk.length = m + 1) := Lib.hid (by rw [← HKn.out.2]; exact keepN_stop HKn.out.1 hcx)
              go_wp2_with fail
              refine (ltop_any wd HTd.out (fun e => by have hs7 := HLOT.out.1; rw [e] at hs7; cases hs7)).mono ?_
              rintro e w7 ⟨rfl, rfl⟩
              rw [HLa.out]
              by_cases hce : col = x
              · have HSt : Hid (tokStep s ⟨ka, kb, kc⟩ (prevOf l 0) out stk ⟨tk, f, tt⟩ = .inl (o7 ++ [⟨tk, f, tt⟩], s7)) := Lib.hid (by rw [HNw.out, HNs.out, if_neg (Int.not_lt.2 hgt)]; unfold tokEnd; rw [HKe.out, ← HQs7.out, if_pos (by rw [HLa.out]; exact hce), HQo7.out, HDd.out])
                have hne : ¬ col ≠ x := fun h => h hce
                subst hce
                have t0 : wd.cell? ⟨wo.heap.size, 0, none⟩ = some (.int .i64 tk) := HB101.out.cell 0
                have t1 : wd.cell? ⟨wo.heap.size, 1, none⟩ = some (.int .i64 (f : Int)) := HB101.out.cell 1
                have t2 : wd.cell? ⟨wo.heap.size, 2, none⟩ = some (.int .i64 tt) := HB101.out.cell 2
                have zt : wo.heap.size < wd.heap.size := HB101.out.lt
                have o0 : wd.cell? ⟨w_2.heap.size, 0, none⟩ = some (.slice Ao2 o7.length co2) := HTd.out.1.cell 0
                have fo := HTd.out.1.frozen 0
                have zo : w_2.heap.size < wd.heap.size := HTd.out.1.lt
                have HRd : Hid (Dat.rd (wd.alloc (.cells #[.int .i64 tk, .int .i64 (f : Int), .int .i64 tt] 28)) (OwnT (fun _ => False) (w_2.heap.size + 3) (.slice Ao2 o7.length co2) (wd.alloc (.cells #[.int .i64 tk, .int .i64 (f : Int), .int .i64 tt] 28))) (⟨tk, f, tt⟩ : Tok) [.int .i64 tk, .int .i64 (f : Int), .int .i64 tt]) := Lib.hid ⟨rfl, HTi.out⟩
                have HOa := Lib.hid (HTd.out.2.2.1.alloc (.cells #[.int .i64 tk, .int .i64 (f : Int), .int .i64 tt] 28))
                have hcap1 : (o7.length + 1) * 24 ≤ 140737488355328 := by have := HLOT.out.2.1; omega
                have hcap2 : o7.length + 1 ≤ 9223372036854775807 := by have := HLOT.out.2.1; omega
                have hzz : w_2.heap.size + 3 ≤ (wd.alloc (.cells #[.int .i64 tk, .int .i64 (f : Int), .int .i64 tt] 28)).heap.size := by have := HTd.out.2.1.lt; simp; omega
                go_wp2_with ((at_builtin); (refine wpList_own1 _ rfl _ _ elemTok rfl rfl HOa.out ⟨tk, f, tt⟩ [.int .i64 tk, .int .i64 (f : Int), .int .i64 tt] rfl (At.new _ _ _) HRd.out hcap1 hcap2 hzz ?_); (intro v' w9 hown9 hg9 hat9); (obtain ⟨A9, k9, hv9, _⟩ := hown9.form); (rw [snoc_len] at hv9); (subst hv9); (have hO9 := (HTd.out.1.alloc (.cells #[.int .i64 tk, .int .i64 (f : Int), .int .i64 tt] 28)).grown hg9 (fun e => by have h9 := (HOa.out.block _ e.symm).1; omega)); (have m9 := hO9.cell 0); (have f9 := hO9.frozen 0); (have z9 := hO9.lt); (have H9 := Lib.hid (And.intro hown9 (And.intro hg9 hat9))); (clear hown9 hg9 hat9 hO9); (try simp at m9))
                go_roundw
                case measure => simp [intOf]; omega
                case rel =>
                  obtain ⟨hown9, hg9, hat9⟩ := H9.out
                  have hba : Below wd.heap.size wd (wd.alloc (.cells #[.int .i64 tk, .int .i64 (f : Int), .int .i64 tt] 28)) := (Below.refl _ _).alloc (Nat.le_refl _) _
                  obtain ⟨p1, p2⟩ := (HTd.out.below hba).push hown9 hg9 hat9
                  have hkf : Kept (fun b => ¬ X b) w4 _ := HP101.out.trans ((Kept.of_below _ hba).trans p2)
                  refine ⟨0 + 1, o7 ++ [⟨tk, f, tt⟩], s7, hlt, by go_num, ?_, by rw [snoc_len]; have := HLOT.out.2.1; omega, by have := HLOT.out; omega, by rw [HQs7.out, List.getElem?_take, if_pos (by omega)]; exact HOl.out.2.2, ⟨_, _, p1.mono (fun b hb => HXl.out b hb)⟩, HX3.out _ hkf⟩
                  rw [HEL.out, HD.out, tokRun_ok (HSt.out)]
                  show _ = tokRun s ⟨ka, kb, kc⟩ (if 0 + 1 = 0 then none else l[0 + 1 - 1]?) _ _ _
                  rw [if_neg (by omega), Nat.add_sub_cancel, HGt.out]
              · have HSt : Hid (tokStep s ⟨ka, kb, kc⟩ (prevOf l 0) out stk ⟨tk, f, tt⟩ = .inr 3) := Lib.hid (by rw [HNw.out, HNs.out, if_neg (Int.not_lt.2 hgt)]; unfold tokEnd; rw [HKe.out, ← HQs7.out, if_neg (by rw [HLa.out]; exact hce)])
                go_wp2
                go_ret2
                exact retTok_err (by rw [HTk.out]; exact tokR_err (by rw [HEL.out, HD.out]; exact tokRun_err (HSt.out))) (QB_3.out.trans ((HX3.out _ HP101.out).to_below (fun b (h : ¬ b < w_2.heap.size) => by omega) QB_3.out.size))
      · obtain ⟨j', rfl⟩ : ∃ j', j = j' + 1 := ⟨j - 1, by omega⟩
        obtain ⟨p, hp⟩ := get_some (show j' < l.length by omega)
        have HPv : Hid (prevOf l (j' + 1) = some p) := Lib.hid (by unfold prevOf; rw [if_neg (by omega), Nat.add_sub_cancel, hp])
        obtain ⟨hp1, hp2, hp3, _⟩ := HV.out p (List.mem_of_getElem? hp)
        obtain ⟨b2, o2, hbe, hSp, hbp, pi0, pi1, pi2, p0, p1, p2, p2'⟩ := HE4.out.tok hp
        injection hbe with hbe
        injection hbe with e1 e2 _
        subst e1; subst e2
        obtain ⟨pk, pf, pt⟩ := p
        dsimp only at pi0 pi1 pi2 p0 p1 p2 p2' hp1 hp2 hp3
        obtain ⟨pn, rfl⟩ : ∃ pn : Nat, pf = (pn : Int) := ⟨pf.toNat, by omega⟩
        have hjp : (0 : Int) < (j' : Int) + 1 := by omega
        have HPn : Hid (pn ≤ s.size) := Lib.hid (by omega)
        have hj'0 : (0 : Int) ≤ (j' : Int) := by omega
        have hj4 : (j' : Int) ≤ 400 := by omega
        have hjb : -9223372036854775808 ≤ (j' : Int) ∧ (j' : Int) ≤ 9223372036854775807 := ⟨Int.le_trans (by decide) hj'0, Int.le_trans hj4 (by decide)⟩
        have hjw : IntKind.i64.wrap (j' : Int) = (j' : Int) := IntWalk.i64_in _ hjb
        have hjw2 : wrap64 (j' : Int) = (j' : Int) := IntWalk.wrap64_in _ hjb
        clear hjb
        have hj'l : j' < l.length := Nat.lt_of_succ_lt hlt
        have hpn1 : pn ≤ s.size := HPn.out
        have hss : s.size ≤ 1000000 := Nat.le_trans q1 (by decide)
        have HPi := Lib.hid (And.intro pi0 (And.intro pi1 pi2))
        clear hp pi0 pi1 pi2
        go_wp2_with fail
        refine (begin_any s pn hss hpn1 w4).mono ?_
        clear hjw hjw2
        rintro e w6 ⟨rfl, rfl⟩
        obtain ⟨ln2, hln2⟩ : ∃ q, q = lnl s pn := ⟨_, rfl⟩
        rw [← hln2]
        have HLn2 := Lib.hid hln2
        clear hln2
        by_cases hle : ln = ln2
        · subst hle
          clear t0 t1 t2 zt
          have t0 : w4.cell? ⟨wo.heap.size, 0, none⟩ = some (.int .i64 tk) := HB4.out.cell 0
          have t1 : w4.cell? ⟨wo.heap.size, 1, none⟩ = some (.int .i64 (f : Int)) := HB4.out.cell 1
          have t2 : w4.cell? ⟨wo.heap.size, 2, none⟩ = some (.int .i64 tt) := HB4.out.cell 2
          have zt : wo.heap.size < w4.heap.size := HB4.out.lt
          have o0 : w4.cell? ⟨w_2.heap.size, 0, none⟩ = some (.slice Ao0 out.length co0) := HT4.out.1.cell 0
          have fo := HT4.out.1.frozen 0
          have zo : w_2.heap.size < w4.heap.size := HT4.out.1.lt
          have HRd : Hid (Dat.rd (w4.alloc (.cells #[.int .i64 tk, .int .i64 (f : Int), .int .i64 tt] 28)) (OwnT (fun _ => False) (w_2.heap.size + 3) (.slice Ao0 out.length co0) (w4.alloc (.cells #[.int .i64 tk, .int .i64 (f : Int), .int .i64 tt] 28))) (⟨tk, f, tt⟩ : Tok) [.int .i64 tk, .int .i64 (f : Int), .int .i64 tt]) := Lib.hid ⟨rfl, HTi.out⟩
          have HOa := Lib.hid (HT4.out.2.2.1.alloc (.cells #[.int .i64 tk, .int .i64 (f : Int), .int .i64 tt] 28))
          have hcap1 : (out.length + 1) * 24 ≤ 140737488355328 := by have := HOl.out.1; omega
          have hcap2 : out.length + 1 ≤ 9223372036854775807 := by have := HOl.out.1; omega
          have hzz : w_2.heap.size + 3 ≤ (w4.alloc (.cells #[.int .i64 tk, .int .i64 (f : Int), .int .i64 tt] 28)).heap.size := by have := HT4.out.2.1.lt; simp; omega
          go_wp2_with ((at_builtin); (refine wpList_own1 _ rfl _ _ elemTok rfl rfl HOa.out ⟨tk, f, tt⟩ [.int .i64 tk, .int .i64 (f : Int), .int .i64 tt] rfl (At.new _ _ _) HRd.out hcap1 hcap2 hzz ?_); (intro v' w9 hown9 hg9 hat9); (obtain ⟨A9, k9, hv9, _⟩ := hown9.form); (rw [snoc_len] at hv9); (subst hv9); (have hO9 := (HT4.out.1.alloc (.cells #[.int .i64 tk, .int .i64 (f : Int), .int .i64 tt] 28)).grown hg9 (fun e => by have h9 := (HOa.out.block _ e.symm).1; omega)); (have m9 := hO9.cell 0); (have f9 := hO9.frozen 0); (have z9 := hO9.lt); (have H9 := Lib.hid (And.intro hown9 (And.intro hg9 hat9))); (clear hown9 hg9 hat9 hO9); (try simp at m9))
          go_roundw
          case measure => simp [intOf]; omega
          case rel =>
            obtain ⟨hown9, hg9, hat9⟩ := H9.out
            have hba : Below w4.heap.size w4 (w4.alloc (.cells #[.int .i64 tk, .int .i64 (f : Int), .int .i64 tt] 28)) := (Below.refl _ _).alloc (Nat.le_refl _) _
            obtain ⟨p1, p2⟩ := (HT4.out.below hba).push hown9 hg9 hat9
            have hkf : Kept (fun b => ¬ X b) w4 _ := ((Kept.of_below _ hba).trans p2)
            refine ⟨(j' + 1) + 1, out ++ [⟨tk, f, tt⟩], stk, hlt, by go_num, ?_, by rw [snoc_len]; have := HOl.out.1; omega, HOl.out.2.1, HOl.out.2.2, ⟨_, _, p1.mono (fun b hb => HXl.out b hb)⟩, HX3.out _ hkf⟩
            rw [HEL.out, HD.out, tokRun_ok (by rw [HPv.out]; unfold tokStep; dsimp only; rw [if_pos (by rw [Int.toNat_natCast, Int.toNat_natCast, ← HLn.out, HLn2.out])])]
            show _ = tokRun s ⟨ka, kb, kc⟩ (if (j' + 1) + 1 = 0 then none else l[(j' + 1) + 1 - 1]?) _ _ _
            rw [if_neg (by omega), Nat.add_sub_cancel, HGt.out]
        · have hle2 : ¬ (ln : Int) = (ln2 : Int) := by omega
          clear t0 t1 t2 zt
          have t0 : w4.cell? ⟨wo.heap.size, 0, none⟩ = some (.int .i64 tk) := HB4.out.cell 0
          have t1 : w4.cell? ⟨wo.heap.size, 1, none⟩ = some (.int .i64 (f : Int)) := HB4.out.cell 1
          have t2 : w4.cell? ⟨wo.heap.size, 2, none⟩ = some (.int .i64 tt) := HB4.out.cell 2
          have zt : wo.heap.size < w4.heap.size := HB4.out.lt
          obtain ⟨col, hcol⟩ : ∃ col : Int, col = (f : Int) - (ln : Int) := ⟨_, rfl⟩
          have hwc : IntKind.i64.wrap ((f : Int) - (ln : Int)) = col := by rw [hcol]; exact IntWalk.i64_in _ (by omega)
          have hwc2 : wrap64 ((f : Int) - (ln : Int)) = col := by rw [hcol]; exact IntWalk.wrap64_in _ (by omega)
          have hc0 : 0 ≤ col := by omega
          have hc4 : col ≤ 4000 := by omega
          have HCo : Hid (col = (f : Int) - (lnl s f : Nat)) := Lib.hid (by rw [hcol, ← HLn.out])
          clear hcol
          go_wp2_with fail
          refine (ladd_any ⟨ka, kb, kc⟩ 2 pt w.heap.size w4 HT4.out (by omega) HK.out HPi.out.2.2 (by have := HOl.out.1; omega) HK4.out).mono ?_
          rintro e w56 ⟨rfl, ⟨vo6, htv⟩, hkx⟩
          clear t0 t1 t2 zt
          obtain ⟨out1, hqout1⟩ : ∃ q, q = out ++ [⟨kc, pt, pt⟩] := ⟨_, rfl⟩
          have HQout1 := Lib.hid hqout1
          clear hqout1
          have HU6 : Hid (TkV X w_2.heap.size out1 stk vo6 (.slice (some ⟨g0, 0, none⟩) stk.length cs0) w56) := Lib.hid (by rw [HQout1.out]; exact htv)
          have HB107 := Lib.hid (HB4.out.kept hkx (fun h => h HXt.out))
          have HK107 := Lib.hid (HK4.out.kept hkx (fun h => h (HXl.out _ (by omega))))
          have HE107 := Lib.hid (HE4.out.kept hkx (fun b hb h => h (HXl.out _ (by have := HS.out b hb; omega))))
          have HP107 : Hid (Kept (fun b => ¬ X b) w4 w56) := Lib.hid (hkx)
          have hsz107 : w4.heap.size ≤ w56.heap.size := (hkx).size
          have HKx := Lib.hid hkx
          clear htv hkx
          obtain ⟨Ao7, co7, rfl, hco7, hcp7, _⟩ := HU6.out.2.2.1.form
          have t0 : w56.cell? ⟨wo.heap.size, 0, none⟩ = some (.int .i64 tk) := HB107.out.cell 0
          have t1 : w56.cell? ⟨wo.heap.size, 1, none⟩ = some (.int .i64 (f : Int)) := HB107.out.cell 1
          have t2 : w56.cell? ⟨wo.heap.size, 2, none⟩ = some (.int .i64 tt) := HB107.out.cell 2
          have zt : wo.heap.size < w56.heap.size := HB107.out.lt
          have HNw : Hid (tokStep s ⟨ka, kb, kc⟩ (prevOf l (j' + 1)) out stk ⟨tk, f, tt⟩ = tokNew s ⟨ka, kb, kc⟩ false out1 stk ⟨tk, f, tt⟩) := Lib.hid (by rw [HPv.out]; unfold tokStep; dsimp only; rw [if_neg (by simp only [Int.toNat_natCast]; rw [← HLn.out, ← HLn2.out]; exact hle), HQout1.out])
          have hsne : stk ≠ [] := fun e => by have h1 := HOl.out.2.2; rw [e] at h1; cases h1
          obtain ⟨lt, hlt2⟩ : ∃ lt, lt = lastD stk := ⟨_, rfl⟩
          have HLt := Lib.hid hlt2
          clear hlt2
          have HNs : Hid (tokNew s ⟨ka, kb, kc⟩ false out1 stk ⟨tk, f, tt⟩ = if lt < col then (if false then .inr 3 else if 20 < stk.length then .inr 11 else tokEnd ⟨ka, kb, kc⟩ ⟨tk, f, tt⟩ col (out1 ++ [⟨ka, f, f⟩]) (stk ++ [col])) else tokEnd ⟨ka, kb, kc⟩ ⟨tk, f, tt⟩ col out1 stk) := Lib.hid (by unfold tokNew; dsimp only; rw [Int.toNat_natCast, ← HCo.out, ← HLt.out])
          go_wp2_with fail
          refine (ltop_any w56 HU6.out hsne).mono ?_
          rintro e w7 ⟨rfl, rfl⟩
          rw [← HLt.out]
          by_cases hgt : lt < col
          · skip
            go_wp2_with fail
            refine (ltop_any w56 HU6.out hsne).mono ?_
            rintro e w7 ⟨rfl, rfl⟩
            rw [← HLt.out]
            have s0 : w56.cell? ⟨w_2.heap.size + 2, 0, none⟩ = some (.slice (some ⟨g0, 0, none⟩) stk.length cs0) := HU6.out.2.1.cell 0
            have zs : w_2.heap.size + 2 < w56.heap.size := HU6.out.2.1.lt
            have fs := HU6.out.2.1.frozen 0
            by_cases h20 : (20 : Int) < (stk.length : Int)
            · skip
              go_wp2
              go_ret2
              exact retTok_err (by rw [HTk.out]; exact tokR_err (by rw [HEL.out, HD.out]; exact tokRun_err (by rw [HNw.out, HNs.out, if_pos hgt, if_neg (by decide), if_pos (by omega)]))) (QB_3.out.trans ((HX3.out _ HP107.out).to_below (fun b (h : ¬ b < w_2.heap.size) => by omega) QB_3.out.size))
            · skip
              go_wp2_with fail
              refine (ltop_any w56 HU6.out hsne).mono ?_
              rintro e w7 ⟨rfl, rfl⟩
              rw [← HLt.out]
              have HRs : Hid (Dat.rd (w56.alloc (.cells #[.int .i64 col] 3)) (OwnT (fun _ => False) (w_2.heap.size + 1) (.slice (some ⟨g0, 0, none⟩) stk.length cs0) (w56.alloc (.cells #[.int .i64 col] 3))) (col : Int) [.int .i64 col]) := Lib.hid ⟨rfl, by unfold I64; omega⟩
              have HOs := Lib.hid (HU6.out.2.2.2.1.alloc (.cells #[.int .i64 col] 3))
              have hcap3 : (stk.length + 1) * 8 ≤ 140737488355328 := by omega
              have hcap4 : stk.length + 1 ≤ 9223372036854775807 := by omega
              have hzz3 : w_2.heap.size + 1 ≤ (w56.alloc (.cells #[.int .i64 col] 3)).heap.size := by simp; omega
              go_upto_region 23 with (at_builtin; (refine wpList_own1 _ rfl _ _ elemInt rfl rfl HOs.out col [.int .i64 col] rfl (At.new _ _ _) HRs.out hcap3 hcap4 hzz3 ?_); (intro v' w9 hown9 hg9 hat9); (obtain ⟨A9, k9, hv9, hcc9, hcd9, hff9⟩ := hown9.form); (rw [snoc_len] at hv9); (subst hv9); (have hO9 := (HU6.out.2.1.alloc (.cells #[.int .i64 col] 3)).grown hg9 (fun e => HU6.out.2.2.2.2.1 _ e.symm rfl)); (have m9 := hO9.cell 0); (have f9 := hO9.frozen 0); (have z9 := hO9.lt); (have H9 := Lib.hid (And.intro hown9 (And.intro hg9 hat9))); (clear hown9 hg9 hat9 hO9 hff9 hcc9 hcd9); (try simp at m9))
              clear t0 t1 t2 zt s0 zs fs
              obtain ⟨hown9, hg9, hat9⟩ := H9.out
              have hba : Below w56.heap.size w56 (w56.alloc (.cells #[.int .i64 col] 3)) := (Below.refl _ _).alloc (Nat.le_refl _) _
              obtain ⟨p1, p2⟩ := (HU6.out.below hba).pushS hown9 hg9 hat9
              have hk9 := (Kept.of_below (fun b => ¬ X b) hba).trans p2
              obtain ⟨wp, hwp⟩ : ∃ wp : World, wp = w9.setCell ⟨w_2.heap.size + 2, 0, none⟩ (.slice A9 (stk.length + 1) k9) := ⟨_, rfl⟩
              rw [← hwp] at p1 hk9
              rw [← hwp]
              obtain ⟨stk2, hqstk2⟩ : ∃ q, q = stk ++ [col] := ⟨_, rfl⟩
              have HQstk2 := Lib.hid hqstk2
              clear hqstk2
              have hsl2 : stk2.length = stk.length + 1 := by rw [HQstk2.out, snoc_len]
              rw [← hsl2] at p1
              rw [← HQstk2.out] at p1
              have HTp := Lib.hid p1
              have HWp := Lib.hid hwp
              have HB108 := Lib.hid (HB107.out.kept hk9 (fun h => h HXt.out))
              have HK108 := Lib.hid (HK107.out.kept hk9 (fun h => h (HXl.out _ (by omega))))
              have HE108 := Lib.hid (HE107.out.kept hk9 (fun b hb h => h (HXl.out _ (by have := HS.out b hb; omega))))
              have HP108 : Hid (Kept (fun b => ¬ X b) w4 wp) := Lib.hid (HP107.out.trans hk9)
              have hsz108 : w56.heap.size ≤ wp.heap.size := (hk9).size
              clear hown9 hg9 hat9 hba p1 p2 hk9 hwp H9 m9 f9
              have t0 : wp.cell? ⟨wo.heap.size, 0, none⟩ = some (.int .i64 tk) := HB108.out.cell 0
              have t1 : wp.cell? ⟨wo.heap.size, 1, none⟩ = some (.int .i64 (f : Int)) := HB108.out.cell 1
              have t2 : wp.cell? ⟨wo.heap.size, 2, none⟩ = some (.int .i64 tt) := HB108.out.cell 2
              have zt : wo.heap.size < wp.heap.size := HB108.out.lt
              go_wp2_with fail
              refine (ladd_any ⟨ka, kb, kc⟩ 0 f w.heap.size wp HTp.out (by omega) HK.out HTi.out.2.1 (by rw [HQout1.out, snoc_len]; have := HOl.out.1; omega) HK108.out).mono ?_
              rintro e w59 ⟨rfl, ⟨vo9, htv⟩, hkx⟩
              clear t0 t1 t2 zt
              obtain ⟨out2, hqout2⟩ : ∃ q, q = out1 ++ [⟨ka, f, f⟩] := ⟨_, rfl⟩
              have HQout2 := Lib.hid hqout2
              clear hqout2
              have HU9 : Hid (TkV X w_2.heap.size out2 stk2 vo9 (.slice A9 stk2.length k9) w59) := Lib.hid (by rw [HQout2.out]; exact htv)
              have HB110 := Lib.hid (HB108.out.kept hkx (fun h => h HXt.out))
              have HK110 := Lib.hid (HK108.out.kept hkx (fun h => h (HXl.out _ (by omega))))
              have HE110 := Lib.hid (HE108.out.kept hkx (fun b hb h => h (HXl.out _ (by have := HS.out b hb; omega))))
              have HP110 : Hid (Kept (fun b => ¬ X b) w4 w59) := Lib.hid (HP108.out.trans hkx)
              have hsz110 : wp.heap.size ≤ w59.heap.size := (hkx).size
              have HKx := Lib.hid hkx
              clear htv hkx
              obtain ⟨Ao10, co10, rfl, hco10, hcp10, _⟩ := HU9.out.2.2.1.form
              obtain ⟨d, hd⟩ : ∃ d : Tok, d = ⟨kb, f, f⟩ := ⟨_, rfl⟩
              have HDd := Lib.hid hd
              clear hd
              have hst0 : TkD X w_2.heap.size out2 stk2 col d w59 stk2.length w59 := ⟨by omega, Nat.le_refl _, ⟨_, _, by rw [Nat.sub_self, List.replicate_zero, List.append_nil, List.take_length]; exact HU9.out⟩, rfl, Kept.refl _ _⟩
              have HS0 := Lib.hid hst0
              clear hst0
              go_wp2_with fail
              go_loopg [] stk2.length (fun m wr => TkD X w_2.heap.size out2 stk2 col d w59 m wr)
              case atStart => exact HS0.out
              case round =>
                obtain ⟨wd, hwd⟩ : ∃ wd : World, wd = wr := ⟨_, rfl⟩
                subst hwd
                obtain ⟨hm1, hm2, ⟨vo7, vs7, htd⟩, hkn, hkd⟩ := hrel
                obtain ⟨m, rfl⟩ : ∃ m, gk = m + 1 := ⟨gk - 1, by omega⟩
                obtain ⟨x, hx⟩ := get_some (show m < stk2.length by omega)
                have HTd := Lib.hid htd
                have HKn := Lib.hid (And.intro hx hkn)
                have hkd2 := hkd
                clear htd hx hkn
                have HB111 := Lib.hid (HB110.out.kept hkd2 (fun h => h HXt.out))
                have HK111 := Lib.hid (HK110.out.kept hkd2 (fun h => h (HXl.out _ (by omega))))
                have HE111 := Lib.hid (HE110.out.kept hkd2 (fun b hb h => h (HXl.out _ (by have := HS.out b hb; omega))))
                have HP111 : Hid (Kept (fun b => ¬ X b) w4 wd) := Lib.hid (HP110.out.trans hkd2)
                have hsz111 : w59.heap.size ≤ wd.heap.size := (hkd2).size
                have HKd := Lib.hid hkd
                clear hkd hkd2
                obtain ⟨o7, hqo7⟩ : ∃ q, q = out2 ++ List.replicate (stk2.length - (m + 1)) d := ⟨_, rfl⟩
                have HQo7 := Lib.hid hqo7
                clear hqo7
                obtain ⟨s7, hqs7⟩ : ∃ q, q = stk2.take (m + 1) := ⟨_, rfl⟩
                have HQs7 := Lib.hid hqs7
                clear hqs7
                rw [← HQo7.out, ← HQs7.out] at HTd
                have hs7 : s7.length = m + 1 := by rw [HQs7.out, List.length_take]; omega
                have hla : lastD s7 = x := by rw [HQs7.out]; exact lastD_take HKn.out.1
                have HLa := Lib.hid hla
                have ho7 : o7.length ≤ 30 * (j' + 1) + 23 := by rw [HQo7.out, List.length_append, List.length_replicate]; rw [HQout2.out, snoc_len, HQout1.out, snoc_len]; have := HOl.out.1; omega
                clear hla
                have HLOT := Lib.hid (And.intro hs7 (And.intro ho7 (And.intro hm2 hm1)))
                clear hs7 ho7 hm2 hm1
                obtain ⟨Ao12, co12, rfl, hco12, hcp12, _⟩ := HTd.out.2.2.1.form
                obtain ⟨As12, cs12, rfl, hcs12, hct12, hfs12⟩ := HTd.out.2.2.2.1.form
                obtain ⟨g12, rfl, _, _⟩ : ∃ g, As12 = some ⟨g, 0, none⟩ ∧ True ∧ True := by
                  rcases hfs12 with h | ⟨g, h, _, _⟩
                  · exact absurd h (fun e => by have hs7 := HLOT.out.1; rw [e] at hs7; cases hs7)
                  · exact ⟨g, h, trivial, trivial⟩
                clear hfs12
                have t0 : wd.cell? ⟨wo.heap.size, 0, none⟩ = some (.int .i64 tk) := HB111.out.cell 0
                have t1 : wd.cell? ⟨wo.heap.size, 1, none⟩ = some (.int .i64 (f : Int)) := HB111.out.cell 1
                have t2 : wd.cell? ⟨wo.heap.size, 2, none⟩ = some (.int .i64 tt) := HB111.out.cell 2
                have zt : wo.heap.size < wd.heap.size := HB111.out.lt
                have s0 : wd.cell? ⟨w_2.heap.size + 2, 0, none⟩ = some (.slice (some ⟨g12, 0, none⟩) s7.length cs12) := HTd.out.2.1.cell 0
                have fs := HTd.out.2.1.frozen 0
                have zs : w_2.heap.size + 2 < wd.heap.size := HTd.out.2.1.lt
                go_wp2_with fail
                refine (ltop_any wd HTd.out (fun e => by have hs7 := HLOT.out.1; rw [e] at hs7; cases hs7)).mono ?_
                rintro e w7 ⟨rfl, rfl⟩
                rw [HLa.out]
                by_cases hcx : col < x
                · have hmm : 1 ≤ m := by
                    have hm2 := HLOT.out.2.2.1
                    have h1 := keepN_pos (stk := stk2) (c := col) (by rw [HQstk2.out, List.getElem?_append_left (by have := List.length_pos_iff.2 hsne; omega)]; exact HOl.out.2.2) hc0 (m + 1) (by omega)
                    rw [keepN_hit HKn.out.1 hcx] at h1
                    have := keepN_le col stk2 m
                    omega
                  have hm0 : (0 : Int) ≤ (m : Int) := by omega
                  have hm3 : (m : Int) ≤ (cs12 : Int) := by rw [HLOT.out.1] at hcs12; omega
                  have hmw : IntKind.i64.wrap (m : Int) = (m : Int) := IntWalk.i64_in _ (by omega)
                  have hmw2 : wrap64 (m : Int) = (m : Int) := IntWalk.wrap64_in _ (by omega)
                  have hm7 : m ≤ s7.length := by rw [HLOT.out.1]; exact Nat.le_succ m
                  obtain ⟨p1, p2⟩ := HTd.out.pop hm7
                  clear hm7
                  have HP1 := Lib.hid p1
                  have HP2 := Lib.hid p2
                  clear p1 p2
                  obtain ⟨w8, hw8⟩ : ∃ w8 : World, w8 = wd.setCell ⟨w_2.heap.size + 2, 0, none⟩ (.slice (some ⟨g12, 0, none⟩) m cs12) := ⟨_, rfl⟩
                  rw [← hw8] at HP1 HP2
                  have HW8 := Lib.hid hw8
                  clear hw8
                  have HB113 := Lib.hid (HB111.out.kept HP2.out (fun h => h HXt.out))
                  have HK113 := Lib.hid (HK111.out.kept HP2.out (fun h => h (HXl.out _ (by omega))))
                  have HE113 := Lib.hid (HE111.out.kept HP2.out (fun b hb h => h (HXl.out _ (by have := HS.out b hb; omega))))
                  have HP113 : Hid (Kept (fun b => ¬ X b) w4 w8) := Lib.hid (HP111.out.trans HP2.out)
                  have hsz113 : wd.heap.size ≤ w8.heap.size := (HP2.out).size
                  rw [HLOT.out.1] at s0
                  have HLO2 := Lib.hid (And.intro hmm hcx)
                  clear hmm
                  go_upto_region 26 with (fail)
                  rw [← HW8.out]
                  clear hcx
                  clear t0 t1 t2 zt s0 fs zs
                  have t0 : w8.cell? ⟨wo.heap.size, 0, none⟩ = some (.int .i64 tk) := HB113.out.cell 0
                  have t1 : w8.cell? ⟨wo.heap.size, 1, none⟩ = some (.int .i64 (f : Int)) := HB113.out.cell 1
                  have t2 : w8.cell? ⟨wo.heap.size, 2, none⟩ = some (.int .i64 tt) := HB113.out.cell 2
                  have zt : wo.heap.size < w8.heap.size := HB113.out.lt
                  go_wp2_with fail
                  refine (ladd_any ⟨ka, kb, kc⟩ 1 f w.heap.size w8 HP1.out (by omega) HK.out HTi.out.2.1 (by have := HLOT.out.2.1; omega) HK113.out).mono ?_
                  rintro e w514 ⟨rfl, ⟨vo14, htv⟩, hkx⟩
                  clear t0 t1 t2 zt
                  obtain ⟨o8, hqo8⟩ : ∃ q, q = o7 ++ [⟨kb, f, f⟩] := ⟨_, rfl⟩
                  have HQo8 := Lib.hid hqo8
                  clear hqo8
                  have HU14 : Hid (TkV X w_2.heap.size o8 (s7.take m) vo14 (.slice (some ⟨g12, 0, none⟩) m cs12) w514) := Lib.hid (by rw [HQo8.out]; exact htv)
                  have HB115 := Lib.hid (HB113.out.kept hkx (fun h => h HXt.out))
                  have HK115 := Lib.hid (HK113.out.kept hkx (fun h => h (HXl.out _ (by omega))))
                  have HE115 := Lib.hid (HE113.out.kept hkx (fun b hb h => h (HXl.out _ (by have := HS.out b hb; omega))))
                  have HP115 : Hid (Kept (fun b => ¬ X b) w4 w514) := Lib.hid (HP113.out.trans hkx)
                  have hsz115 : w8.heap.size ≤ w514.heap.size := (hkx).size
                  have HKx := Lib.hid hkx
                  clear htv hkx
                  go_wp2_with fail
                  obtain ⟨hs7, ho7, hm2, hm1⟩ := HLOT.out
                  obtain ⟨hmm, hcx⟩ := HLO2.out
                  go_roundg m
                  case measure => omega
                  case rel =>
                    have e0 : o8 = o7 ++ [d] := by rw [HQo8.out, HDd.out]
                    have e1 := tkd_out hm2 HQo7.out e0
                    have e2 := tkd_stk HQs7.out
                    have e3 := HKd.out.trans (HP2.out.trans HKx.out)
                    have e4 : m ≤ stk2.length := Nat.le_of_succ_le hm2
                    have e5 : keepN col stk2 m = keepN col stk2 stk2.length := (keepN_hit HKn.out.1 hcx).symm.trans HKn.out.2
                    have e6 := HU14.out
                    rw [← e1, ← e2] at e6
                    exact ⟨hmm, e4, ⟨_, _, e6⟩, e5, e3⟩
                · have HKe : Hid (keepN col stk2 stk2.length = m + 1) := Lib.hid (by rw [← HKn.out.2]; exact keepN_stop HKn.out.1 hcx)
                  go_wp2_with fail
                  refine (ltop_any wd HTd.out (fun e => by have hs7 := HLOT.out.1; rw [e] at hs7; cases hs7)).mono ?_
                  rintro e w7 ⟨rfl, rfl⟩
                  rw [HLa.out]
                  by_cases hce : col = x
                  · have HSt : Hid (tokStep s ⟨ka, kb, kc⟩ (prevOf l (j' + 1)) out stk ⟨tk, f, tt⟩ = .inl (o7 ++ [⟨tk, f, tt⟩], s7)) := Lib.hid (by rw [HNw.out, HNs.out, if_pos hgt, if_neg (by decide), if_neg (by omega), ← HQout2.out, ← HQstk2.out]; unfold tokEnd; rw [HKe.out, ← HQs7.out, if_pos (by rw [HLa.out]; exact hce), HQo7.out, HDd.out])
                    have hne : ¬ col ≠ x := fun h => h hce
                    subst hce
                    have t0 : wd.cell? ⟨wo.heap.size, 0, none⟩ = some (.int .i64 tk) := HB111.out.cell 0
                    have t1 : wd.cell? ⟨wo.heap.size, 1, none⟩ = some (.int .i64 (f : Int)) := HB111.out.cell 1
                    have t2 : wd.cell? ⟨wo.heap.size, 2, none⟩ = some (.int .i64 tt) := HB111.out.cell 2
                    have zt : wo.heap.size < wd.heap.size := HB111.out.lt
                    have o0 : wd.cell? ⟨w_2.heap.size, 0, none⟩ = some (.slice Ao12 o7.length co12) := HTd.out.1.cell 0
                    have fo := HTd.out.1.frozen 0
                    have zo : w_2.heap.size < wd.heap.size := HTd.out.1.lt
                    have HRd : Hid (Dat.rd (wd.alloc (.cells #[.int .i64 tk, .int .i64 (f : Int), .int .i64 tt] 28)) (OwnT (fun _ => False) (w_2.heap.size + 3) (.slice Ao12 o7.length co12) (wd.alloc (.cells #[.int .i64 tk, .int .i64 (f : Int), .int .i64 tt] 28))) (⟨tk, f, tt⟩ : Tok) [.int .i64 tk, .int .i64 (f : Int), .int .i64 tt]) := Lib.hid ⟨rfl, HTi.out⟩
                    have HOa := Lib.hid (HTd.out.2.2.1.alloc (.cells #[.int .i64 tk, .int .i64 (f : Int), .int .i64 tt] 28))
                    have hcap1 : (o7.length + 1) * 24 ≤ 140737488355328 := by have := HLOT.out.2.1; omega
                    have hcap2 : o7.length + 1 ≤ 9223372036854775807 := by have := HLOT.out.2.1; omega
                    have hzz : w_2.heap.size + 3 ≤ (wd.alloc (.cells #[.int .i64 tk, .int .i64 (f : Int), .int .i64 tt] 28)).heap.size := by have := HTd.out.2.1.lt; simp; omega
                    go_wp2_with ((at_builtin); (refine wpList_own1 _ rfl _ _ elemTok rfl rfl HOa.out ⟨tk, f, tt⟩ [.int .i64 tk, .int .i64 (f : Int), .int .i64 tt] rfl (At.new _ _ _) HRd.out hcap1 hcap2 hzz ?_); (intro v' w9 hown9 hg9 hat9); (obtain ⟨A9, k9, hv9, _⟩ := hown9.form); (rw [snoc_len] at hv9); (subst hv9); (have hO9 := (HTd.out.1.alloc (.cells #[.int .i64 tk, .int .i64 (f : Int), .int .i64 tt] 28)).grown hg9 (fun e => by have h9 := (HOa.out.block _ e.symm).1; omega)); (have m9 := hO9.cell 0); (have f9 := hO9.frozen 0); (have z9 := hO9.lt); (have H9 := Lib.hid (And.intro hown9 (And.intro hg9 hat9))); (clear hown9 hg9 hat9 hO9); (try simp at m9))
                    go_roundw
                    case measure => simp [intOf]; omega
                    case rel =>
                      obtain ⟨hown9, hg9, hat9⟩ := H9.out
                      have hba : Below wd.heap.size wd (wd.alloc (.cells #[.int .i64 tk, .int .i64 (f : Int), .int .i64 tt] 28)) := (Below.refl _ _).alloc (Nat.le_refl _) _
                      obtain ⟨p1, p2⟩ := (HTd.out.below hba).push hown9 hg9 hat9
                      have hkf : Kept (fun b => ¬ X b) w4 _ := HP111.out.trans ((Kept.of_below _ hba).trans p2)
                      refine ⟨(j' + 1) + 1, o7 ++ [⟨tk, f, tt⟩], s7, hlt, by go_num, ?_, by rw [snoc_len]; have := HLOT.out.2.1; omega, by have := HLOT.out; omega, by rw [HQs7.out, List.getElem?_take, if_pos (by omega)]; exact (by rw [HQstk2.out, List.getElem?_append_left (by have := List.length_pos_iff.2 hsne; omega)]; exact HOl.out.2.2), ⟨_, _, p1.mono (fun b hb => HXl.out b hb)⟩, HX3.out _ hkf⟩
                      rw [HEL.out, HD.out, tokRun_ok (HSt.out)]
                      show _ = tokRun s ⟨ka, kb, kc⟩ (if (j' + 1) + 1 = 0 then none else l[(j' + 1) + 1 - 1]?) _ _ _
                      rw [if_neg (by omega), Nat.add_sub_cancel, HGt.out]
                  · have HSt : Hid (tokStep s ⟨ka, kb, kc⟩ (prevOf l (j' + 1)) out stk ⟨tk, f, tt⟩ = .inr 3) := Lib.hid (by rw [HNw.out, HNs.out, if_pos hgt, if_neg (by decide), if_neg (by omega), ← HQout2.out, ← HQstk2.out]; unfold tokEnd; rw [HKe.out, ← HQs7.out, if_neg (by rw [HLa.out]; exact hce)])
                    go_wp2
                    go_ret2
                    exact retTok_err (by rw [HTk.out]; exact tokR_err (by rw [HEL.out, HD.out]; exact tokRun_err (HSt.out))) (QB_3.out.trans ((HX3.out _ HP111.out).to_below (fun b (h : ¬ b < w_2.heap.size) => by omega) QB_3.out.size))
          · skip
            have hsl21 : stk.length ≤ 21 := HOl.out.2.1
            go_wp2_with fail
            refine (ltop_any w56 HU6.out hsne).mono ?_
            rintro e w7 ⟨rfl, rfl⟩
            rw [← HLt.out]
            go_wp2_with fail
            refine (ltop_any w56 HU6.out hsne).mono ?_
            rintro e w7 ⟨rfl, rfl⟩
            rw [← HLt.out]
            obtain ⟨d, hd⟩ : ∃ d : Tok, d = ⟨kb, f, f⟩ := ⟨_, rfl⟩
            have HDd := Lib.hid hd
            clear hd
            have hst0 : TkD X w_2.heap.size out1 stk col d w56 stk.length w56 := ⟨by exact List.length_pos_iff.2 hsne, Nat.le_refl _, ⟨_, _, by rw [Nat.sub_self, List.replicate_zero, List.append_nil, List.take_length]; exact HU6.out⟩, rfl, Kept.refl _ _⟩
            have HS0 := Lib.hid hst0
            clear hst0
            go_wp2_with fail
            go_loopg [] stk.length (fun m wr => TkD X w_2.heap.size out1 stk col d w56 m wr)
            case atStart => exact HS0.out
            case round =>
              obtain ⟨wd, hwd⟩ : ∃ wd : World, wd = wr := ⟨_, rfl⟩
              subst hwd
              obtain ⟨hm1, hm2, ⟨vo7, vs7, htd⟩, hkn, hkd⟩ := hrel
              obtain ⟨m, rfl⟩ : ∃ m, gk = m + 1 := ⟨gk - 1, by omega⟩
              obtain ⟨x, hx⟩ := get_some (show m < stk.length by omega)
              have HTd := Lib.hid htd
              have HKn := Lib.hid (And.intro hx hkn)
              have hkd2 := hkd
              clear htd hx hkn
              have HB116 := Lib.hid (HB107.out.kept hkd2 (fun h => h HXt.out))
              have HK116 := Lib.hid (HK107.out.kept hkd2 (fun h => h (HXl.out _ (by omega))))
              have HE116 := Lib.hid (HE107.out.kept hkd2 (fun b hb h => h (HXl.out _ (by have := HS.out b hb; omega))))
              have HP116 : Hid (Kept (fun b => ¬ X b) w4 wd) := Lib.hid (HP107.out.trans hkd2)
              have hsz116 : w56.heap.size ≤ wd.heap.size := (hkd2).size
              have HKd := Lib.hid hkd
              clear hkd hkd2
              obtain ⟨o7, hqo7⟩ : ∃ q, q = out1 ++ List.replicate (stk.length - (m + 1)) d := ⟨_, rfl⟩
              have HQo7 := Lib.hid hqo7
              clear hqo7
              obtain ⟨s7, hqs7⟩ : ∃ q, q = stk.take (m + 1) := ⟨_, rfl⟩
              have HQs7 := Lib.hid hqs7
              clear hqs7
              rw [← HQo7.out, ← HQs7.out] at HTd
              have hs7 : s7.length = m + 1 := by rw [HQs7.out, List.length_take]; omega
              have hla : lastD s7 = x := by rw [HQs7.out]; exact lastD_take HKn.out.1
              have HLa := Lib.hid hla
              have ho7 : o7.length ≤ 30 * (j' + 1) + 23 := by rw [HQo7.out, List.length_append, List.length_replicate]; rw [HQout1.out, snoc_len]; have := HOl.out.1; omega
              clear hla
              have HLOT := Lib.hid (And.intro hs7 (And.intro ho7 (And.intro hm2 hm1)))
              clear hs7 ho7 hm2 hm1
              obtain ⟨Ao17, co17, rfl, hco17, hcp17, _⟩ := HTd.out.2.2.1.form
              obtain ⟨As17, cs17, rfl, hcs17, hct17, hfs17⟩ := HTd.out.2.2.2.1.form
              obtain ⟨g17, rfl, _, _⟩ : ∃ g, As17 = some ⟨g, 0, none⟩ ∧ True ∧ True := by
                rcases hfs17 with h | ⟨g, h, _, _⟩
                · exact absurd h (fun e => by have hs7 := HLOT.out.1; rw [e] at hs7; cases hs7)
                · exact ⟨g, h, trivial, trivial⟩
              clear hfs17
              have t0 : wd.cell? ⟨wo.heap.size, 0, none⟩ = some (.int .i64 tk) := HB116.out.cell 0
              have t1 : wd.cell? ⟨wo.heap.size, 1, none⟩ = some (.int .i64 (f : Int)) := HB116.out.cell 1
              have t2 : wd.cell? ⟨wo.heap.size, 2, none⟩ = some (.int .i64 tt) := HB116.out.cell 2
              have zt : wo.heap.size < wd.heap.size := HB116.out.lt
              have s0 : wd.cell? ⟨w_2.heap.size + 2, 0, none⟩ = some (.slice (some ⟨g17, 0, none⟩) s7.length cs17) := HTd.out.2.1.cell 0
              have fs := HTd.out.2.1.frozen 0
              have zs : w_2.heap.size + 2 < wd.heap.size := HTd.out.2.1.lt
              go_wp2_with fail
              refine (ltop_any wd HTd.out (fun e => by have hs7 := HLOT.out.1; rw [e] at hs7; cases hs7)).mono ?_
              rintro e w7 ⟨rfl, rfl⟩
              rw [HLa.out]
              by_cases hcx : col < x
              · have hmm : 1 ≤ m := by
                  have hm2 := HLOT.out.2.2.1
                  have h1 := keepN_pos (stk := stk) (c := col) HOl.out.2.2 hc0 (m + 1) (by omega)
                  rw [keepN_hit HKn.out.1 hcx] at h1
                  have := keepN_le col stk m
                  omega
                have hm0 : (0 : Int) ≤ (m : Int) := by omega
                have hm3 : (m : Int) ≤ (cs17 : Int) := by rw [HLOT.out.1] at hcs17; omega
                have hmw : IntKind.i64.wrap (m : Int) = (m : Int) := IntWalk.i64_in _ (by omega)
                have hmw2 : wrap64 (m : Int) = (m : Int) := IntWalk.wrap64_in _ (by omega)
                have hm7 : m ≤ s7.length := by rw [HLOT.out.1]; exact Nat.le_succ m
                obtain ⟨p1, p2⟩ := HTd.out.pop hm7
                clear hm7
                have HP1 := Lib.hid p1
                have HP2 := Lib.hid p2
                clear p1 p2
                obtain ⟨w8, hw8⟩ : ∃ w8 : World, w8 = wd.setCell ⟨w_2.heap.size + 2, 0, none⟩ (.slice (some ⟨g17, 0, none⟩) m cs17) := ⟨_, rfl⟩
                rw [← hw8] at HP1 HP2
                have HW8 := Lib.hid hw8
                clear hw8
                have HB118 := Lib.hid (HB116.out.kept HP2.out (fun h => h HXt.out))
                have HK118 := Lib.hid (HK116.out.kept HP2.out (fun h => h (HXl.out _ (by omega))))
                have HE118 := Lib.hid (HE116.out.kept HP2.out (fun b hb h => h (HXl.out _ (by have := HS.out b hb; omega))))
                have HP118 : Hid (Kept (fun b => ¬ X b) w4 w8) := Lib.hid (HP116.out.trans HP2.out)
                have hsz118 : wd.heap.size ≤ w8.heap.size := (HP2.out).size
                rw [HLOT.out.1] at s0
                have HLO2 := Lib.hid (And.intro hmm hcx)
                clear hmm
                go_upto_region 26 with (fail)
                rw [← HW8.out]
                clear hcx
                clear t0 t1 t2 zt s0 fs zs
                have t0 : w8.cell? ⟨wo.heap.size, 0, none⟩ = some (.int .i64 tk) := HB118.out.cell 0
                have t1 : w8.cell? ⟨wo.heap.size, 1, none⟩ = some (.int .i64 (f : Int)) := HB118.out.cell 1
                have t2 : w8.cell? ⟨wo.heap.size, 2, none⟩ = some (.int .i64 tt) := HB118.out.cell 2
                have zt : wo.heap.size < w8.heap.size := HB118.out.lt
                go_wp2_with fail
                refine (ladd_any ⟨ka, kb, kc⟩ 1 f w.heap.size w8 HP1.out (by omega) HK.out HTi.out.2.1 (by have := HLOT.out.2.1; omega) HK118.out).mono ?_
                rintro e w519 ⟨rfl, ⟨vo19, htv⟩, hkx⟩
                clear t0 t1 t2 zt
                obtain ⟨o8, hqo8⟩ : ∃ q, q = o7 ++ [⟨kb, f, f⟩] := ⟨_, rfl⟩
                have HQo8 := Lib.hid hqo8
                clear hqo8
                have HU19 : Hid (TkV X w_2.heap.size o8 (s7.take m) vo19 (.slice (some ⟨g17, 0, none⟩) m cs17) w519) := Lib.hid (by rw [HQo8.out]; exact htv)
                have HB120 := Lib.hid (HB118.out.kept hkx (fun h => h HXt.out))
                have HK120 := Lib.hid (HK118.out.kept hkx (fun h => h (HXl.out _ (by omega))))
                have HE120 := Lib.hid (HE118.out.kept hkx (fun b hb h => h (HXl.out _ (by have := HS.out b hb; omega))))
                have HP120 : Hid (Kept (fun b => ¬ X b) w4 w519) := Lib.hid (HP118.out.trans hkx)
                have hsz120 : w8.heap.size ≤ w519.heap.size := (hkx).size
                have HKx := Lib.hid hkx
                clear htv hkx
                go_wp2_with fail
                obtain ⟨hs7, ho7, hm2, hm1⟩ := HLOT.out
                obtain ⟨hmm, hcx⟩ := HLO2.out
                go_roundg m
                case measure => omega
                case rel =>
                  have e0 : o8 = o7 ++ [d] := by rw [HQo8.out, HDd.out]
                  have e1 := tkd_out hm2 HQo7.out e0
                  have e2 := tkd_stk HQs7.out
                  have e3 := HKd.out.trans (HP2.out.trans HKx.out)
                  have e4 : m ≤ stk.length := Nat.le_of_succ_le hm2
                  have e5 : keepN col stk m = keepN col stk stk.length := (keepN_hit HKn.out.1 hcx).symm.trans HKn.out.2
                  have e6 := HU19.out
                  rw [← e1, ← e2] at e6
                  exact ⟨hmm, e4, ⟨_, _, e6⟩, e5, e3⟩
              · have HKe : Hid (keepN col stk stk.length = m + 1) := Lib.hid (by rw [← HKn.out.2]; exact keepN_stop HKn.out.1 hcx)
                go_wp2_with fail
                refine (ltop_any wd HTd.out (fun e => by have hs7 := HLOT.out.1; rw [e] at hs7; cases hs7)).mono ?_
                rintro e w7 ⟨rfl, rfl⟩
                rw [HLa.out]
                by_cases hce : col = x
                · have HSt : Hid (tokStep s ⟨ka, kb, kc⟩ (prevOf l (j' + 1)) out stk ⟨tk, f, tt⟩ = .inl (o7 ++ [⟨tk, f, tt⟩], s7)) := Lib.hid (by rw [HNw.out, HNs.out, if_neg (Int.not_lt.2 hgt)]; unfold tokEnd; rw [HKe.out, ← HQs7.out, if_pos (by rw [HLa.out]; exact hce), HQo7.out, HDd.out])
                  have hne : ¬ col ≠ x := fun h => h hce
                  subst hce
                  have t0 : wd.cell? ⟨wo.heap.size, 0, none⟩ = some (.int .i64 tk) := HB116.out.cell 0
                  have t1 : wd.cell? ⟨wo.heap.size, 1, none⟩ = some (.int .i64 (f : Int)) := HB116.out.cell 1
                  have t2 : wd.cell? ⟨wo.heap.size, 2, none⟩ = some (.int .i64 tt) := HB116.out.cell 2
                  have zt : wo.heap.size < wd.heap.size := HB116.out.lt
                  have o0 : wd.cell? ⟨w_2.heap.size, 0, none⟩ = some (.slice Ao17 o7.length co17) := HTd.out.1.cell 0
                  have fo := HTd.out.1.frozen 0
                  have zo : w_2.heap.size < wd.heap.size := HTd.out.1.lt
                  have HRd : Hid (Dat.rd (wd.alloc (.cells #[.int .i64 tk, .int .i64 (f : Int), .int .i64 tt] 28)) (OwnT (fun _ => False) (w_2.heap.size + 3) (.slice Ao17 o7.length co17) (wd.alloc (.cells #[.int .i64 tk, .int .i64 (f : Int), .int .i64 tt] 28))) (⟨tk, f, tt⟩ : Tok) [.int .i64 tk, .int .i64 (f : Int), .int .i64 tt]) := Lib.hid ⟨rfl, HTi.out⟩
                  have HOa := Lib.hid (HTd.out.2.2.1.alloc (.cells #[.int .i64 tk, .int .i64 (f : Int), .int .i64 tt] 28))
                  have hcap1 : (o7.length + 1) * 24 ≤ 140737488355328 := by have := HLOT.out.2.1; omega
                  have hcap2 : o7.length + 1 ≤ 9223372036854775807 := by have := HLOT.out.2.1; omega
                  have hzz : w_2.heap.size + 3 ≤ (wd.alloc (.cells #[.int .i64 tk, .int .i64 (f : Int), .int .i64 tt] 28)).heap.size := by have := HTd.out.2.1.lt; simp; omega
                  go_wp2_with ((at_builtin); (refine wpList_own1 _ rfl _ _ elemTok rfl rfl HOa.out ⟨tk, f, tt⟩ [.int .i64 tk, .int .i64 (f : Int), .int .i64 tt] rfl (At.new _ _ _) HRd.out hcap1 hcap2 hzz ?_); (intro v' w9 hown9 hg9 hat9); (obtain ⟨A9, k9, hv9, _⟩ := hown9.form); (rw [snoc_len] at hv9); (subst hv9); (have hO9 := (HTd.out.1.alloc (.cells #[.int .i64 tk, .int .i64 (f : Int), .int .i64 tt] 28)).grown hg9 (fun e => by have h9 := (HOa.out.block _ e.symm).1; omega)); (have m9 := hO9.cell 0); (have f9 := hO9.frozen 0); (have z9 := hO9.lt); (have H9 := Lib.hid (And.intro hown9 (And.intro hg9 hat9))); (clear hown9 hg9 hat9 hO9); (try simp at m9))
                  go_roundw
                  case measure => simp [intOf]; omega
                  case rel =>
                    obtain ⟨hown9, hg9, hat9⟩ := H9.out
                    have hba : Below wd.heap.size wd (wd.alloc (.cells #[.int .i64 tk, .int .i64 (f : Int), .int .i64 tt] 28)) := (Below.refl _ _).alloc (Nat.le_refl _) _
                    obtain ⟨p1, p2⟩ := (HTd.out.below hba).push hown9 hg9 hat9
                    have hkf : Kept (fun b => ¬ X b) w4 _ := HP116.out.trans ((Kept.of_below _ hba).trans p2)
                    refine ⟨(j' + 1) + 1, o7 ++ [⟨tk, f, tt⟩], s7, hlt, by go_num, ?_, by rw [snoc_len]; have := HLOT.out.2.1; omega, by have := HLOT.out; omega, by rw [HQs7.out, List.getElem?_take, if_pos (by omega)]; exact HOl.out.2.2, ⟨_, _, p1.mono (fun b hb => HXl.out b hb)⟩, HX3.out _ hkf⟩
                    rw [HEL.out, HD.out, tokRun_ok (HSt.out)]
                    show _ = tokRun s ⟨ka, kb, kc⟩ (if (j' + 1) + 1 = 0 then none else l[(j' + 1) + 1 - 1]?) _ _ _
                    rw [if_neg (by omega), Nat.add_sub_cancel, HGt.out]
                · have HSt : Hid (tokStep s ⟨ka, kb, kc⟩ (prevOf l (j' + 1)) out stk ⟨tk, f, tt⟩ = .inr 3) := Lib.hid (by rw [HNw.out, HNs.out, if_neg (Int.not_lt.2 hgt)]; unfold tokEnd; rw [HKe.out, ← HQs7.out, if_neg (by rw [HLa.out]; exact hce)])
                  go_wp2
                  go_ret2
                  exact retTok_err (by rw [HTk.out]; exact tokR_err (by rw [HEL.out, HD.out]; exact tokRun_err (HSt.out))) (QB_3.out.trans ((HX3.out _ HP116.out).to_below (fun b (h : ¬ b < w_2.heap.size) => by omega) QB_3.out.size))
    · have hjj : j = l.length := by omega
      obtain ⟨dd, hdd⟩ : ∃ dd : Tok, dd = ⟨kb, s.size, s.size⟩ := ⟨_, rfl⟩
      have HDd := Lib.hid hdd
      clear hdd
      have hrun : tokRun s ⟨ka, kb, kc⟩ none [] [0] l = .inl (out, stk) := by rw [HEL.out, hjj, List.drop_length, tokRun]
      have HFin : Hid (tokensL s l ⟨ka, kb, kc⟩ = (if l = [] then out else out ++ [⟨kc, lastTos l, lastTos l⟩] ++ List.replicate (stk.length - 1) dd, 0)) := Lib.hid (by rw [HTk.out, HDd.out]; unfold tokR; rw [hrun])
      have hj0 : ¬ (j : Int) < (l.length : Int) := by omega
      clear hrun HEL HV HTk
      by_cases hl0 : l.length = 0
      · have HFi2 : Hid (tokensL s l ⟨ka, kb, kc⟩ = (out, 0)) := Lib.hid (by rw [HFin.out, if_pos (List.length_eq_zero_iff.1 hl0)])
        obtain ⟨Ao, co, rfl, _, _, _⟩ := HTk0.out.2.2.1.form
        have o0 : wo.cell? ⟨w_2.heap.size, 0, none⟩ = some (.slice Ao out.length co) := HTk0.out.1.cell 0
        have zo : w_2.heap.size < wo.heap.size := HTk0.out.1.lt
        have hl1 : ¬ (0 : Int) < (l.length : Int) := by omega
        clear hjj hl0
        go_wp2
        go_ret2
        exact retTok_own HFi2.out HTk0.out.2.2.1 (by omega) (QB_3.out.trans (HL0.out.to_below (fun b (h : ¬ b < w_2.heap.size) => by omega) QB_3.out.size))
      obtain ⟨m, hm⟩ : ∃ m, l.length = m + 1 := ⟨l.length - 1, by omega⟩
      obtain ⟨p, hp⟩ := get_some (show m < l.length by omega)
      have HLt : Hid (lastTos l = p.tos) := Lib.hid (by unfold lastTos; rw [hm, Nat.add_sub_cancel, hp]; rfl)
      have HFi2 : Hid (tokensL s l ⟨ka, kb, kc⟩ = (out ++ [⟨kc, p.tos, p.tos⟩] ++ List.replicate (stk.length - 1) dd, 0)) := Lib.hid (by rw [HFin.out, if_neg (fun e => hl0 (by rw [e]; rfl)), HLt.out])
      obtain ⟨b2, o2, rfl, hSp, hbp, pi0, pi1, pi2, p0, p1, p2, p2'⟩ := HE0.out.tok hp
      obtain ⟨pk, pf, pt⟩ := p
      dsimp only at pi0 pi1 pi2 p0 p1 p2 p2' HFi2
      have hl1 : (0 : Int) < (l.length : Int) := by omega
      have hm0 : (0 : Int) ≤ (m : Int) := by omega
      have hml : (m : Int) < (l.length : Int) := by omega
      have hw1 : IntKind.i64.wrap ((l.length : Int) - 1) = (m : Int) := by rw [show (l.length : Int) - 1 = (m : Int) by omega]; exact IntWalk.i64_in _ (by omega)
      have hw2 : wrap64 ((l.length : Int) - 1) = (m : Int) := by rw [show (l.length : Int) - 1 = (m : Int) by omega]; exact IntWalk.wrap64_in _ (by omega)
      have HPi := Lib.hid pi2
      have HBo : Hid (Below wo.heap.size wo wo) := Lib.hid (Below.refl _ _)
      clear hp pi0 pi1 pi2 HFin HLt hjj hl0 hm
      go_wp2_with fail
      refine (ladd_any ⟨ka, kb, kc⟩ 2 pt w.heap.size wo HTk0.out (by omega) HK.out HPi.out (by have := HOl.out.1; omega) HK0.out).mono ?_
      rintro e w5 ⟨rfl, ⟨vo5, htv⟩, hkx⟩
      clear p0 p1 p2 p2' hw1 hw2
      obtain ⟨o5, ho5⟩ : ∃ q, q = out ++ [⟨kc, pt, pt⟩] := ⟨_, rfl⟩
      have HT5 : Hid (TkV (fun b => b < w_2.heap.size) w_2.heap.size o5 stk vo5 vs w5) := Lib.hid (by rw [ho5]; exact htv)
      have ho5l : o5.length ≤ 13000 := by rw [ho5, snoc_len]; have := HOl.out.1; omega
      have HK5 := Lib.hid (HK0.out.kept hkx (fun h => h (by omega)))
      have HL5 : Hid (Kept (fun b => ¬ b < w_2.heap.size) w_3 w5) := Lib.hid (HL0.out.trans hkx)
      have HO5 := Lib.hid ho5
      clear htv hkx ho5
      obtain ⟨n, hn⟩ : ∃ n, stk.length = n + 1 := ⟨stk.length - 1, by have := (List.getElem?_eq_some_iff.1 HOl.out.2.2).1; omega⟩
      have hn21 : n ≤ 20 := by have := HOl.out.2.1; omega
      obtain ⟨As, cs, rfl, hcs, hct, hfs⟩ := HT5.out.2.2.2.1.form
      obtain ⟨g, rfl⟩ : ∃ g, As = some ⟨g, 0, none⟩ := by
        rcases hfs with h | ⟨g, h, _, _⟩
        · rw [h] at hn; cases hn
        · exact ⟨g, h⟩
      have HTs : Hid (TkSt (fun b => b < w_2.heap.size) w_2.heap.size (o5 ++ List.replicate 0 dd) stk w5) := Lib.hid (by rw [List.replicate_zero, List.append_nil]; exact ⟨_, _, HT5.out⟩)
      rw [hn] at hcs
      have s0 : w5.cell? ⟨w_2.heap.size + 2, 0, none⟩ = some (.slice (some ⟨g, 0, none⟩) (n + 1) cs) := by rw [← hn]; exact HT5.out.2.1.cell 0
      have zs : w_2.heap.size + 2 < w5.heap.size := HT5.out.2.1.lt
      have hcs1 : (1 : Int) ≤ (cs : Int) := by omega
      have hn1 : (1 : Int) ≤ (n : Int) + 1 := by omega
      have HN := Lib.hid hn
      have hss : I64 (s.size : Int) := by unfold I64; omega
      have HSs := Lib.hid hss
      have hssw : IntKind.i64.wrap (s.size : Int) = (s.size : Int) := IntWalk.i64_in _ (by omega)
      clear hn hfs hss
      go_wp2_with fail
      all_goals
        go_loopw [140] (fun i wr => ∃ q : Nat, q ≤ n ∧ i = .int .i64 q ∧ TkSt (fun b => b < w_2.heap.size) w_2.heap.size (o5 ++ List.replicate q dd) stk wr ∧ Kept (fun b => ¬ b < w_2.heap.size) w_3 wr) (fun i _ => n - (intOf i).toNat)
        case atStart => exact ⟨0, Nat.zero_le _, rfl, HTs.out, HL5.out⟩
        case round =>
          obtain ⟨wq, hwq⟩ : ∃ wq : World, wq = wr := ⟨_, rfl⟩
          subst hwq
          obtain ⟨q, hq, rfl, ⟨vo7, vs7, htq⟩, hkq⟩ := hrel
          have HTq := Lib.hid htq
          have HLq := Lib.hid hkq
          have hq0 : (0 : Int) ≤ (q : Int) := by omega
          obtain ⟨o7, ho7⟩ : ∃ z, z = o5 ++ List.replicate q dd := ⟨_, rfl⟩
          have ho7l : o7.length ≤ 13100 := by rw [ho7, List.length_append, List.length_replicate]; omega
          have HO7 := Lib.hid ho7
          rw [← ho7] at HTq
          have HK7 := Lib.hid (KK_3.out.kept hkq (fun h => h (by omega)))
          clear htq hkq ho7
          by_cases hqn : q < n
          · have hqn1 : (q : Int) < (n : Int) := by omega
            go_wp2_with fail
            refine (ladd_any ⟨ka, kb, kc⟩ 1 s.size w.heap.size wq HTq.out (by omega) HK.out HSs.out (by omega) HK7.out).mono ?_
            rintro e w8 ⟨rfl, ⟨vo8, htv⟩, hkx⟩
            have HT8 := Lib.hid htv
            have HL8 := Lib.hid (HLq.out.trans hkx)
            clear htv hkx
            go_wp2
            go_roundw
            case rel =>
              refine ⟨q + 1, hqn, by go_num, ?_, HL8.out⟩
              rw [List.replicate_succ', ← List.append_assoc, ← HO7.out]
              rw [HDd.out]
              exact ⟨_, _, HT8.out⟩
            case measure => simp [intOf]; omega
          · have hqn1 : ¬ (q : Int) < (n : Int) := by omega
            have hqe : q = n := by omega
            obtain ⟨Ao, co, rfl, _, _, _⟩ := HTq.out.2.2.1.form
            have o0 : wq.cell? ⟨w_2.heap.size, 0, none⟩ = some (.slice Ao o7.length co) := HTq.out.1.cell 0
            have zo : w_2.heap.size < wq.heap.size := HTq.out.1.lt
            have HQe := Lib.hid hqe
            clear hqe
            go_wp2
            go_ret2
            refine retTok_own ?_ HTq.out.2.2.1 (by omega) (QB_3.out.trans (HLq.out.to_below (fun b (h : ¬ b < w_2.heap.size) => by omega) QB_3.out.size))
            rw [HFi2.out, HN.out, Nat.add_sub_cancel, ← HO5.out, ← HQe.out, ← HO7.out]
end Go.Proofs.Ytabehgggahnopaa
