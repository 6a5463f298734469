/- Contracts of this proof, of several texts joined: Has, CmpZero, CntL, RevCntP, IntRow, CloneInt, RevInt, RevSym, CloneSymO, WhereP, MkWord, Yield, ChainK, EqInt, SameTreeK. -/
import Derived.Test.YtnlpeiffbnlncaaDoorQp1
import Derived.Test.YtnlpeiffbnlncaaDoorChecked
import Derived.Deep.QuietTactic
import Derived.BigQuiet
import Derived.Test.YtnlpeiffbnlncaaDoorQw1
import Derived.Test.YtnlpeiffbnlncaaDoorQp2
import Derived.StillTailTactics
import Derived.Laws.CopyOwn
import Derived.Deep.OwnRows
import Derived.IntWalk
import Derived.Lib.SliceRun
import Derived.BigRegion
import Derived.Deep.Cut
import Derived.Test.YtnlpeiffbnlncaaDoorQp3
import Derived.Laws.EntriesVeiled
/- Contract: parlmake.has: is the rule among the rules? -/
namespace Go.Proofs.YtnlpeiffbnlncaaDoor
open Go.RowKit
set_option linter.unusedVariables false

def HasR (rs : List Rule) (r : Rule) (A' : Option Addr) (c' : Nat) (w : World) (i : Value) (wr : World) : Prop :=
  ∃ k : Nat, k ≤ rs.length ∧ i = .int .i64 k ∧ r ∉ rs.take k ∧ Below w.heap.size w wr ∧ w.heap.size + 1 ≤ wr.heap.size ∧ wr.cell? ⟨w.heap.size, 0, none⟩ = some (.int .i64 r.left) ∧ wr.cell? ⟨w.heap.size, 1, none⟩ = some (.slice A' r.right.length c')
def HasI (xs ys : List Sym) (W : World) (s i : Value) (wr : World) : Prop :=
  ∃ m : Nat, m ≤ xs.length ∧ i = .int .i64 m ∧ s = .bool (decide (xs.take m = ys.take m)) ∧ Below W.heap.size W wr

theorem snoc_dec (a b : List Sym) (s t : Sym) : decide (a ++ [s] = b ++ [t]) = (decide (a = b) && decide (s = t)) := by
  rw [← Bool.decide_and]
  congr 1
  refine propext ⟨fun h => ?_, fun h => by rw [h.1, h.2]⟩
  obtain ⟨h1, h2⟩ := List.append_inj' h rfl
  exact ⟨h1, by simpa using h2⟩
theorem notin_snoc {rs : List Rule} {r x : Rule} {k : Nat} (h : r ∉ rs.take k) (hx : rs[k]? = some x) (hne : r ≠ x) : r ∉ rs.take (k + 1) := by
  rw [take_snoc hx]
  simp [h, hne]

set_option maxRecDepth 100000 in
set_option maxHeartbeats 1000000 in
theorem has_any (A A' : Option Addr) (c c' : Nat) (rs : List Rule) (r : Rule) (S : Nat → Prop) (w : World) (hm : rs.length ≤ 9223372036854775807) (hm' : r.right.length ≤ 9223372036854775807) (hA : Els w S rs A) (hA' : Els w S r.right A') :
    Calls Tryd.prog 41 #[.slice A rs.length c, .agg #[.int .i64 r.left, .slice A' r.right.length c']] w
      fun e w' => e = .returned (.bool (decide (r ∈ rs))) ∧ Below w.heap.size w w' := by
  obtain ⟨rl, rr⟩ := r
  dsimp only at *
  go_enter Tryd.func41, Tryd.ntmps41
  go_wp2
  go_loopw [11] (fun i wr => HasR rs ⟨rl, rr⟩ A' c' w i wr) (fun i _ => rs.length - (intOf i).toNat)
  case atStart => exact ⟨0, Nat.zero_le _, rfl, by simp, (Below.refl _ _).alloc (Nat.le_refl _) _, by simp, by go_simp, by go_simp⟩
  case round =>
    obtain ⟨wo, hwo⟩ : ∃ wo : World, wo = wr := ⟨_, rfl⟩
    subst hwo
    obtain ⟨k, hk, rfl, hnot, hb, hsz, hb0, hb1⟩ := hrel
    dsimp only at hb0 hb1
    have Hnot := Lib.hid hnot
    have Hb := Lib.hid hb
    have HE' := Lib.hid (hA'.below hb)
    have HE := Lib.hid (hA.below hb)
    clear hnot hb hA hA'
    have z1 : w.heap.size < wo.heap.size := by omega
    have z2 : w.heap.size < wo.heap.size + 1 := by omega
    by_cases hlt : k < rs.length
    · obtain ⟨x, hx⟩ := get_some hlt
      obtain ⟨b, o, Ax, cx, rfl, _, hbs, hi, hxc, hcx, hEx, hc0, hc1⟩ := HE.out.rule hx
      have HEx := Lib.hid hEx
      have Hx := Lib.hid hx
      clear hx hEx
      obtain ⟨xl, xr⟩ := x
      dsimp only at *
      have hxm : xr.length ≤ 9223372036854775807 := by omega
      have next : (⟨rl, rr⟩ : Rule) ≠ ⟨xl, xr⟩ → ∀ W', Below wo.heap.size wo W' → HasR rs ⟨rl, rr⟩ A' c' w (.int .i64 ((k : Int) + 1)) W' := fun hne W' hW =>
        ⟨k + 1, by omega, by go_num, notin_snoc Hnot.out Hx.out hne, bthen Hb.out hW Hb.out.size, Nat.le_trans hsz hW.size, ((bcell hW).1 _ _ z1).trans hb0, ((bcell hW).1 _ _ z1).trans hb1⟩
      have Next := Lib.hid next
      clear next
      by_cases hl : xl = rl
      · subst hl
        by_cases hn : xr.length = rr.length
        · have hn' : ((xr.length : Int) != (rr.length : Int)) = false := by simp; omega
          have Hn := Lib.hid hn
          clear hn
          go_wp2
          go_loopw [7, 32] (fun s i wr => HasI xr rr (wo.alloc (.cells #[.int .i64 xl, .slice Ax xr.length cx] 57)) s i wr) (fun _ i _ => xr.length - (intOf i).toNat)
          case atStart => exact ⟨0, Nat.zero_le _, rfl, by simp, Below.refl _ _⟩
          case round =>
            obtain ⟨m, hm, rfl, rfl, hbm⟩ := hrel
            obtain ⟨hcm, _⟩ := bcell hbm
            have p0 := hcm wo.heap.size 0 (by simp)
            have p1 := hcm wo.heap.size 1 (by simp)
            have p2 := hcm w.heap.size 1 (by simp; omega)
            have p3 := hcm w.heap.size 0 (by simp; omega)
            simp only [World.cell?_alloc_lt _ _ ⟨w.heap.size, 1, none⟩ z1, World.cell?_alloc_lt _ _ ⟨w.heap.size, 0, none⟩ z1, hb0, hb1, World.cell?_alloc_new] at p0 p1 p2 p3
            simp at p0 p1
            have Hbm := Lib.hid hbm
            have hba : Below wo.heap.size wo (wo.alloc (.cells #[.int .i64 xl, .slice Ax xr.length cx] 57)) := (Below.refl _ _).alloc (Nat.le_refl _) _
            have HEm := Lib.hid (((HEx.out).below hba).below hbm)
            have HEm' := Lib.hid (((HE'.out).below hba).below hbm)
            clear hcm hbm hba
            by_cases hml : m < xr.length
            · obtain ⟨s, hs⟩ := get_some hml
              obtain ⟨s', hs'⟩ := get_some (show m < rr.length by have := Hn.out; omega)
              obtain ⟨bs, os, rfl, _, hbs1, _, hs0, hs1⟩ := HEm.out.sym hs
              obtain ⟨bs', os', rfl, _, hbs2, _, hs2, hs3⟩ := HEm'.out.sym hs'
              have Ht := Lib.hid (take_snoc hs)
              have Ht' := Lib.hid (take_snoc hs')
              clear hs hs'
              obtain ⟨st, sn⟩ := s
              obtain ⟨st', sn'⟩ := s'
              dsimp only at *
              have hm0 : (0 : Int) ≤ (m : Int) := by omega
              have hm1 : (m : Int) < (xr.length : Int) := by omega
              have hm2 : (m : Int) < (rr.length : Int) := by have := Hn.out; omega
              have fin : ∀ (b : Bool), b = (decide (xr.take m = rr.take m) && decide ((⟨st, sn⟩ : Sym) = ⟨st', sn'⟩)) → ∀ nq, HasI xr rr (wo.alloc (.cells #[.int .i64 xl, .slice (some ⟨bs, os, none⟩) xr.length cx] 57)) (.bool b) (.int .i64 ((m : Int) + 1)) (wr.drewN nq) := fun b hb nq =>
                ⟨m + 1, by omega, by go_num, by rw [hb, Ht.out, Ht'.out, snoc_dec], bdrewN Hbm.out⟩
              have Fin := Lib.hid fin
              clear fin
              cases hd : decide (xr.take m = rr.take m)
              · go_wp2
                go_quiet (fail)
                go_wp2
                go_roundw
                case rel => exact Fin.out _ (by rw [hd]; rfl) _
                case measure => simp [intOf]; omega
              · by_cases he : (⟨st, sn⟩ : Sym) = ⟨st', sn'⟩
                · injection he with h1 h2
                  subst h1; subst h2
                  go_wp2
                  go_quiet (fail)
                  go_wp2
                  go_roundw
                  case rel => exact Fin.out _ (by rw [hd]; simp) _
                  case measure => simp [intOf]; omega
                · have Hd := Lib.hid (show decide ((⟨st, sn⟩ : Sym) = ⟨st', sn'⟩) = false by simpa using he)
                  have Hne := Lib.hid he
                  clear he
                  by_cases htt : st = st'
                  · subst htt
                    have hzz : (sn == sn') = false := by simp; rintro rfl; exact Hne.out rfl
                    go_wp2
                    go_quiet (fail)
                    go_wp2
                    go_roundw
                    case rel => exact Fin.out _ (by rw [Hd.out]; simp) _
                    case measure => simp [intOf]; omega
                  · have htb : (st == st') = false := by simpa using htt
                    clear htt
                    go_wp2
                    go_quiet (fail)
                    go_wp2
                    go_roundw
                    case rel => exact Fin.out _ (by rw [Hd.out]; simp) _
                    case measure => simp [intOf]; omega
            · have hmx : m = xr.length := by omega
              subst hmx
              have htk : decide (xr.take xr.length = rr.take xr.length) = decide (xr = rr) := by rw [List.take_length, Hn.out, List.take_length]
              rw [htk]
              clear htk p0 p1 p2 p3
              by_cases he : xr = rr
              · have E0 := Lib.hid (show decide ((⟨xl, rr⟩ : Rule) ∈ rs) = true by rw [decide_eq_true_eq, ← he]; exact List.mem_of_getElem? Hx.out)
                have hd : decide (xr = rr) = true := by simpa using he
                rw [hd]
                clear hd he
                go_wp2
                go_ret
                exact ⟨ret_bool E0.out.symm, bthen (Hb.out.alloc Hb.out.size _) Hbm.out (by simp; omega)⟩
              · have hd : decide (xr = rr) = false := by simpa using he
                have He := Lib.hid he
                rw [hd]
                clear hd he
                go_wp2
                go_roundw
                case rel => exact Next.out (fun e => He.out (by injection e with _ e2; exact e2.symm)) _ (bthen ((Below.refl _ _).alloc (Nat.le_refl _) _) Hbm.out (by simp))
                case measure => simp [intOf]; omega
        · have hn' : ((xr.length : Int) != (rr.length : Int)) = true := by simp; omega
          have Hn := Lib.hid hn
          clear hn
          go_wp2
          go_roundw
          case rel => exact Next.out (fun e => Hn.out (by injection e with _ e2; rw [e2])) _ ((Below.refl _ _).alloc (Nat.le_refl _) _)
          case measure => simp [intOf]; omega
      · have hl' : (xl != rl) = true := by simpa using hl
        have Hl := Lib.hid hl
        clear hl
        go_wp2
        go_roundw
        case rel => exact Next.out (fun e => Hl.out (by injection e with e1 _; exact e1.symm)) _ ((Below.refl _ _).alloc (Nat.le_refl _) _)
        case measure => simp [intOf]; omega
    · have e0 : decide ((⟨rl, rr⟩ : Rule) ∈ rs) = false := by
        have h := Hnot.out
        rw [List.take_of_length_le (by omega)] at h
        simpa using h
      have E0 := Lib.hid e0
      clear e0
      go_wp2
      go_ret
      exact ⟨ret_bool E0.out.symm, Hb.out⟩
end Go.Proofs.YtnlpeiffbnlncaaDoor

/- The comparisons answer zero just at equal things. No program is named here. -/
namespace Go.Proofs.YtnlpeiffbnlncaaDoor

theorem cmpI_zero {a b : Int} : cmpI a b = 0 ↔ a = b := by unfold cmpI; split <;> (try split) <;> omega
theorem symCmp_zero {a b : Sym} : symCmp a b = 0 ↔ a = b := by
  obtain ⟨t, n⟩ := a
  obtain ⟨t', n'⟩ := b
  unfold symCmp
  by_cases h : t = t'
  · subst h; simp [cmpI_zero]
  · simp only [if_neg h]
    constructor
    · intro e; split at e <;> cases e
    · intro e; injection e with e1 _; exact absurd e1 h
theorem symsCmp_zero : ∀ {a b : List Sym}, symsCmp a b = 0 ↔ a = b
  | [], [] => by simp [symsCmp]
  | [], _ :: _ => by simp [symsCmp]
  | _ :: _, [] => by simp [symsCmp]
  | x :: xs, y :: ys => by
    unfold symsCmp
    by_cases h : symCmp x y = 0
    · rw [if_pos h, symsCmp_zero]
      have := symCmp_zero.1 h
      subst this; simp
    · rw [if_neg h]
      constructor
      · intro e; exact absurd e h
      · intro e; injection e with e1 _; exact absurd (symCmp_zero.2 e1) h
theorem ruleCmp_zero {a b : Rule} : ruleCmp a b = 0 ↔ a = b := by
  obtain ⟨l, r⟩ := a
  obtain ⟨l', r'⟩ := b
  unfold ruleCmp orI orI orI
  by_cases h : cmpI l l' = 0
  · simp only [h, if_true]
    have := cmpI_zero.1 h
    subst this
    by_cases h2 : symsCmp r r' = 0
    · have e := symsCmp_zero.1 h2
      subst e
      simp [h2]
    · simp only [if_neg h2]
      constructor
      · intro e; exact absurd e h2
      · intro e; injection e with _ e2; exact absurd (symsCmp_zero.2 e2) h2
  · simp only [if_neg h]
    constructor
    · intro e; exact absurd e h
    · intro e; injection e with e1 _; exact absurd (cmpI_zero.2 e1) h
end Go.Proofs.YtnlpeiffbnlncaaDoor

/- Plain: what a count of trees says; the words of trees. No program is named here. -/
namespace Go.Proofs.YtnlpeiffbnlncaaDoor
set_option linter.unusedVariables false

theorem cnt_pos {P : Tree → Prop} {k : Int} (h : CntIs P k) {t : Tree} (ht : P t) : k ≠ 0 := by
  rcases h with ⟨rfl, _⟩ | ⟨L, _, hL, rfl⟩
  · omega
  · have := List.length_pos_of_mem ((hL t).2 ht)
    omega
theorem cnt_zero {P : Tree → Prop} {k : Int} (h : CntIs P k) (hn : ∀ t, ¬ P t) : k = 0 := by
  rcases h with ⟨rfl, h⟩ | ⟨L, _, hL, rfl⟩
  · obtain ⟨t, ht, _⟩ := h 0
    exact absurd ht (hn t)
  · cases L with
    | nil => rfl
    | cons x L => exact absurd ((hL x).1 (by simp)) (hn x)
theorem cnt_one {P : Tree → Prop} {k : Int} (h : CntIs P k) (hu : ∀ t u, P t → P u → t = u) : k = 0 ∨ k = 1 := by
  rcases h with ⟨rfl, h⟩ | ⟨L, hn, hL, rfl⟩
  · obtain ⟨t, ht, _⟩ := h 0
    obtain ⟨u, hu1, hu2⟩ := h (nodesT t + 1)
    have := hu t u ht hu1
    subst this
    omega
  · have h1 : L.length ≤ 1 := by
      match L, hn, hL with
      | [], _, _ => simp
      | [x], _, _ => simp
      | x :: y :: L, hn, hL =>
        have e := hu x y ((hL x).1 (by simp)) ((hL y).1 (by simp))
        subst e
        simp at hn
    omega
/-- Finitely many trees: the count is their number. -/
theorem cnt_fin {P : Tree → Prop} {k : Int} (h : CntIs P k) {L : List Tree} (hL : ∀ t, P t → t ∈ L) : k ≠ -1 := by
  rcases h with ⟨rfl, h⟩ | ⟨M, _, _, rfl⟩
  · exfalso
    obtain ⟨N, hN⟩ := nodes_bound L
    obtain ⟨t, h1, h2⟩ := h N
    have := hN t (hL t h1)
    omega
  · omega

mutual
theorem yield_rg {g : Gram} (hs : ∀ q ∈ g.rules, ∀ s ∈ q.right, s.term = true → 0 ≤ s.n ∧ s.n < g.terms) : ∀ (t : Tree) (s : Sym), vt g t s → (s.term = true → 0 ≤ s.n ∧ s.n < g.terms) → ∀ x ∈ yieldT t, 0 ≤ x ∧ x < g.terms
  | ⟨r, tt, ks⟩, s, h, h0, x, hx => by
    unfold vt at h
    split at h
    · rename_i ht
      obtain ⟨rfl, rfl, rfl⟩ := h
      unfold yieldT at hx
      rw [if_pos (by omega)] at hx
      simp at hx
      subst hx
      exact h0 ht
    · obtain ⟨_, hr, q, hq, _, hks⟩ := h
      unfold yieldT at hx
      rw [if_neg (by omega)] at hx
      exact yields_rg hs ks q.right hks (fun s hsm => hs q (List.mem_of_getElem? hq) s hsm) x hx
theorem yields_rg {g : Gram} (hs : ∀ q ∈ g.rules, ∀ s ∈ q.right, s.term = true → 0 ≤ s.n ∧ s.n < g.terms) : ∀ (ks : List Tree) (ss : List Sym), vts g ks ss → (∀ s ∈ ss, s.term = true → 0 ≤ s.n ∧ s.n < g.terms) → ∀ x ∈ yields ks, 0 ≤ x ∧ x < g.terms
  | [], _, _, _, x, hx => by simp [yields] at hx
  | k :: ks, [], h, _, x, hx => by unfold vts at h; exact h.elim
  | k :: ks, s :: ss, h, h0, x, hx => by
    unfold vts at h
    unfold yields at hx
    rcases List.mem_append.1 hx with hx | hx
    · exact yield_rg hs k s h.1 (h0 s (by simp)) x hx
    · exact yields_rg hs ks ss h.2 (fun s hsm => h0 s (by simp [hsm])) x hx
end
theorem terms_of {g : Gram} (hv : ValidG g) : ∀ q ∈ g.rules, ∀ s ∈ q.right, s.term = true → 0 ≤ s.n ∧ s.n < g.terms := fun q hq s hs ht => by
  have h := (hv.rules q hq).2.2.2 s hs
  rw [if_pos ht] at h
  exact h
theorem word_rg {g : Gram} (hv : ValidG g) {t : Tree} {n : Int} (h : vt g t ⟨false, n⟩) {most : Int} (hl : ((yieldT t).length : Int) ≤ most) : wordE g.terms (yieldT t) most = 0 := by
  have hr := yield_rg (terms_of hv) t ⟨false, n⟩ h (fun e => by simp at e)
  unfold wordE
  rw [if_neg (by omega), if_neg]
  intro ha
  obtain ⟨x, hx, he⟩ := List.any_eq_true.1 ha
  have := hr x hx
  simp [wordBad] at he
  omega
theorem word_rg2 {tm : Int} {ws : List Int} {most : Int} (hl : (ws.length : Int) ≤ most) (hw : ∀ x ∈ ws, 0 ≤ x ∧ x < tm) : wordE tm ws most = 0 := by
  unfold wordE
  rw [if_neg (by omega), if_neg]
  intro ha
  obtain ⟨x, hx, he⟩ := List.any_eq_true.1 ha
  have := hw x hx
  simp [wordBad] at he
  omega
end Go.Proofs.YtnlpeiffbnlncaaDoor

/- Plain: the mirrored trees are those of the reversed grammar. No program is named here. -/
namespace Go.Proofs.YtnlpeiffbnlncaaDoor
set_option linter.unusedVariables false

theorem vts_app {g : Gram} : ∀ (ks : List Tree) (ss : List Sym) (k2 : List Tree) (s2 : List Sym), vts g ks ss → vts g k2 s2 → vts g (ks ++ k2) (ss ++ s2)
  | [], [], _, _, _, h => h
  | k :: ks, s :: ss, k2, s2, h, h2 => by
    unfold vts at h
    rw [List.cons_append, List.cons_append]
    unfold vts
    exact ⟨h.1, vts_app ks ss k2 s2 h.2 h2⟩
  | [], _ :: _, _, _, h, _ => by unfold vts at h; exact h.elim
  | _ :: _, [], _, _, h, _ => by unfold vts at h; exact h.elim
theorem yields_app (ks k2 : List Tree) : yields (ks ++ k2) = yields ks ++ yields k2 := by
  induction ks with
  | nil => simp [yields]
  | cons k ks ih => rw [List.cons_append]; simp only [yields]; rw [ih, List.append_assoc]
theorem rev_rule {g : Gram} {i : Nat} {q : Rule} (h : g.rules[i]? = some q) : (revG g).rules[i]? = some (revR q) := by
  simp only [revG]
  rw [List.getElem?_map, h]
  rfl
theorem rev_rev (g : Gram) : revG (revG g) = g := by
  obtain ⟨t, n, s, rs⟩ := g
  simp only [revG, List.map_map]
  congr 1
  induction rs with
  | nil => rfl
  | cons q rs ih => rw [List.map_cons, ih]; simp [revR]
mutual
theorem mir_vt {g : Gram} : ∀ (t : Tree) (s : Sym), vt g t s → vt (revG g) (mirT t) s ∧ mirT (mirT t) = t ∧ yieldT (mirT t) = (yieldT t).reverse
  | ⟨r, tt, ks⟩, s, h => by
    unfold vt at h
    split at h
    · rename_i ht
      obtain ⟨rfl, rfl, rfl⟩ := h
      have e : mirT ⟨-1, s.n, []⟩ = ⟨-1, s.n, []⟩ := by simp [mirT, mirL]
      rw [e, e]
      refine ⟨?_, rfl, ?_⟩
      · unfold vt; rw [if_pos ht]; exact ⟨rfl, rfl, rfl⟩
      · unfold yieldT; rw [if_pos (by omega)]; rfl
    · rename_i ht
      obtain ⟨rfl, hr, q, hq, hql, hks⟩ := h
      obtain ⟨h1, h2, h3⟩ := mir_vts ks q.right hks
      have e : mirT ⟨r, 0, ks⟩ = ⟨r, 0, (mirL ks).reverse⟩ := by rw [mirT]
      rw [e]
      refine ⟨?_, ?_, ?_⟩
      · unfold vt
        rw [if_neg ht]
        exact ⟨rfl, hr, revR q, rev_rule hq, hql, h1⟩
      · rw [mirT, mirL_map, mirL_map, List.map_reverse, List.reverse_reverse, List.map_map]
        congr 1
        rw [mirL_map, mirL_map, List.map_map] at h2
        exact h2
      · rw [yieldT, if_neg (by omega), yieldT, if_neg (by omega)]
        exact h3
theorem mir_vts {g : Gram} : ∀ (ks : List Tree) (ss : List Sym), vts g ks ss → vts (revG g) (mirL ks).reverse ss.reverse ∧ mirL (mirL ks) = ks ∧ yields (mirL ks).reverse = (yields ks).reverse
  | [], [], _ => by refine ⟨?_, ?_, ?_⟩ <;> simp [mirL, vts, yields]
  | k :: ks, s :: ss, h => by
    unfold vts at h
    obtain ⟨a1, a2, a3⟩ := mir_vt k s h.1
    obtain ⟨b1, b2, b3⟩ := mir_vts ks ss h.2
    refine ⟨?_, ?_, ?_⟩
    · rw [mirL, List.reverse_cons, List.reverse_cons]
      exact vts_app _ _ _ _ b1 (by unfold vts; exact ⟨a1, by unfold vts; trivial⟩)
    · rw [mirL, mirL, a2, b2]
    · rw [mirL, List.reverse_cons, yields_app, b3]
      simp only [yields]
      rw [a3, List.append_nil, List.reverse_append]
  | [], _ :: _, h => by unfold vts at h; exact h.elim
  | _ :: _, [], h => by unfold vts at h; exact h.elim
end
/-- A word has as many trees as its reversal in the reversed grammar. -/
theorem rev_count {g : Gram} {w : List Int} {a b : Int} (ha : CntIs (TreesOf g w) a) (hb : CntIs (TreesOf (revG g) w.reverse) b) : a = b :=
  CntIs.bij mirT mirT (fun t ht => by
    obtain ⟨h1, h2, h3⟩ := mir_vt t _ ht.1
    exact ⟨⟨h1, by rw [h3, ht.2]⟩, h2⟩) (fun u hu => by
    obtain ⟨h1, h2, h3⟩ := mir_vt u _ hu.1
    rw [rev_rev] at h1
    exact ⟨⟨h1, by rw [h3, hu.2, List.reverse_reverse]⟩, h2⟩) ha hb
mutual
theorem mir_nodes : ∀ t : Tree, nodesT (mirT t) = nodesT t
  | ⟨r, t, ks⟩ => by
    rw [mirT]
    simp only [nodesT]
    rw [nodesL_rev, mirL_nodes ks]
theorem mirL_nodes : ∀ ks : List Tree, nodesL (mirL ks) = nodesL ks
  | [] => rfl
  | k :: ks => by rw [mirL]; simp only [nodesL]; rw [mir_nodes k, mirL_nodes ks]
theorem nodesL_rev : ∀ ks : List Tree, nodesL ks.reverse = nodesL ks
  | [] => rfl
  | k :: ks => by
    have app : ∀ a b : List Tree, nodesL (a ++ b) = nodesL a + nodesL b := fun a b => by
      induction a with
      | nil => simp [nodesL]
      | cons x a ih => rw [List.cons_append]; simp only [nodesL]; omega
    rw [List.reverse_cons, app, nodesL_rev ks]
    simp only [nodesL]
    omega
end
end Go.Proofs.YtnlpeiffbnlncaaDoor

/- Rows of ints that are known whole; contract: slices.Repeat of a row of one int. -/
namespace Go.Proofs.YtnlpeiffbnlncaaDoor
open Go.RowKit
set_option linter.unusedVariables false

set_option maxRecDepth 100000 in
set_option maxHeartbeats 1000000 in
theorem mul64_one (n : Nat) (hn : n ≤ 10) (w : World) : Calls Tryd.prog 128 #[.int .u64 1, .int .u64 (n : Int)] w fun e w' => e = .returned (.tuple #[.int .u64 0, .int .u64 (n : Int)]) ∧ w = w' := by
  have h : n = 0 ∨ n = 1 ∨ n = 2 ∨ n = 3 ∨ n = 4 ∨ n = 5 ∨ n = 6 ∨ n = 7 ∨ n = 8 ∨ n = 9 ∨ n = 10 := by omega
  rcases h with rfl | rfl | rfl | rfl | rfl | rfl | rfl | rfl | rfl | rfl | rfl
  all_goals
    go_enter Tryd.func128, Tryd.ntmps128
    go_wp2
    go_ret2
    exact ⟨rfl, rfl⟩
set_option maxRecDepth 100000 in
set_option maxHeartbeats 1000000 in
theorem mul_one (n : Nat) (hn : n ≤ 10) (w : World) : Calls Tryd.prog 111 #[.int .u64 1, .int .u64 (n : Int)] w fun e w' => e = .returned (.tuple #[.int .u64 0, .int .u64 (n : Int)]) ∧ w = w' := by
  go_enter Tryd.func111, Tryd.ntmps111
  go_wp2_with fail
  refine (mul64_one n hn _).mono ?_
  rintro e w' ⟨rfl, rfl⟩
  go_wp2
  go_ret2
  exact ⟨rfl, rfl⟩

/-- k times -1, then zeros. -/
def rl (n k : Nat) : List Int := List.replicate k (-1) ++ List.replicate (n - k) 0
def ivals (l : List Int) : List Value := l.map fun x => Value.int .i64 x
theorem icells_vals (l : List Int) : icells l = (ivals l).toArray := rfl
theorem rl_splice (n k m : Nat) (h : k + m ≤ n) : splice (ivals (rl n k)) k (ivals (List.replicate m (-1))) = ivals (rl n (k + m)) := by
  unfold splice rl ivals
  simp only [List.map_append, List.map_replicate, List.length_replicate]
  rw [List.take_append_of_le_length (by simp), List.take_of_length_le (by simp), List.drop_append, List.drop_of_length_le (by simp)]
  simp only [List.length_replicate, List.nil_append, List.drop_replicate]
  rw [show n - k - (k + m - k) = n - (k + m) from by omega, ← List.append_assoc, List.replicate_append_replicate]
theorem rl_full (n : Nat) : rl n n = List.replicate n (-1) := by simp [rl]
theorem rl_zero (n : Nat) : rl n 0 = List.replicate n 0 := by simp [rl]
def RepL (n g : Nat) (w : World) (i : Value) (wr : World) : Prop :=
  ∃ k : Nat, 1 ≤ k ∧ k ≤ n ∧ i = .int .i64 k ∧ Blk' wr g 3 (icells (rl n k)) ∧ Below w.heap.size w wr

set_option maxRecDepth 100000 in
set_option maxHeartbeats 1000000 in
theorem repeat_any (b o n : Nat) (w : World) (h1 : 1 ≤ n) (hn : n ≤ 10) (hc : w.cell? ⟨b, o, none⟩ = some (.int .i64 (-1))) :
    Calls Tryd.prog 83 #[.slice (some ⟨b, o, none⟩) 1 1, .int .i64 (n : Int)] w fun e w' =>
      ∃ g, e = .returned (.slice (some ⟨g, 0, none⟩) n n) ∧ Blk' w' g 3 (icells (List.replicate n (-1))) ∧ w.heap.size ≤ g ∧ Below w.heap.size w w' := by
  have hmk := mkInts n (by omega)
  have hn0 : (0 : Int) ≤ (n : Int) := by omega
  have hn1 : (n : Int) ≤ 10 := by omega
  have hbl : b < w.heap.size := World.block_lt_of_cell? w _ hc
  go_enter Tryd.func83, Tryd.ntmps83
  go_wp2_with fail
  refine (mul_one n hn _).mono ?_
  rintro e w' ⟨rfl, rfl⟩
  have hub := Tryd.underlying22
  have hsz : (Tryd.prog.info? 3).map (·.size) = some 1 := by kernel_rfl
  have HN := Lib.hid (Blk'.new w 3 (icells (List.replicate n 0)))
  have HS := Lib.hid (And.intro hub hsz)
  have HC := Lib.hid hc
  have HSp := Lib.hid (rl_splice n)
  clear hub hsz
  have HC2 : Hid (∀ (j : Nat) (v : Value), [Value.int .i64 (-1)][j]? = some v → (w.alloc (.cells (icells (List.replicate n 0)) 3)).cell? ((⟨b, o, none⟩ : Addr).add j) = some v) := Lib.hid (by
    intro j v hj
    match j, hj with
    | 0, hj =>
      simp at hj; subst hj
      have h := ((Below.refl w.heap.size w).alloc (Nat.le_refl _) (.cells (icells (List.replicate n 0)) 3)).cell (p := ⟨b, o, none⟩) hbl
      simpa [Addr.add] using h.trans HC.out)
  have HN0 : Hid ((w.alloc (.cells (icells (List.replicate n 0)) 3)).heap[w.heap.size]? = some (.cells (ivals (rl n 0)).toArray 3 (0, 0))) := Lib.hid (by rw [rl_zero]; exact HN.out)
  have HL : Hid ([Value.int .i64 (-1)].length = Nat.min 1 n) := Lib.hid (by show 1 = min 1 n; omega)
  have HF : Hid (0 + [Value.int .i64 (-1)].length ≤ (ivals (rl n 0)).length) := Lib.hid (by simp [ivals, rl]; omega)
  have H1c : Hid (∀ v ∈ [Value.int .i64 (-1)], v.oneCell' = true) := Lib.hid (by intro v hv; simp at hv; subst hv; rfl)
  have HB0 := Lib.hid ((Below.refl w.heap.size w).alloc (Nat.le_refl _) (.cells (icells (List.replicate n 0)) 3))
  go_wp2_with (refine wpList_copy_splice (o := ⟨some 33, _, _, _, _, _⟩) rfl _ _ 22 22 rfl 3 HS.out.1 HS.out.2 _ _ _ _ _ _ rfl rfl w.heap.size 0 (ivals (rl n 0)) 3 HN0.out [.int .i64 (-1)] HL.out (fun _ => ⟨rfl, _, rfl, HC2.out⟩) HF.out H1c.out w.heap.size w HB0.out (Nat.le_refl _) ?_; intro w2 hg2 hb2; have H2 := Lib.hid (And.intro hg2.out hb2); clear hg2 hb2)
  have HZ : Hid (splice (ivals (rl n 0)) 0 [Value.int .i64 (-1)] = ivals (rl n 1)) := Lib.hid (by have h := HSp.out 0 1 h1; simpa [ivals] using h)
  have HR : Hid (RepL n w.heap.size w (.int .i64 ((1 : Nat) : Int)) w2) := Lib.hid ⟨1, Nat.le_refl _, h1, rfl, by have h := H2.out.1; rw [HZ.out] at h; exact h, H2.out.2⟩
  have hc1 : w.cell? ⟨b, o, none⟩ = some (.int .i64 (-1)) := HC.out
  clear hc hc1 HN HN0 HC2 HB0 H2
  go_loopw [8] (fun i wr => RepL n w.heap.size w i wr) (fun i _ => n - (intOf i).toNat)
  case atStart => exact HR.out
  case round =>
    obtain ⟨wo, hwo⟩ : ∃ wo : World, wo = wr := ⟨_, rfl⟩
    subst hwo
    obtain ⟨k, hk1, hk2, rfl, hB, hb⟩ := hrel
    have HBk := Lib.hid hB
    have HBl := Lib.hid hb
    have hz := hb.size
    clear hB hb HR
    by_cases hlt : k < n
    · have hkn : (k : Int) < (n : Int) := by omega
      have hk0 : (0 : Int) ≤ (k : Int) := by omega
      have hmin : min k (n - k) ≤ k ∧ min k (n - k) ≤ n - k ∧ 1 ≤ min k (n - k) := by omega
      obtain ⟨m, hm⟩ : ∃ m, m = min k (n - k) := ⟨_, rfl⟩
      rw [← hm] at hmin
      obtain ⟨X, hX⟩ : ∃ X, X = ivals (List.replicate m (-1)) := ⟨_, rfl⟩
      have HXl : Hid (X.length = Nat.min k (n - k)) := Lib.hid (by rw [hX]; simp only [ivals, List.length_map, List.length_replicate]; exact hm)
      have HXm : Hid (X.length = m) := Lib.hid (by rw [hX]; simp [ivals])
      have HXs : Hid (∀ (j : Nat) (v : Value), X[j]? = some v → wo.drew.cell? ((⟨w.heap.size, 0, none⟩ : Addr).add j) = some v) := Lib.hid (by
        intro j v hj
        have e : (⟨w.heap.size, 0, none⟩ : Addr).add j = ⟨w.heap.size, j, none⟩ := by unfold Addr.add; split <;> simp_all
        rw [e]
        have hjl : j < m := by have := (List.getElem?_eq_some_iff.1 hj).1; rw [HXm.out] at this; exact this
        have h2 := HBk.out.drew.cell j
        rw [hX] at hj
        simp only [ivals, List.getElem?_map, List.getElem?_replicate, if_pos hjl, Option.map_some] at hj
        rw [h2, ← hj]
        exact icells_get (by simp only [rl]; rw [List.getElem?_append_left (by simp; omega), List.getElem?_replicate, if_pos (by omega)]))
      have HXf : Hid (k + X.length ≤ (ivals (rl n k)).length) := Lib.hid (by rw [HXm.out]; simp [ivals, rl]; omega)
      have HX1 : Hid (∀ v ∈ X, v.oneCell' = true) := Lib.hid (by intro v hv; rw [hX] at hv; simp [ivals] at hv; rw [hv.2]; rfl)
      have HB0 : Hid (wo.drew.heap[w.heap.size]? = some (.cells (ivals (rl n k)).toArray 3 (0, 0))) := Lib.hid HBk.out
      have HBd : Hid (Below w.heap.size w wo.drew) := Lib.hid HBl.out.drew
      have HNx : Hid (splice (ivals (rl n k)) k X = ivals (rl n (k + m))) := Lib.hid (by rw [hX]; exact HSp.out k m (by omega))
      have hsum : IntKind.i64.wrap ((k : Int) + (m : Int)) = (k : Int) + (m : Int) := IntWalk.i64_in _ (by omega)
      obtain ⟨w2, hcp, hg2, hb2⟩ : ∃ w2, (Builtin.copy_ #[22, 22] 3 #[.slice (some ⟨w.heap.size, k, none⟩) (n - k) (n - k), .slice (some ⟨w.heap.size, 0, none⟩) k n]).run Tryd.prog wo.drew = .ok (.int .i64 (m : Int)) w2 ∧ Blk' w2 w.heap.size 3 (icells (rl n (k + m))) ∧ Below w.heap.size w w2 := by
        have hr := run_copy_row (P := Tryd.prog) (w := wo.drew) 22 22 3 3 w.heap.size k (n - k) (n - k) ⟨w.heap.size, 0, none⟩ k n (ivals (rl n k)).toArray 3 X HS.out.1 HS.out.2 HB0.out HXl.out HXs.out (by simpa using HXf.out) HX1.out
        refine ⟨_, by rw [hr, HXm.out]; rfl, ?_, below_setRow HBd.out (Nat.le_refl _) _⟩
        have h2 := setRow_heap wo.drew w.heap.size (ivals (rl n k)).toArray ((ivals (rl n k)).toArray.toList.take k ++ (X ++ (ivals (rl n k)).toArray.toList.drop (k + X.length))).toArray 3 (0, 0) HB0.out
        have h3 := HNx.out
        unfold splice at h3
        unfold Blk'
        rw [icells_vals, ← h3]
        simp only [List.append_assoc, HXm.out] at h2 ⊢
        exact h2
      have H2 := Lib.hid (And.intro hg2 hb2)
      clear hm hX hg2 hb2
      go_wp2_with fail
      go_region
      all_goals
        go_wp2
        go_roundw
        case rel => exact ⟨k + m, by omega, by omega, by go_num, H2.out.1, H2.out.2⟩
        case measure => simp [intOf]; omega
    · have hkn : k = n := by omega
      subst hkn
      go_wp2
      go_ret
      exact ⟨_, rfl, by have h := HBk.out; rw [rl_full] at h; exact h, Nat.le_refl _, HBl.out⟩
end Go.Proofs.YtnlpeiffbnlncaaDoor

/- Contract: slices.Clone at ints: a row of the call's own, with cells behind it. -/
namespace Go.Proofs.YtnlpeiffbnlncaaDoor
open Go.RowKit
set_option linter.unusedVariables false

/-- A row of ints that the call owns is a block: its ints, and cells behind them. -/
theorem ownsRow_blk {w : World} {base n : Nat} {e : TypeId} {v : Value} {l : List Int} (h : w.ownsRow base e 1 v n (ivals l)) (hne : l ≠ []) :
    ∃ b k z, v = .slice (some ⟨b, 0, none⟩) n k ∧ Blk' w b e (icells l ++ z) ∧ n ≤ k ∧ k ≤ 9223372036854775807 ∧ base ≤ b := by
  obtain ⟨hl, h⟩ := h
  have hln : l.length = n := by simpa [ivals] using hl
  have hpos : 0 < l.length := by cases l with | nil => exact absurd rfl hne | cons a l => simp
  rcases h with ⟨_, h0⟩ | ⟨g, cap, cur, rfl, hg, hh, hnc, hcm, hsz, hx⟩
  · omega
  · refine ⟨g, cap, (cur.toList.drop n).toArray, rfl, ?_, hnc, by simpa [maxLen] using hcm, hg⟩
    have e1 : icells l ++ (cur.toList.drop n).toArray = cur := by
      apply Array.ext'
      rw [icells_vals]
      simp only [Array.toList_append]
      have h2 : ivals l = cur.toList.take n := by rw [← hx]; simp
      rw [h2]
      simp
    unfold Blk'
    rw [e1]
    exact hh

set_option maxRecDepth 100000 in
set_option maxHeartbeats 2000000 in
theorem cloneInt_any (l : List Int) (A : Option Addr) (c n : Nat) (S : Nat → Prop) (w : World) (hl : n = l.length) (h0 : l ≠ []) (hm : l.length ≤ 1000000) (hA : Els w S l A) :
    Calls Tryd.prog 56 #[.slice A n c] w fun e w' => ∃ b k z, e = .returned (.slice (some ⟨b, 0, none⟩) n k) ∧ Blk' w' b 3 (icells l ++ z) ∧ n ≤ k ∧ k ≤ 9223372036854775807 ∧ w.heap.size ≤ b ∧ Below w.heap.size w w' := by
  subst hl
  obtain ⟨i0, hi, hz0, hz1, hz2⟩ := info_parts infoInt
  obtain ⟨b, o, rfl, hSb, hx⟩ := hA h0
  have HX : Hid (∀ (j : Nat) (x : Int), l[j]? = some x → w.cell? ⟨b, o + j, none⟩ = some (.int .i64 x)) := Lib.hid (fun j x hj => by
    obtain ⟨cs, ⟨rfl, _⟩, hat⟩ := hx j x hj
    have h1 := hat 0 _ rfl
    have e : Dat.size Int = 1 := rfl
    rw [e] at h1
    simpa using h1)
  have q22 : ∀ (w : World) (a : Option Addr) (n c n' c' : Nat), (binOp .eql 22 (.slice a n c) (.slice none n' c')).run Tryd.prog w = .ok (.bool a.isNone) w := fun w a n c n' c' => Lib.run_eql_slice_nil w _ _ a n c n' c' Tryd.underlying22
  clear hx hA
  go_enter Tryd.func56, Tryd.ntmps56
  go_wp2_with (at_builtin; refine wpList_append_own _ rfl _ _ 22 rfl w.heap.size 3 i0 (.int .i64 0) 1 8 Tryd.underlying22 hi hz0 hz1 hz2 rfl (by decide) _ _ _ rfl (World.ownsRow_made w #[] 0 (Nat.le_refl _) (Nat.zero_le _) rfl) ⟨b, o, none⟩ l.length c (ivals l) rfl ?qc1 ?qc2 ?qc3 ?qc4 ?qc5 ?qc6 ?_)
  case qc1 => simp [ivals]
  case qc2 =>
    intro j u hj
    have hadd : (⟨b, o, none⟩ : Addr).add j = ⟨b, o + j, none⟩ := by unfold Addr.add; split <;> simp_all
    rw [hadd]
    simp only [ivals, List.getElem?_map, Option.map_eq_some_iff] at hj
    obtain ⟨x, hj, rfl⟩ := hj
    exact ((Below.refl w.heap.size w).alloc (Nat.le_refl _) _).cell (p := ⟨b, o + j, none⟩) (World.block_lt_of_cell? w _ (HX.out j x hj)) |>.trans (HX.out j x hj)
  case qc3 => intro u hu; obtain ⟨x, _, rfl⟩ := List.mem_map.1 hu; rfl
  case qc4 => unfold maxLen; omega
  case qc5 => omega
  case qc6 => simp
  intro v' w1 hown hgrow hnil
  obtain ⟨b', k, z, rfl, hB, hk1, hk2, hge⟩ := ownsRow_blk (by simpa using hown) h0
  have HB := Lib.hid hB
  have HG : Hid (Below w.heap.size w w1) := Lib.hid (((Below.refl _ w).alloc (Nat.le_refl _) _).grown hgrow (by simp) (by intro k hk; simp [Value.ownBlock] at hk; omega))
  clear hB hown hgrow hnil
  go_wp2
  go_ret
  exact ⟨b', k, z, rfl, HB.out, hk1, hk2, hge, HG.out⟩
end Go.Proofs.YtnlpeiffbnlncaaDoor

/- Contracts: slices.Reverse at ints for a row that lies in a block of its own; parlkeep2.reversed. -/
namespace Go.Proofs.YtnlpeiffbnlncaaDoor
open Go.RowKit
set_option linter.unusedVariables false

/-- A row of numbers at the head of a block. -/
def RowN (w : World) (b : Nat) (xs : List Int) : Prop := ∃ t cur, Blk' w b t cur ∧ ∀ (i : Nat) (x : Int), xs[i]? = some x → cur[i]? = some (.int .i64 x) ∧ I64 x
section
variable {w w' : World} {b : Nat} {xs : List Int}
theorem RowN.cells (h : RowN w b xs) {i : Nat} {x : Int} (hx : xs[i]? = some x) : w.cell? ⟨b, i, none⟩ = some (.int .i64 x) ∧ I64 x := by
  obtain ⟨t, cur, hb, hc⟩ := h
  obtain ⟨h1, h3⟩ := hc i x hx
  exact ⟨by rw [hb.cell]; exact h1, h3⟩
theorem RowN.frozen (h : RowN w b xs) (i : Nat) : w.frozen? ⟨b, i, none⟩ = false := by
  obtain ⟨t, cur, hb, _⟩ := h
  exact hb.frozen i
theorem RowN.lt (h : RowN w b xs) : b < w.heap.size := by
  obtain ⟨t, cur, hb, _⟩ := h
  exact hb.lt
theorem RowN.put (h : RowN w b xs) {j : Nat} (hj : j < xs.length) (s : Int) (hs : I64 s) : RowN (w.setCell ⟨b, j, none⟩ (.int .i64 s)) b (xs.set j s) := by
  obtain ⟨t, cur, hb, hc⟩ := h
  refine ⟨t, _, hb.set_ j (.int .i64 s), fun i x hx => ?_⟩
  obtain ⟨d0, _⟩ := hc j _ (List.getElem?_eq_getElem hj)
  have e0 := (Array.getElem?_eq_some_iff.1 d0).1
  rw [List.getElem?_set] at hx
  split at hx
  · rename_i e
    subst e
    first | rw [if_pos hj] at hx | skip
    injection hx with hx
    subst hx
    exact ⟨by rw [Array.getElem?_setIfInBounds_self_of_lt e0], hs⟩
  · rename_i e
    obtain ⟨h1, h3⟩ := hc i x hx
    exact ⟨by rw [Array.getElem?_setIfInBounds_ne (by omega)]; exact h1, h3⟩
theorem RowN.els {S : Nat → Prop} (h : RowN w b xs) (hS : S b) : Els w S xs (some ⟨b, 0, none⟩) := fun _ => ⟨b, 0, rfl, hS, fun i x hi => by
  obtain ⟨h1, h3⟩ := h.cells hi
  refine ⟨[.int .i64 x], ⟨rfl, h3⟩, fun j u hu => ?_⟩
  match j, hu with
  | 0, hu => simp at hu; subst hu; simpa [show Dat.size Int = 1 from rfl] using h1⟩
end

/-- k numbers from each end are turned. -/
def RvN (l : List Int) (k : Nat) (m : List Int) : Prop := m.length = l.length ∧ ∀ i, m[i]? = if i < k ∨ l.length ≤ i + k then l.reverse[i]? else l[i]?
theorem RvN.zero (l : List Int) : RvN l 0 l := ⟨rfl, fun i => by
  split
  · rename_i h
    rw [List.getElem?_eq_none (by omega), List.getElem?_eq_none (by rw [List.length_reverse]; omega)]
  · rfl⟩
theorem revN_at {l : List Int} {i : Nat} (h : i < l.length) : l.reverse[i]? = l[l.length - 1 - i]? := List.getElem?_reverse h
theorem RvN.step {l m : List Int} {k j : Nat} {x y : Int} (h : RvN l k m) (hkj : k < j) (hj : j + k + 1 = l.length) (hx : m[k]? = some x) (hy : m[j]? = some y) : RvN l (k + 1) ((m.set k y).set j x) := by
  obtain ⟨h1, h2⟩ := h
  refine ⟨by simp [h1], fun i => ?_⟩
  have hx2 := h2 k
  rw [hx, if_neg (by omega)] at hx2
  have hy2 := h2 j
  rw [hy, if_neg (by omega)] at hy2
  rw [List.getElem?_set]
  split
  · rename_i e
    subst e
    rw [if_pos (by simp; omega), if_pos (by omega), revN_at (by omega), show l.length - 1 - j = k by omega, ← hx2]
  · rename_i e
    rw [List.getElem?_set]
    split
    · rename_i e2
      subst e2
      rw [if_pos (by omega), if_pos (by omega), revN_at (by omega), show l.length - 1 - k = j by omega, ← hy2]
    · rename_i e2
      rw [h2 i]
      by_cases c : i < k ∨ l.length ≤ i + k
      · rw [if_pos c, if_pos (by omega)]
      · rw [if_neg c, if_neg (by omega)]
theorem RvN.done {l m : List Int} {k : Nat} (h : RvN l k m) (hk : l.length ≤ 2 * k + 1) : m = l.reverse := by
  refine List.ext_getElem? fun i => ?_
  rw [h.2 i]
  split
  · rfl
  · rename_i c
    rw [revN_at (by omega), show l.length - 1 - i = i by omega]
def RvM (l : List Int) (b : Nat) (w : World) (i j : Value) (wr : World) : Prop :=
  ∃ (k : Nat) (jv : Int) (m : List Int), 2 * k ≤ l.length ∧ jv = (l.length : Int) - 1 - (k : Int) ∧ i = .int .i64 k ∧ j = .int .i64 jv ∧ RvN l k m ∧ RowN wr b m ∧ Kept (fun x => x = b) w wr

set_option maxRecDepth 100000 in
set_option maxHeartbeats 2000000 in
theorem revInt_any (l : List Int) (b c : Nat) (w : World) (hl : l.length ≤ 1000000) (hR : RowN w b l) :
    Calls Tryd.prog 57 #[.slice (some ⟨b, 0, none⟩) l.length c] w fun e w' => e = .returned (.tuple #[]) ∧ RowN w' b l.reverse ∧ Kept (fun x => x = b) w w' := by
  have HR := Lib.hid hR
  have hw0 : IntKind.i64.wrap ((l.length : Int) - 1) = (l.length : Int) - 1 := IntWalk.i64_in _ (by omega)
  clear hR
  go_enter Tryd.func57, Tryd.ntmps57
  go_wp2_with fail
  clear hw0
  go_loopw [2, 3] (fun i j wr => RvM l b w i j wr) (fun i _ _ => l.length - (intOf i).toNat)
  case atStart => exact ⟨0, _, l, by omega, by omega, rfl, rfl, RvN.zero l, HR.out, Kept.refl _ _⟩
  case round =>
    obtain ⟨wo, hwo⟩ : ∃ wo : World, wo = wr := ⟨_, rfl⟩
    subst hwo
    obtain ⟨k, jv, m, hk, hjv, rfl, rfl, hrv, hrow, hkp⟩ := hrel
    have HRv := Lib.hid hrv
    have HRo := Lib.hid hrow
    have HK := Lib.hid hkp
    have HJ := Lib.hid hjv
    clear hrv hrow hkp
    by_cases hlt : (k : Int) < jv
    · obtain ⟨j, rfl⟩ : ∃ j : Nat, jv = (j : Int) := ⟨jv.toNat, by omega⟩
      have hkj : k < j := by omega
      have hjl : j + k + 1 = l.length := by omega
      have hml := HRv.out.1
      obtain ⟨x, hx⟩ := get_some (xs := m) (k := k) (by omega)
      obtain ⟨y, hy⟩ := get_some (xs := m) (k := j) (by omega)
      obtain ⟨x0, x2⟩ := HRo.out.cells hx
      obtain ⟨y0, y2⟩ := HRo.out.cells hy
      have f0 := HRo.out.frozen k
      have f2 := HRo.out.frozen j
      have zb := HRo.out.lt
      have k0 : (0 : Int) ≤ (k : Int) := by omega
      have k1 : (k : Int) < (l.length : Int) := by omega
      have j0 : (0 : Int) ≤ (j : Int) := by omega
      have j1 : (j : Int) < (l.length : Int) := by omega
      have hw1 : IntKind.i64.wrap ((k : Int) + 1) = (k : Int) + 1 := IntWalk.i64_in _ (by omega)
      have hw2 : IntKind.i64.wrap ((j : Int) - 1) = (j : Int) - 1 := IntWalk.i64_in _ (by omega)
      have HN := Lib.hid (HRv.out.step hkj hjl hx hy)
      have HP := Lib.hid (And.intro x2 y2)
      have HL := Lib.hid (And.intro hkj (And.intro hjl hml))
      have hne1 : ¬ k = j := by omega
      have hne2 : ¬ j = k := by omega
      clear hx hy x2 y2 hjv hjl hml
      go_wp2_with fail
      go_region
      all_goals
        go_wp2_with fail
        go_roundw
        case rel =>
          obtain ⟨q1, q2, q3⟩ := HL.out
          refine ⟨k + 1, _, _, by omega, ?_, by go_num, rfl, HN.out, ((HRo.out.put (j := k) (by omega) y HP.out.2).put (j := j) (by simp; omega) x HP.out.1), ((HK.out.setCell (p := ⟨b, k, none⟩) (.inl rfl) _).setCell (p := ⟨b, j, none⟩) (.inl rfl) _).drew⟩
          omega
        case measure => simp [intOf]; omega
    · have HD := Lib.hid (HRv.out.done (by omega))
      clear hjv
      go_wp2_with fail
      go_end0
      exact ⟨rfl, HD.out ▸ HRo.out, HK.out⟩

set_option maxRecDepth 100000 in
theorem revIntNil_any (A : Option Addr) (c : Nat) (w : World) :
    Calls Tryd.prog 57 #[.slice A 0 c] w fun e w' => e = .returned (.tuple #[]) ∧ w = w' := by
  have hw0 : IntKind.i64.wrap (-1 : Int) = -1 := IntWalk.i64_in _ (by omega)
  go_enter Tryd.func57, Tryd.ntmps57
  go_wp2_with fail
  go_loopw [2, 3] (fun i j wr => i = .int .i64 0 ∧ j = .int .i64 (-1) ∧ wr = w) (fun i _ _ => 0)
  case atStart => exact ⟨rfl, rfl, rfl⟩
  case round =>
    obtain ⟨rfl, rfl, rfl⟩ := hrel
    go_wp2_with fail
    go_end0
    exact ⟨rfl, rfl⟩

set_option maxRecDepth 100000 in
theorem cloneIntE_any (A : Option Addr) (c : Nat) (w : World) (hc : c ≤ 9223372036854775807) :
    Calls Tryd.prog 56 #[.slice A 0 c] w fun e w' => ∃ A' c', e = .returned (.slice A' 0 c') ∧ c' ≤ 9223372036854775807 ∧ Below w.heap.size w w' := by
  have q22 : ∀ (w : World) (a : Option Addr) (n c n' c' : Nat), (binOp .eql 22 (.slice a n c) (.slice none n' c')).run Tryd.prog w = .ok (.bool a.isNone) w := fun w a n c n' c' => Lib.run_eql_slice_nil w _ _ a n c n' c' Tryd.underlying22
  have HB := Lib.hid ((Below.refl w.heap.size w).alloc (Nat.le_refl _) (.cells #[] 3))
  have HB0 := Lib.hid (Below.refl w.heap.size w)
  cases A with
  | none =>
    go_enter Tryd.func56, Tryd.ntmps56
    go_wp2
    go_ret
    exact ⟨none, 0, rfl, by omega, HB0.out⟩
  | some a =>
    go_enter Tryd.func56, Tryd.ntmps56
    go_wp2
    go_ret
    exact ⟨_, _, rfl, by omega, HB.out⟩

/-- What reversed answers. -/
def RetRev (l : List Int) (w : World) (e : Ending) (w' : World) : Prop :=
  ∃ A c, e = .returned (.slice A l.length c) ∧ Els w' (fun b => w.heap.size ≤ b ∧ b < w'.heap.size) l.reverse A ∧ Below w.heap.size w w'
set_option maxRecDepth 100000 in
set_option maxHeartbeats 2000000 in
theorem reversed_any (l : List Int) (A : Option Addr) (c : Nat) (S : Nat → Prop) (w : World) (hm : l.length ≤ 1000000) (hc : c ≤ 9223372036854775807) (hA : Els w S l A) :
    Calls Tryd.prog 21 #[.slice A l.length c] w (RetRev l w) := by
  have HA := Lib.hid hA
  clear hA
  by_cases h0 : l = []
  · subst h0
    go_enter Tryd.func21, Tryd.ntmps21
    go_wp2_with fail
    refine (cloneIntE_any A c w hc).mono ?_
    rintro e w1 ⟨A1, c1, rfl, _, hb1⟩
    have HB1 := Lib.hid hb1
    clear hb1
    go_wp2_with fail
    refine (revIntNil_any A1 c1 w1).mono ?_
    rintro e w2 ⟨rfl, rfl⟩
    go_wp2
    go_ret
    exact ⟨A1, c1, rfl, fun h => absurd rfl h, HB1.out⟩
  · have h64 : ∀ (i : Nat) (x : Int), l[i]? = some x → I64 x := fun i x hx => by
      obtain ⟨b, o, cs, _, _, _, hrd, _⟩ := HA.out.at_ hx
      exact hrd.2
    have H64 := Lib.hid h64
    have HN := Lib.hid h0
    clear h64 h0
    go_enter Tryd.func21, Tryd.ntmps21
    go_wp2_with fail
    refine (cloneInt_any l A c l.length S w rfl HN.out hm HA.out).mono ?_
    rintro e w1 ⟨b, k, z, rfl, hblk, hk1, hk2, hge, hb1⟩
    have HB1 := Lib.hid hb1
    have HGe := Lib.hid hge
    have HR := Lib.hid (show RowN w1 b l from ⟨_, _, hblk, fun i x hx => ⟨by
      rw [Array.getElem?_append_left (by have h1 := (List.getElem?_eq_some_iff.1 hx).1; simp [icells]; omega)]
      exact icells_get hx, H64.out i x hx⟩⟩)
    clear hb1 hblk hge
    go_wp2_with fail
    refine (revInt_any l b k w1 hm HR.out).mono ?_
    rintro e w2 ⟨rfl, hrow, hk⟩
    have HRo := Lib.hid hrow
    have HK := Lib.hid hk
    clear hrow hk
    go_wp2
    go_ret
    have hs := HK.out.size
    refine ⟨some ⟨b, 0, none⟩, k, rfl, HRo.out.els ⟨HGe.out, HRo.out.lt⟩, HB1.out.trans (HK.out.to_below (fun x e => by have e2 : x = b := e; have := HGe.out; omega) HB1.out.size)⟩
end Go.Proofs.YtnlpeiffbnlncaaDoor

/- Contract: slices.Reverse at symbols, for a row that lies in a block. -/
namespace Go.Proofs.YtnlpeiffbnlncaaDoor
open Go.RowKit
set_option linter.unusedVariables false

/-- A row of symbols at an offset of a block. -/
def RowS (w : World) (b o : Nat) (xs : List Sym) : Prop := ∃ t cur, Blk' w b t cur ∧ ∀ (i : Nat) (x : Sym), xs[i]? = some x → cur[o + i * 2]? = some (.bool x.term) ∧ cur[o + i * 2 + 1]? = some (.int .i64 x.n) ∧ I64 x.n
section
variable {w w' : World} {b o : Nat} {xs : List Sym}
theorem RowS.cells (h : RowS w b o xs) {i : Nat} {x : Sym} (hx : xs[i]? = some x) : w.cell? ⟨b, o + i * 2, none⟩ = some (.bool x.term) ∧ w.cell? ⟨b, o + i * 2 + 1, none⟩ = some (.int .i64 x.n) ∧ I64 x.n := by
  obtain ⟨t, cur, hb, hc⟩ := h
  obtain ⟨h1, h2, h3⟩ := hc i x hx
  exact ⟨by rw [hb.cell]; exact h1, by rw [hb.cell]; exact h2, h3⟩
theorem RowS.frozen (h : RowS w b o xs) (i : Nat) : w.frozen? ⟨b, i, none⟩ = false := by
  obtain ⟨t, cur, hb, _⟩ := h
  exact hb.frozen i
theorem RowS.lt (h : RowS w b o xs) : b < w.heap.size := by
  obtain ⟨t, cur, hb, _⟩ := h
  exact hb.lt
theorem RowS.drew (h : RowS w b o xs) : RowS w.drew b o xs := h
theorem RowS.undrew (h : RowS w.drew b o xs) : RowS w b o xs := h
theorem RowS.kept {X : Nat → Prop} (h : RowS w b o xs) (k : Kept X w w') (hx : ¬ X b) : RowS w' b o xs := by
  obtain ⟨t, cur, hb, hc⟩ := h
  exact ⟨t, cur, hb.kept k hx, hc⟩
theorem RowS.put (h : RowS w b o xs) {j : Nat} (hj : j < xs.length) (s : Sym) (hs : I64 s.n) : RowS ((w.setCell ⟨b, o + j * 2, none⟩ (.bool s.term)).setCell ⟨b, o + j * 2 + 1, none⟩ (.int .i64 s.n)) b o (xs.set j s) := by
  obtain ⟨t, cur, hb, hc⟩ := h
  refine ⟨t, _, (hb.set_ (o + j * 2) (.bool s.term)).set_ (o + j * 2 + 1) (.int .i64 s.n), fun i x hx => ?_⟩
  obtain ⟨d0, d1, _⟩ := hc j _ (List.getElem?_eq_getElem hj)
  have e0 := (Array.getElem?_eq_some_iff.1 d0).1
  have e1 := (Array.getElem?_eq_some_iff.1 d1).1
  rw [List.getElem?_set] at hx
  split at hx
  · rename_i e
    subst e
    first | rw [if_pos hj] at hx | skip
    injection hx with hx
    subst hx
    refine ⟨?_, ?_, hs⟩
    · rw [Array.getElem?_setIfInBounds_ne (by omega), Array.getElem?_setIfInBounds_self_of_lt e0]
    · rw [Array.getElem?_setIfInBounds_self_of_lt (by simpa using e1)]
  · rename_i e
    obtain ⟨h1, h2, h3⟩ := hc i x hx
    refine ⟨?_, ?_, h3⟩
    · rw [Array.getElem?_setIfInBounds_ne (by omega), Array.getElem?_setIfInBounds_ne (by omega)]; exact h1
    · rw [Array.getElem?_setIfInBounds_ne (by omega), Array.getElem?_setIfInBounds_ne (by omega)]; exact h2
theorem RowS.els {S : Nat → Prop} (h : RowS w b o xs) (hS : S b) : Els w S xs (some ⟨b, o, none⟩) := fun _ => ⟨b, o, rfl, hS, fun i x hi => by
  obtain ⟨h1, h2, h3⟩ := h.cells hi
  refine ⟨[.bool x.term, .int .i64 x.n], ⟨rfl, h3⟩, fun j u hu => ?_⟩
  match j, hu with
  | 0, hu => simp at hu; subst hu; exact h1
  | 1, hu => simp at hu; subst hu; exact h2⟩
theorem RowS.of {S : Nat → Prop} {t : TypeId} {cur : Array Value} (h : Els w S xs (some ⟨b, o, none⟩)) (hb : Blk' w b t cur) : RowS w b o xs := ⟨t, cur, hb, fun i x hi => by
  obtain ⟨b1, o1, e, _, _, h1, h2, h3⟩ := h.sym hi
  injection e with e
  injection e with e1 e2 _
  subst e1; subst e2
  rw [hb.cell] at h2 h3
  exact ⟨h2, h3, h1⟩⟩
end

/-- k symbols from each end are turned. -/
def RvS (l : List Sym) (k : Nat) (m : List Sym) : Prop := m.length = l.length ∧ ∀ i, m[i]? = if i < k ∨ l.length ≤ i + k then l.reverse[i]? else l[i]?
theorem RvS.zero (l : List Sym) : RvS l 0 l := ⟨rfl, fun i => by
  split
  · rename_i h
    rw [List.getElem?_eq_none (by omega), List.getElem?_eq_none (by rw [List.length_reverse]; omega)]
  · rfl⟩
theorem rev_at {l : List Sym} {i : Nat} (h : i < l.length) : l.reverse[i]? = l[l.length - 1 - i]? := List.getElem?_reverse h
theorem RvS.step {l m : List Sym} {k j : Nat} {x y : Sym} (h : RvS l k m) (hkj : k < j) (hj : j + k + 1 = l.length) (hx : m[k]? = some x) (hy : m[j]? = some y) : RvS l (k + 1) ((m.set k y).set j x) := by
  obtain ⟨h1, h2⟩ := h
  refine ⟨by simp [h1], fun i => ?_⟩
  have hx2 := h2 k
  rw [hx, if_neg (by omega)] at hx2
  have hy2 := h2 j
  rw [hy, if_neg (by omega)] at hy2
  rw [List.getElem?_set]
  split
  · rename_i e
    subst e
    rw [if_pos (by simp; omega), if_pos (by omega), rev_at (by omega), show l.length - 1 - j = k by omega, ← hx2]
  · rename_i e
    rw [List.getElem?_set]
    split
    · rename_i e2
      subst e2
      rw [if_pos (by omega), if_pos (by omega), rev_at (by omega), show l.length - 1 - k = j by omega, ← hy2]
    · rename_i e2
      rw [h2 i]
      by_cases c : i < k ∨ l.length ≤ i + k
      · rw [if_pos c, if_pos (by omega)]
      · rw [if_neg c, if_neg (by omega)]
theorem RvS.done {l m : List Sym} {k : Nat} (h : RvS l k m) (hk : l.length ≤ 2 * k + 1) : m = l.reverse := by
  refine List.ext_getElem? fun i => ?_
  rw [h.2 i]
  split
  · rfl
  · rename_i c
    rw [rev_at (by omega), show l.length - 1 - i = i by omega]
def RvL (l : List Sym) (b o : Nat) (w : World) (i j : Value) (wr : World) : Prop :=
  ∃ (k : Nat) (jv : Int) (m : List Sym), 2 * k ≤ l.length ∧ jv = (l.length : Int) - 1 - (k : Int) ∧ i = .int .i64 k ∧ j = .int .i64 jv ∧ RvS l k m ∧ RowS wr b o m ∧ Kept (fun x => x = b) w wr

set_option maxRecDepth 100000 in
set_option maxHeartbeats 2000000 in
theorem revSym_any (l : List Sym) (b o c : Nat) (w : World) (hl : l.length ≤ 1000000) (hR : RowS w b o l) :
    Calls Tryd.prog 55 #[.slice (some ⟨b, o, none⟩) l.length c] w fun e w' => e = .returned (.tuple #[]) ∧ RowS w' b o l.reverse ∧ Kept (fun x => x = b) w w' := by
  have HR := Lib.hid hR
  have hw0 : IntKind.i64.wrap ((l.length : Int) - 1) = (l.length : Int) - 1 := IntWalk.i64_in _ (by omega)
  clear hR
  go_enter Tryd.func55, Tryd.ntmps55
  go_wp2_with fail
  clear hw0
  go_loopw [2, 3] (fun i j wr => RvL l b o w i j wr) (fun i _ _ => l.length - (intOf i).toNat)
  case atStart => exact ⟨0, _, l, by omega, by omega, rfl, rfl, RvS.zero l, HR.out, Kept.refl _ _⟩
  case round =>
    obtain ⟨wo, hwo⟩ : ∃ wo : World, wo = wr := ⟨_, rfl⟩
    subst hwo
    obtain ⟨k, jv, m, hk, hjv, rfl, rfl, hrv, hrow, hkp⟩ := hrel
    have HRv := Lib.hid hrv
    have HRo := Lib.hid hrow
    have HK := Lib.hid hkp
    have HJ := Lib.hid hjv
    clear hrv hrow hkp
    by_cases hlt : (k : Int) < jv
    · obtain ⟨j, rfl⟩ : ∃ j : Nat, jv = (j : Int) := ⟨jv.toNat, by omega⟩
      have hkj : k < j := by omega
      have hjl : j + k + 1 = l.length := by omega
      have hml := HRv.out.1
      obtain ⟨x, hx⟩ := get_some (xs := m) (k := k) (by omega)
      obtain ⟨y, hy⟩ := get_some (xs := m) (k := j) (by omega)
      obtain ⟨x0, x1, x2⟩ := HRo.out.cells hx
      obtain ⟨y0, y1, y2⟩ := HRo.out.cells hy
      obtain ⟨xt, xn⟩ := x
      obtain ⟨yt, yn⟩ := y
      dsimp only at x0 x1 x2 y0 y1 y2
      have f0 := HRo.out.frozen (o + k * 2)
      have f1 := HRo.out.frozen (o + k * 2 + 1)
      have f2 := HRo.out.frozen (o + j * 2)
      have f3 := HRo.out.frozen (o + j * 2 + 1)
      have zb := HRo.out.lt
      have k0 : (0 : Int) ≤ (k : Int) := by omega
      have k1 : (k : Int) < (l.length : Int) := by omega
      have j0 : (0 : Int) ≤ (j : Int) := by omega
      have j1 : (j : Int) < (l.length : Int) := by omega
      have hw1 : IntKind.i64.wrap ((k : Int) + 1) = (k : Int) + 1 := IntWalk.i64_in _ (by omega)
      have hw2 : IntKind.i64.wrap ((j : Int) - 1) = (j : Int) - 1 := IntWalk.i64_in _ (by omega)
      have HN := Lib.hid (HRv.out.step hkj hjl hx hy)
      have HP := Lib.hid (And.intro x2 y2)
      have HL := Lib.hid (And.intro hkj (And.intro hjl hml))
      clear hx hy x2 y2 hjv hjl hml
      go_wp2_with fail
      go_region
      all_goals
        go_wp2_with fail
        go_roundw
        case rel =>
          obtain ⟨q1, q2, q3⟩ := HL.out
          refine ⟨k + 1, _, _, by omega, ?_, by go_num, rfl, HN.out, ((HRo.out.put (j := k) (by omega) ⟨yt, yn⟩ HP.out.2).put (j := j) (by simp; omega) ⟨xt, xn⟩ HP.out.1), ((((HK.out.setCell (p := ⟨b, o + k * 2, none⟩) (.inl rfl) _).setCell (p := ⟨b, o + k * 2 + 1, none⟩) (.inl rfl) _).setCell (p := ⟨b, o + j * 2, none⟩) (.inl rfl) _).setCell (p := ⟨b, o + j * 2 + 1, none⟩) (.inl rfl) _).drew⟩
          omega
        case measure => simp [intOf]; omega
    · have HD := Lib.hid (HRv.out.done (by omega))
      clear hjv
      go_wp2_with fail
      go_end0
      exact ⟨rfl, HD.out ▸ HRo.out, HK.out⟩

set_option maxRecDepth 100000 in
theorem revNil_any (A : Option Addr) (c : Nat) (w : World) :
    Calls Tryd.prog 55 #[.slice A 0 c] w fun e w' => e = .returned (.tuple #[]) ∧ Below w.heap.size w w' := by
  have hw0 : IntKind.i64.wrap (-1 : Int) = -1 := IntWalk.i64_in _ (by omega)
  go_enter Tryd.func55, Tryd.ntmps55
  go_wp2_with fail
  go_loopw [2, 3] (fun i j wr => i = .int .i64 0 ∧ j = .int .i64 (-1) ∧ wr = w) (fun i _ _ => 0)
  case atStart => exact ⟨rfl, rfl, rfl⟩
  case round =>
    obtain ⟨rfl, rfl, rfl⟩ := hrel
    go_wp2_with fail
    go_end0
    exact ⟨rfl, Below.refl _ _⟩
end Go.Proofs.YtnlpeiffbnlncaaDoor

/- Contract: slices.Clone at symbols, the copy in a block of its own (out of XCopyB). -/
namespace Go.Proofs.YtnlpeiffbnlncaaDoor
open Go.RowKit
set_option linter.unusedVariables false

set_option maxRecDepth 100000 in
set_option maxHeartbeats 2000000 in
theorem cloneSymO_any (l : List Sym) (A : Option Addr) (c n : Nat) (S : Nat → Prop) (w : World) (hl : n = l.length) (hm : l.length ≤ 1000000) (hA : Els w S l A) (hS : ∀ b, S b → b < w.heap.size) :
    Calls Tryd.prog 85 #[.slice A n c] w fun e w' => ∃ (A' : Option Addr) (c' : Nat), e = .returned (.slice A' l.length c') ∧ n ≤ c' ∧ c' ≤ 9223372036854775807 ∧ Own w' (fun b => b < w.heap.size) w.heap.size 69 (.slice A' l.length c') l ∧ Below w.heap.size w w' := by
  subst hl
  have HA := Lib.hid hA
  have HS := Lib.hid hS
  have q22 : ∀ (w : World) (a : Option Addr) (n c n' c' : Nat), (binOp .eql 55 (.slice a n c) (.slice none n' c')).run Tryd.prog w = .ok (.bool a.isNone) w := fun w a n c n' c' => Lib.run_eql_slice_nil w _ _ a n c n' c' Tryd.underlying55
  clear hA hS
  cases A with
  | none =>
    have hl0 : l = [] := by
      cases l with
      | nil => rfl
      | cons x xs => obtain ⟨_, _, e, _⟩ := HA.out (by simp); simp at e
    subst hl0
    have hb := Lib.hid (Below.refl w.heap.size w)
    go_enter Tryd.func85, Tryd.ntmps85
    go_wp2
    go_ret
    exact ⟨none, 0, rfl, Nat.le_refl _, by omega, Own.nil _ _ _ _, hb.out⟩
  | some a =>
    have HB1 := Lib.hid ((Below.refl w.heap.size w).alloc (Nat.le_refl _) (.cells #[] 69))
    have HO := Lib.hid (Own.made (α := Sym) (w := w) (fun b => b < w.heap.size) (base := w.heap.size) (e := 69) (cur := #[]) (cap := 0) (Nat.le_refl _) (by omega) rfl)
    have HE := Lib.hid ((HA.out.below HB1.out).keep (S' := OwnT (fun b => b < w.heap.size) w.heap.size (.slice (some ⟨w.heap.size, 0, none⟩) 0 0) (w.alloc (.cells #[] 69))) (fun _ _ _ => rfl) (fun b hb => by
      have h1 := HS.out b hb
      exact ⟨.inl h1, by simp [Value.ownBlock]; omega, by simp; omega⟩))
    go_enter Tryd.func85, Tryd.ntmps85
    go_wp2_with (at_builtin; refine wpList_ownMany _ rfl _ _ elemSym rfl rfl HO.out l rfl rfl HE.out (by simp; omega) (by simp; omega) (by simp) ?_; intro v' w' hown' hg' _)
    obtain ⟨A', c', rfl, h1, h2, h3⟩ := hown'.form
    have HF := Lib.hid hown'
    have HBl := Lib.hid (bgrown HB1.out hg' HO.out (Nat.le_refl _) (by simp))
    have HN := Lib.hid (And.intro h1 h2)
    clear hown' hg' h1 h2 h3
    go_wp2
    go_ret
    exact ⟨A', c', by simp, by have := HN.out.1; simpa using this, HN.out.2, by have := HF.out; simpa using this, HBl.out⟩
end Go.Proofs.YtnlpeiffbnlncaaDoor

/- The numbers of the rules that a predicate names; a valid grammar's number of rules. -/
namespace Go.Proofs.YtnlpeiffbnlncaaDoor
open Go.RowKit
set_option linter.unusedVariables false

def whereFrom (p : Rule → Bool) : Nat → List Rule → List Int
  | _, [] => []
  | k, r :: rs => if p r then (k : Int) :: whereFrom p (k + 1) rs else whereFrom p (k + 1) rs
def whereE (g : Gram) (n : Int) : Int := if checkI g ≠ 0 then checkI g else if n < 0 ∨ g.nons ≤ n then 1 else 0
def whereL (g : Gram) (n : Int) (p : Rule → Bool) : List Int := if whereE g n = 0 then whereFrom p 0 g.rules else []
theorem whereFrom_len (p : Rule → Bool) : ∀ (k : Nat) (rs : List Rule), (whereFrom p k rs).length ≤ rs.length
  | _, [] => by simp [whereFrom]
  | k, r :: rs => by
    have := whereFrom_len p (k + 1) rs
    unfold whereFrom; split <;> simp <;> omega
/-- A row of numbers of the call's own, and an error number. -/
def RetInts (w : World) (l : List Int) (er : Int) (e : Ending) (w' : World) : Prop :=
  ∃ v, e = .returned (.tuple #[v, .int .i64 er]) ∧ Own w' (fun _ => False) w.heap.size 3 v l ∧ Below w.heap.size w w'
theorem checkI_nonneg_len {g : Gram} (h : checkI g = 0) : g.rules.length ≤ 32 := by
  unfold checkI at h
  split at h
  · omega
  · split at h <;> omega
end Go.Proofs.YtnlpeiffbnlncaaDoor

/- Contract: parlmake.Word. -/
namespace Go.Proofs.YtnlpeiffbnlncaaDoor
open Go.RowKit
set_option linter.unusedVariables false

def MkwS (tm : Int) (most : Nat) (n : Nat) (w : World) (v i : Value) (wr : World) : Prop :=
  ∃ (k : Nat) (ws : List Int), k ≤ n ∧ i = .int .i64 k ∧ ws.length ≤ most ∧ (∀ x ∈ ws, 0 ≤ x ∧ x < tm) ∧ Own wr (fun _ => False) w.heap.size 3 v ws ∧ Below w.heap.size w wr

set_option maxRecDepth 100000 in
set_option maxHeartbeats 8000000 in
theorem mkword_any (tm : Int) (most : Nat) (xs : List Int) (A : Option Addr) (c : Nat) (S : Nat → Prop) (w : World) (ht : 1 ≤ tm) (ht' : tm ≤ 100) (hm : most ≤ 100) (hlc : xs.length ≤ c) (hc : c ≤ 9223372036854775807) (hA : Els w S xs A) (hS : ∀ b, S b → b < w.heap.size) :
    Calls Tryd.prog 10 #[.int .i64 tm, .int .i64 (most : Int), .slice A xs.length c] w fun e w' => ∃ v ws, e = .returned v ∧ ws.length ≤ most ∧ (∀ x ∈ ws, 0 ≤ x ∧ x < tm) ∧ Own w' (fun _ => False) w.heap.size 3 v ws ∧ Below w.heap.size w w' := by
  have HA := Lib.hid hA
  have HS := Lib.hid hS
  clear hA hS
  go_enter Tryd.func10, Tryd.ntmps10
  go_wp2_with fail
  go_loopw [7, 12] (fun v i wr => MkwS tm most xs.length w v i wr) (fun _ i _ => xs.length - (intOf i).toNat)
  case atStart => exact ⟨0, [], Nat.zero_le _, rfl, Nat.zero_le _, by simp, Own.nil _ _ _ _, Below.refl _ _⟩
  case round =>
    obtain ⟨wo, hwo⟩ : ∃ wo : World, wo = wr := ⟨_, rfl⟩
    subst hwo
    obtain ⟨k, ws, hk, rfl, hwl, hws, hown, hb⟩ := hrel
    obtain ⟨As, cs, rfl, hcs1, hcs2, _⟩ := hown.form
    have HO := Lib.hid hown
    have HW := Lib.hid hws
    have HB := Lib.hid hb
    clear hown hws hb
    by_cases hlt : k < xs.length
    · obtain ⟨x, hx⟩ := get_some hlt
      obtain ⟨bi, oi, rfl, hSi, hbi, hxi, hxc⟩ := (HA.out.belowB HB.out HS.out).int hx
      have HX := Lib.hid hxi
      have hk0 : (0 : Int) ≤ (k : Int) := by omega
      clear hx hxi
      by_cases hfull : ws.length = most
      · go_wp2
        go_ret
        exact ⟨_, ws, rfl, hwl, HW.out, HO.out, HB.out⟩
      · have hne : ¬ ((ws.length : Int) = (most : Int)) := by omega
        go_wp2_with fail
        refine (below_any x tm _ HX.out ht (by omega)).mono ?_
        rintro e w3 ⟨r, hr0, hr1, rfl, rfl⟩
        have HR := Lib.hid (And.intro hr0 hr1)
        have hI : Hid (I64 r) := Lib.hid ⟨by omega, by omega⟩
        have hcap1 : (ws.length + 1) * 8 ≤ 140737488355328 := by omega
        have hcap2 : ws.length + 1 ≤ 9223372036854775807 := by omega
        clear hr0 hr1
        go_wp2_with (at_builtin; refine wpList_own1 _ rfl _ _ elemInt rfl rfl (HO.out.alloc _) r [.int .i64 r] rfl (At.new _ _ _) ⟨rfl, hI.out⟩ hcap1 hcap2 (Nat.le_trans HB.out.size ((Below.refl _ _).alloc (Nat.le_refl _) _).size) ?_; intro v' w3 hown3 hg3 hat3; have H3 := Lib.hid (And.intro hown3 hg3); clear hown3 hg3 hat3)
        go_roundw
        case rel =>
          refine ⟨k + 1, ws ++ [r], hlt, by go_num, by rw [List.length_append]; simp; omega, fun y hy => ?_, H3.out.1, bgrown (HB.out.alloc HB.out.size _) H3.out.2 (HO.out.alloc _) (Nat.le_refl _) (Nat.le_trans HB.out.size ((Below.refl _ _).alloc (Nat.le_refl _) _).size)⟩
          rcases List.mem_append.1 hy with h | h
          · exact HW.out y h
          · simp at h
            subst h
            exact HR.out
        case measure => simp [intOf]; omega
    · go_wp2
      go_ret
      exact ⟨_, ws, rfl, hwl, HW.out, HO.out, HB.out⟩
end Go.Proofs.YtnlpeiffbnlncaaDoor

/- Contract: gram.Yield. -/
namespace Go.Proofs.YtnlpeiffbnlncaaDoor
open Go.RowKit
set_option linter.unusedVariables false

/-- The state of Yield: O holds the word, V the closure. -/
def YS (B O V : Nat) (out : List Int) (w : World) : Prop :=
  ∃ v, Blk' w O 22 #[v] ∧ Own w (fun _ => False) B 3 v out ∧ Blk' w V 86 #[.func (.func 43) #[] #[.pointer (some ⟨O, 0, none⟩), .pointer (some ⟨V, 0, none⟩)]] ∧ O < V ∧ V < B ∧ B ≤ w.heap.size
theorem YS.below {B O V : Nat} {out : List Int} {w w' : World} (h : YS B O V out w) (hb : Below w.heap.size w w') : YS B O V out w' := by
  obtain ⟨v, h1, h2, h3, h4, h5, h6⟩ := h
  exact ⟨v, h1.below hb h1.lt, h2.below hb (Nat.le_refl _), h3.below hb h3.lt, h4, h5, Nat.le_trans h6 hb.size⟩

def YLoop (B O V : Nat) (out : List Int) (ks : List Tree) (w : World) (G : Nat) (cells : Array Value) (i : Value) (wr : World) : Prop :=
  ∃ m : Nat, m ≤ ks.length ∧ i = .int .i64 m ∧ YS B O V (out ++ yields (ks.take m)) wr ∧ Below O w wr

set_option maxRecDepth 100000 in
set_option maxHeartbeats 1000000 in
theorem visit_any (B O V : Nat) (S : Nat → Prop) (hS : ∀ b, S b → b < O) : ∀ (t : Tree) (A : Option Addr) (c : Nat) (out : List Int) (w : World), I64 t.rule → I64 t.term → t.kids.length ≤ c → c ≤ 9223372036854775807 → Els w S t.kids A → YS B O V out w → out.length + (yieldT t).length ≤ 1000000 →
    Calls Tryd.prog 43 #[.agg #[.int .i64 t.rule, .int .i64 t.term, .slice A t.kids.length c], .pointer (some ⟨O, 0, none⟩), .pointer (some ⟨V, 0, none⟩)] w
      fun e w' => e = .returned (.tuple #[]) ∧ YS B O V (out ++ yieldT t) w' ∧ Below O w w' := by
  refine Tree.ind ?_
  intro r t ks ih A c out w hr ht hlc hc hA hst hlen
  have IH := Lib.hid ih
  have HS := Lib.hid hS
  have hr' : I64 r := hr
  have ht' : I64 t := ht
  dsimp only [Tree.rule, Tree.term, Tree.kids] at *
  have HA := Lib.hid hA
  have hba : Below w.heap.size w (w.alloc (.cells #[.int .i64 r, .int .i64 t, .slice A ks.length c] 39)) := (Below.refl _ _).alloc (Nat.le_refl _) _
  have hs1 := hst.below hba
  have hO : O < w.heap.size := by obtain ⟨v, h1, _⟩ := hst; exact h1.lt
  by_cases h0 : r < 0
  · have E := Lib.hid (show yieldT ⟨r, t, ks⟩ = [t] by unfold yieldT; rw [if_pos h0])
    obtain ⟨v, h1, h2, h3, h4, h5, h6⟩ := hs1
    have hlen2 : out.length + 1 ≤ 1000000 := by have h := hlen; rw [E.out] at h; simpa using h
    have hcap1 : (out.length + 1) * 8 ≤ 140737488355328 := by omega
    have hcap2 : out.length + 1 ≤ 9223372036854775807 := by omega
    have g0 : (w.alloc (.cells #[.int .i64 r, .int .i64 t, .slice A ks.length c] 39)).cell? ⟨O, 0, none⟩ = some v := h1.cell 0
    have gO : w.cell? ⟨O, 0, none⟩ = some v := by
      have h := hba.cell (p := ⟨O, 0, none⟩) hO
      rw [← h]; exact g0
    have H2 := Lib.hid (h2.alloc (.cells #[.int .i64 t] 3))
    have H1 := Lib.hid (And.intro (h1.alloc (.cells #[.int .i64 t] 3)) (h3.alloc (.cells #[.int .i64 t] 3)))
    have H4 := Lib.hid (And.intro h4 (And.intro h5 h6))
    have HT := Lib.hid ht'
    obtain ⟨Ao, co, e1, _⟩ := h2.form
    subst e1
    have HN : Hid (some O ≠ (Value.slice Ao out.length co).ownBlock ∧ some V ≠ (Value.slice Ao out.length co).ownBlock) := Lib.hid ⟨fun e => by have := (h2.block _ e.symm).1; omega, fun e => by have := (h2.block _ e.symm).1; omega⟩
    have hBw : B ≤ w.heap.size + 1 := by simp at h6; omega
    have HBa := Lib.hid (((Below.refl O w).alloc (by omega) (.cells #[.int .i64 r, .int .i64 t, .slice A ks.length c] 39)).alloc (by simp; omega) (.cells #[.int .i64 t] 3))
    clear hst hba h1 h2 h3 h4 h5 h6 hlen hlen2 ih hr ht hA g0
    go_enter Tryd.func43, Tryd.ntmps43
    go_wp2_with (at_builtin; refine wpList_own1 _ rfl _ _ elemInt rfl rfl H2.out t [.int .i64 t] rfl (by have h := At.new (w.alloc (.cells #[.int .i64 r, .int .i64 t, .slice A ks.length c] 39)) [.int .i64 t] 3; rwa [show (w.alloc (.cells #[.int .i64 r, .int .i64 t, .slice A ks.length c] 39)).heap.size = w.heap.size + 1 from by simp] at h) ⟨rfl, HT.out⟩ hcap1 hcap2 (by simp; omega) ?_; intro v' w3 hown3 hg3 hat3; obtain ⟨A3, k3, hv3, _⟩ := hown3.form; rw [snoc_len] at hv3; subst hv3; have hb3 := H1.out.1.grown hg3 HN.out.1; have c3 := hb3.cell 0; have f3 := hb3.frozen 0; have H3 := Lib.hid (And.intro hown3 (And.intro hg3 (And.intro hb3 (H1.out.2.grown hg3 HN.out.2)))); clear hown3 hg3 hat3 hb3; simp at c3)
    refine bodyPost_ret (v := .tuple #[]) (by simp [results, Tryd.results43, go_sem]) rfl ?_
    refine ⟨rfl, ⟨_, H3.out.2.2.1.set_ 0 _, ?_, H3.out.2.2.2.far (by have := H4.out.1; show V ≠ O; omega) _, H4.out.1, H4.out.2.1, ?_⟩, ?_⟩
    · rw [E.out]
      exact H3.out.1.setCell (fun e => by have := (H3.out.1.block _ e).1; have := H4.out; dsimp only at *; omega) (by have := H4.out; simp; omega) _
    · have := H3.out.2.1.size; simp [World.setCell] at *; omega
    · exact (HBa.out.grown H3.out.2.1 (by simp; omega) (fun k hk => by have := (H2.out.block k hk).1; have := H4.out; omega)).setCell (Nat.le_refl _) _
  · have E := Lib.hid (show yieldT ⟨r, t, ks⟩ = yields ks by unfold yieldT; rw [if_neg h0])
    have HB0 := Lib.hid ((Below.refl O w).alloc (by omega) (.cells #[.int .i64 r, .int .i64 t, .slice A ks.length c] 39))
    have HS1 := Lib.hid hs1
    have HLn := Lib.hid hlen
    clear hst hs1 hba hlen ih hr ht hA
    go_enter Tryd.func43, Tryd.ntmps43
    go_wp2_with fail
    go_loopw [17] (fun i wr => YLoop B O V out ks w w.heap.size #[.int .i64 r, .int .i64 t, .slice A ks.length c] i wr) (fun i _ => ks.length - (intOf i).toNat)
    case atStart => exact ⟨0, Nat.zero_le _, rfl, by simpa [yields] using HS1.out, HB0.out⟩
    case round =>
      obtain ⟨wo, hwo⟩ : ∃ wo : World, wo = wr := ⟨_, rfl⟩
      subst hwo
      obtain ⟨m, hm, rfl, hY, hb⟩ := hrel
      have HY := Lib.hid hY
      have HB := Lib.hid hb
      clear hY hb
      by_cases hlt : m < ks.length
      · obtain ⟨x, hx⟩ := get_some hlt
        obtain ⟨b, o, Ax, cx, rfl, hSb, hbs, hi, hi2, hx1, hx2, hEx, hc0, hc1, hc2⟩ := (HA.out.belowB HB.out HS.out).tree hx
        have hm0 : (0 : Int) ≤ (m : Int) := by omega
        have HM := Lib.hid (List.mem_of_getElem? hx)
        have HE := Lib.hid (yields_take hx)
        have hbo : Below wo.heap.size wo (wo.alloc (.cells #[.int .i64 x.rule, .int .i64 x.term, .slice Ax x.kids.length cx] 39)) := (Below.refl _ _).alloc (Nat.le_refl _) _
        have HY2 := Lib.hid (HY.out.below hbo)
        have HEx := Lib.hid (hEx.below hbo)
        have HI := Lib.hid (And.intro hi hi2)
        have hl2 : Hid ((out ++ yields (ks.take m)).length + (yieldT x).length ≤ 1000000) := Lib.hid (by
          have h := HLn.out
          rw [E.out, yields_drop ks (m + 1), HE.out] at h
          simp only [List.length_append] at h ⊢
          omega)
        obtain ⟨v, q1, q2, q3, q4⟩ := HY.out
        have gv : wo.cell? ⟨V, 0, none⟩ = some (.func (.func 43) #[] #[.pointer (some ⟨O, 0, none⟩), .pointer (some ⟨V, 0, none⟩)]) := q3.cell 0
        have hV : V < wo.heap.size := q3.lt
        have hOw : O ≤ wo.heap.size := Nat.le_of_lt q1.lt
        clear q1 q2 q3 q4 hx hEx hbo hi hi2
        go_wp2_with fail
        refine (IH.out x HM.out Ax cx _ _ HI.out.1 HI.out.2 hx1 hx2 HEx.out HY2.out hl2.out).mono ?_
        rintro e w2 ⟨rfl, hy2, hb2⟩
        have HZ := Lib.hid (And.intro hy2 ((HB.out.alloc hOw _).trans hb2))
        clear hy2 hb2
        go_wp2
        go_roundw
        case rel => exact ⟨m + 1, hlt, by go_num, by rw [HE.out, ← List.append_assoc]; exact HZ.out.1, HZ.out.2⟩
        case measure => simp [intOf]; omega
      · go_wp2
        go_end0
        refine ⟨rfl, ?_, HB.out⟩
        have h := HY.out
        rw [List.take_of_length_le (by omega)] at h
        rw [E.out]
        exact h

set_option maxRecDepth 100000 in
set_option maxHeartbeats 1000000 in
theorem yield_any (t : Tree) (A : Option Addr) (c : Nat) (S : Nat → Prop) (w : World) (hS : ∀ b, S b → b < w.heap.size) (hr : I64 t.rule) (ht : I64 t.term) (hlc : t.kids.length ≤ c) (hc : c ≤ 9223372036854775807) (hA : Els w S t.kids A) (hlen : (yieldT t).length ≤ 1000000) :
    Calls Tryd.prog 16 #[.agg #[.int .i64 t.rule, .int .i64 t.term, .slice A t.kids.length c]] w (RetOwn w (fun _ => False) 3 (yieldT t)) := by
  have HA := Lib.hid hA
  have HI := Lib.hid (And.intro hr ht)
  have HL := Lib.hid hlen
  have HS : Hid (∀ b, S b → b < w.heap.size + 1) := Lib.hid (fun b hb => by have := hS b hb; omega)
  clear hA hr ht hlen
  go_enter Tryd.func16, Tryd.ntmps16
  go_wp2_with fail
  have hb0 : Below w.heap.size w (((w.alloc (.cells #[.int .i64 t.rule, .int .i64 t.term, .slice A t.kids.length c] 39)).alloc (.cells #[.slice none 0 0] 22)).alloc (.cells #[.func (.func 43) #[] #[.pointer (some ⟨w.heap.size + 1, 0, none⟩), .pointer (some ⟨w.heap.size + 1 + 1, 0, none⟩)]] 86)) := (((Below.refl _ _).alloc (Nat.le_refl _) _).alloc (by simp) _).alloc (by simp; omega) _
  have hY : YS (w.heap.size + 1 + 1 + 1) (w.heap.size + 1) (w.heap.size + 1 + 1) [] (((w.alloc (.cells #[.int .i64 t.rule, .int .i64 t.term, .slice A t.kids.length c] 39)).alloc (.cells #[.slice none 0 0] 22)).alloc (.cells #[.func (.func 43) #[] #[.pointer (some ⟨w.heap.size + 1, 0, none⟩), .pointer (some ⟨w.heap.size + 1 + 1, 0, none⟩)]] 86)) :=
    ⟨_, (Blk'.new' _ _ _ (by simp)).alloc _, Own.nil _ _ _ _, Blk'.new' _ _ _ (by simp), by omega, by omega, by simp⟩
  have HB := Lib.hid hb0
  refine (visit_any (w.heap.size + 1 + 1 + 1) (w.heap.size + 1) (w.heap.size + 1 + 1) S HS.out t A c [] _ HI.out.1 HI.out.2 hlc hc (HA.out.below hb0) hY (by simpa using HL.out)).mono ?_
  rintro e w2 ⟨rfl, hy2, hb2⟩
  obtain ⟨v, q1, q2, q3, q4⟩ := hy2
  have g0 : w2.cell? ⟨w.heap.size + 1, 0, none⟩ = some v := q1.cell 0
  obtain ⟨A3, n3, k3, rfl⟩ : ∃ A n c, v = Value.slice A n c := by obtain ⟨A, c, e, _⟩ := q2.form; exact ⟨_, _, _, e⟩
  have HZ := Lib.hid (And.intro q2 (HB.out.trans (hb2.mono (by omega))))
  clear hb0 hY q1 q2 q3 q4 hb2
  go_wp2
  go_ret
  exact ⟨_, rfl, by have h := HZ.out.1.base (show w.heap.size ≤ w.heap.size + 1 + 1 + 1 by omega); simpa using h, HZ.out.2⟩
end Go.Proofs.YtnlpeiffbnlncaaDoor

/- Contracts: parlkeep2.term, chain. -/
namespace Go.Proofs.YtnlpeiffbnlncaaDoor
open Go.RowKit
set_option linter.unusedVariables false

def chainG : Gram := ⟨2, 1, 0, [⟨0, [⟨false, 0⟩, ⟨true, 0⟩]⟩, ⟨0, [⟨true, 1⟩]⟩]⟩
theorem chainC : checkI chainG = 0 := by decide +kernel
theorem keepT_any (n : Int) (w : World) : Calls Tryd.prog 71 #[.int .i64 n] w fun e w' => e = .returned (.agg #[.bool true, .int .i64 n]) ∧ w' = w.alloc (.cells #[.bool true, .int .i64 n] 69) := by
  go_enter Tryd.func71, Tryd.ntmps71
  go_wp2
  exact bodyPost_ret (v := .agg #[.bool true, .int .i64 n]) (by simp [results, Tryd.results71, go_sem]) rfl ⟨rfl, rfl⟩
def RetChain (w : World) (e : Ending) (w' : World) : Prop :=
  ∃ A, e = .returned (.agg #[.int .i64 2, .int .i64 1, .int .i64 0, .slice A 2 2]) ∧ Els w' (fun b => w.heap.size ≤ b ∧ b < w'.heap.size) chainG.rules A ∧ Below w.heap.size w w'
set_option maxRecDepth 100000 in
set_option maxHeartbeats 4000000 in
theorem chain_any (w : World) : Calls Tryd.prog 36 #[] w (RetChain w) := by
  go_enter Tryd.func36, Tryd.ntmps36
  go_wp2_with fail
  refine (keepT_any 0 _).mono ?_
  rintro e w1 ⟨rfl, rfl⟩
  go_wp2_with fail
  refine (keepT_any 1 _).mono ?_
  rintro e w1 ⟨rfl, rfl⟩
  go_wp2_with fail
  refine bodyPost_ret (v := .agg #[.int .i64 2, .int .i64 1, .int .i64 0, .slice (some ⟨w.heap.size + 1 + 1 + 1 + 1 + 1, 0, none⟩) 2 2]) (by simp [results, Tryd.results36, go_sem]) rfl ⟨_, rfl, ?_, ?_⟩
  · have i0 : I64 0 := ⟨by omega, by omega⟩
    have i1 : I64 1 := ⟨by omega, by omega⟩
    have b1 := (((Blk'.new' (g := w.heap.size + 1 + 1) ((w.alloc (.cells #[.int .i64 2, .int .i64 1, .int .i64 0, .slice (some ⟨w.heap.size + 1 + 1 + 1 + 1 + 1, 0, none⟩) 2 2] 25)).alloc (.cells #[.bool true, .int .i64 0] 69)) 69 #[.bool false, .int .i64 0, .bool true, .int .i64 0] (by simp)).alloc (.cells #[.bool true, .int .i64 1] 69)).alloc (.cells #[.bool true, .int .i64 1] 69)).alloc (.cells #[.int .i64 0, .slice (some ⟨w.heap.size + 1 + 1, 0, none⟩) 2 2, .int .i64 0, .slice (some ⟨w.heap.size + 1 + 1 + 1 + 1, 0, none⟩) 1 1] 57)
    have b2 := (Blk'.new' (g := w.heap.size + 1 + 1 + 1 + 1) ((((w.alloc (.cells #[.int .i64 2, .int .i64 1, .int .i64 0, .slice (some ⟨w.heap.size + 1 + 1 + 1 + 1 + 1, 0, none⟩) 2 2] 25)).alloc (.cells #[.bool true, .int .i64 0] 69)).alloc (.cells #[.bool false, .int .i64 0, .bool true, .int .i64 0] 69)).alloc (.cells #[.bool true, .int .i64 1] 69)) 69 #[.bool true, .int .i64 1] (by simp)).alloc (.cells #[.int .i64 0, .slice (some ⟨w.heap.size + 1 + 1, 0, none⟩) 2 2, .int .i64 0, .slice (some ⟨w.heap.size + 1 + 1 + 1 + 1, 0, none⟩) 1 1] 57)
    have b3 := Blk'.new' (g := w.heap.size + 1 + 1 + 1 + 1 + 1) (((((w.alloc (.cells #[.int .i64 2, .int .i64 1, .int .i64 0, .slice (some ⟨w.heap.size + 1 + 1 + 1 + 1 + 1, 0, none⟩) 2 2] 25)).alloc (.cells #[.bool true, .int .i64 0] 69)).alloc (.cells #[.bool false, .int .i64 0, .bool true, .int .i64 0] 69)).alloc (.cells #[.bool true, .int .i64 1] 69)).alloc (.cells #[.bool true, .int .i64 1] 69)) 57 #[.int .i64 0, .slice (some ⟨w.heap.size + 1 + 1, 0, none⟩) 2 2, .int .i64 0, .slice (some ⟨w.heap.size + 1 + 1 + 1 + 1, 0, none⟩) 1 1] (by simp)
    refine els_of_blk [[.int .i64 0, .slice (some ⟨w.heap.size + 1 + 1, 0, none⟩) 2 2], [.int .i64 0, .slice (some ⟨w.heap.size + 1 + 1 + 1 + 1, 0, none⟩) 1 1]] b3 rfl rfl (rd_two ⟨_, rfl, i0, Vl.of_slice rfl (by simp) (by omega) ?_⟩ ⟨_, rfl, i0, Vl.of_slice rfl (by simp) (by omega) ?_⟩) (by simp; omega)
    · exact els_of_blk [[.bool false, .int .i64 0], [.bool true, .int .i64 0]] b1 rfl rfl (rd_two ⟨rfl, i0⟩ ⟨rfl, i0⟩) (by simp; omega)
    · exact els_of_blk [[.bool true, .int .i64 1]] b2 rfl rfl (rd_one ⟨rfl, i1⟩) (by simp; omega)
  · exact ((((((Below.refl _ _).alloc (Nat.le_refl _) _).alloc (by simp) _).alloc (by simp; omega) _).alloc (by simp; omega) _).alloc (by simp; omega) _).alloc (by simp; omega) _
end Go.Proofs.YtnlpeiffbnlncaaDoor

/- Contract: slices.Equal at ints. -/
namespace Go.Proofs.YtnlpeiffbnlncaaDoor
open Go.RowKit
set_option linter.unusedVariables false

set_option maxRecDepth 100000 in
set_option maxHeartbeats 1000000 in
theorem equalInt_any (A A' : Option Addr) (xs ys : List Int) (n n' c c' : Nat) (S S' : Nat → Prop) (w : World) (hn : n = xs.length) (hn' : n' = ys.length) (hm : xs.length ≤ 9223372036854775807) (hm' : ys.length ≤ 9223372036854775807) (hA : Els w S xs A) (hA' : Els w S' ys A') :
    Calls Tryd.prog 23 #[.slice A n c, .slice A' n' c'] w fun e w' => e = .returned (.bool (decide (xs = ys))) ∧ Below w.heap.size w w' := by
  subst hn; subst hn'
  by_cases hl : xs.length = ys.length
  · have hl' : ((xs.length : Int) != (ys.length : Int)) = false := by simp; omega
    have HL := Lib.hid hl
    clear hl
    go_enter Tryd.func23, Tryd.ntmps23
    go_wp2
    go_loopw [13] (fun i wr => ∃ k : Nat, k ≤ xs.length ∧ i = .int .i64 k ∧ Hid (xs.take k = ys.take k) ∧ Below w.heap.size w wr) (fun i _ => xs.length - (intOf i).toNat)
    case atStart => exact ⟨0, Nat.zero_le _, rfl, Lib.hid rfl, Below.refl _ _⟩
    case round =>
      obtain ⟨wo, hwo⟩ : ∃ wo : World, wo = wr := ⟨_, rfl⟩
      subst hwo
      obtain ⟨k, hk, rfl, HT, hb⟩ := hrel
      have HB := Lib.hid hb
      clear hb
      by_cases hlt : k < xs.length
      · have hlt' : k < ys.length := by have := HL.out; omega
        have hk1 : (k : Int) < (xs.length : Int) := by omega
        have hk2 : (k : Int) < (ys.length : Int) := by omega
        obtain ⟨x, hx⟩ := get_some hlt
        obtain ⟨y, hy⟩ := get_some hlt'
        obtain ⟨b, o, rfl, _, hbs, hi, hc0⟩ := (hA.below HB.out).int hx
        obtain ⟨b', o', rfl, _, hbs', hi', hc0'⟩ := (hA'.below HB.out).int hy
        have HX := Lib.hid (And.intro hx hy)
        have hk0 : (0 : Int) ≤ (k : Int) := by omega
        clear hx hy
        by_cases he : x = y
        · have HE := Lib.hid (take_eq HX.out.1 HX.out.2 he HT.out)
          have hq : (x != y) = false := by simp [he]
          clear he
          go_wp2_with fail
          go_quiet (fail)
          go_wp2
          go_roundw
          case rel => exact ⟨k + 1, hlt, by go_num, HE, bdrewN HB.out⟩
          case measure => simp [intOf]; omega
        · have HE := Lib.hid (take_ne HX.out.1 HX.out.2 he)
          have hq : (x != y) = true := by simp [he]
          clear he
          go_wp2_with fail
          go_quiet (fail)
          go_wp2
          go_ret
          exact ⟨ret_bool (by simp [HE.out]), bdrewN HB.out⟩
      · have HE := Lib.hid (take_all HL.out (by omega) HT.out)
        go_wp2
        go_ret
        exact ⟨ret_bool (by simp [HE.out]), HB.out⟩
  · have hl' : ((xs.length : Int) != (ys.length : Int)) = true := by simp; omega
    have HE : Hid (xs ≠ ys) := Lib.hid (by rintro rfl; exact hl rfl)
    clear hl
    go_enter Tryd.func23, Tryd.ntmps23
    go_wp2
    go_ret
    exact ⟨ret_bool (by simp [HE.out]), Below.refl _ _⟩

end Go.Proofs.YtnlpeiffbnlncaaDoor

/- Contracts: parlkeep2.sameTree, slices.EqualFunc at trees with it. -/
namespace Go.Proofs.YtnlpeiffbnlncaaDoor
open Go.RowKit
set_option linter.unusedVariables false

noncomputable instance instDecTreeK : DecidableEq Tree := fun _ _ => Classical.propDecidable _
def SameIHK (x : Tree) (S S' : Nat → Prop) : Prop :=
  ∀ (y : Tree) (B B' : Option Addr) (d d' : Nat) (w : World), x.kids.length ≤ d ∧ d ≤ 9223372036854775807 → y.kids.length ≤ d' ∧ d' ≤ 9223372036854775807 → Els w S x.kids B → Els w S' y.kids B' →
    Calls Tryd.prog 24 #[.agg #[.int .i64 x.rule, .int .i64 x.term, .slice B x.kids.length d], .agg #[.int .i64 y.rule, .int .i64 y.term, .slice B' y.kids.length d']] w
      fun e w' => e = .returned (.bool (decide (x = y))) ∧ Below w.heap.size w w'

set_option maxRecDepth 100000 in
set_option maxHeartbeats 1000000 in
theorem eqTreesK_any (A A' : Option Addr) (xs ys : List Tree) (n n' c c' : Nat) (S S' : Nat → Prop) (w : World) (hn : n = xs.length) (hn' : n' = ys.length) (hm : xs.length ≤ 9223372036854775807) (hm' : ys.length ≤ 9223372036854775807) (hA : Els w S xs A) (hA' : Els w S' ys A')
    (ih : ∀ x ∈ xs, SameIHK x S S') :
    Calls Tryd.prog 59 #[.slice A n c, .slice A' n' c', .func (.func 24) #[] #[]] w fun e w' => e = .returned (.bool (decide (xs = ys))) ∧ Below w.heap.size w w' := by
  subst hn; subst hn'
  have IH := Lib.hid ih
  clear ih
  by_cases hl : xs.length = ys.length
  · have hl' : ((xs.length : Int) != (ys.length : Int)) = false := by simp; omega
    have HL := Lib.hid hl
    clear hl
    go_enter Tryd.func59, Tryd.ntmps59
    go_wp2
    go_loopw [17] (fun i wr => ∃ k : Nat, k ≤ xs.length ∧ i = .int .i64 k ∧ Hid (xs.take k = ys.take k) ∧ Below w.heap.size w wr) (fun i _ => xs.length - (intOf i).toNat)
    case atStart => exact ⟨0, Nat.zero_le _, rfl, Lib.hid rfl, Below.refl _ _⟩
    case round =>
      obtain ⟨wo, hwo⟩ : ∃ wo : World, wo = wr := ⟨_, rfl⟩
      subst hwo
      obtain ⟨k, hk, rfl, HT, hb⟩ := hrel
      have HB := Lib.hid hb
      clear hb
      by_cases hlt : k < xs.length
      · have hlt' : k < ys.length := by have := HL.out; omega
        have hk1 : (k : Int) < (xs.length : Int) := by omega
        have hk2 : (k : Int) < (ys.length : Int) := by omega
        obtain ⟨x, hx⟩ := get_some hlt
        obtain ⟨y, hy⟩ := get_some hlt'
        obtain ⟨b, o, Ax, cx, rfl, _, hbs, hi, hit, hx1, hx2, hEx, hc0, hc1, hc2⟩ := (hA.below HB.out).tree hx
        obtain ⟨b', o', Ay, cy, rfl, _, hbs', hi', hit', hy1, hy2, hEy, hc0', hc1', hc2'⟩ := (hA'.below HB.out).tree hy
        have HX := Lib.hid (And.intro hx hy)
        have hk0 : (0 : Int) ≤ (k : Int) := by omega
        have hba : Below wo.heap.size wo ((wo.alloc (.cells #[.int .i64 x.rule, .int .i64 x.term, .slice Ax x.kids.length cx] 39)).alloc (.cells #[.int .i64 y.rule, .int .i64 y.term, .slice Ay y.kids.length cy] 39)) := ((Below.refl _ _).alloc (Nat.le_refl _) _).alloc (by simp) _
        have H1 := Lib.hid (And.intro hba (And.intro (hEx.below hba) (hEy.below hba)))
        clear hx hy hEx hEy hba
        go_wp2_with fail
        refine (IH.out x (List.mem_of_getElem? HX.out.1) y Ax Ay cx cy _ ⟨hx1, hx2⟩ ⟨hy1, hy2⟩ H1.out.2.1 H1.out.2.2).mono ?_
        rintro e w1 ⟨rfl, hb1⟩
        have HZ := Lib.hid (bthen HB.out (bthen H1.out.1 hb1 (by simp; omega)) HB.out.size)
        clear hb1
        by_cases he : x = y
        · have HE := Lib.hid (take_eq HX.out.1 HX.out.2 he HT.out)
          rw [decide_eq_true he]
          clear he
          go_wp2
          go_roundw
          case rel => exact ⟨k + 1, hlt, by go_num, HE, HZ.out⟩
          case measure => simp [intOf]; omega
        · have HE := Lib.hid (take_ne HX.out.1 HX.out.2 he)
          rw [decide_eq_false he]
          clear he
          go_wp2
          go_ret
          exact ⟨ret_bool (by simp [HE.out]), HZ.out⟩
      · have HE := Lib.hid (take_all HL.out (by omega) HT.out)
        go_wp2
        go_ret
        exact ⟨ret_bool (by simp [HE.out]), HB.out⟩
  · have hl' : ((xs.length : Int) != (ys.length : Int)) = true := by simp; omega
    have HE : Hid (xs ≠ ys) := Lib.hid (by rintro rfl; exact hl rfl)
    clear hl
    go_enter Tryd.func59, Tryd.ntmps59
    go_wp2
    go_ret
    exact ⟨ret_bool (by simp [HE.out]), Below.refl _ _⟩

set_option maxRecDepth 100000 in
set_option maxHeartbeats 1000000 in
theorem sameTreeK_any (S S' : Nat → Prop) : ∀ x : Tree, SameIHK x S S' := by
  refine Tree.ind ?_
  intro r t ks ih y B B' d d' w hd hd' hA hA'
  have IH := Lib.hid ih
  clear ih
  obtain ⟨r', t', ks'⟩ := y
  dsimp only [Tree.rule, Tree.term, Tree.kids] at *
  have hba : ∀ (o1 o2 : Obj), Below w.heap.size w ((w.alloc o1).alloc o2) := fun o1 o2 => ((Below.refl _ _).alloc (Nat.le_refl _) _).alloc (by simp) _
  have H1 := Lib.hid (hA.below (hba (.cells #[.int .i64 r, .int .i64 t, .slice B ks.length d] 39) (.cells #[.int .i64 r', .int .i64 t', .slice B' ks'.length d'] 39)))
  have H2 := Lib.hid (hA'.below (hba (.cells #[.int .i64 r, .int .i64 t, .slice B ks.length d] 39) (.cells #[.int .i64 r', .int .i64 t', .slice B' ks'.length d'] 39)))
  have HB := Lib.hid (hba (.cells #[.int .i64 r, .int .i64 t, .slice B ks.length d] 39) (.cells #[.int .i64 r', .int .i64 t', .slice B' ks'.length d'] 39))
  clear hba hA hA'
  by_cases h1 : r = r'
  · by_cases h2 : t = t'
    · have E := Lib.hid (show decide ((⟨r, t, ks⟩ : Tree) = ⟨r', t', ks'⟩) = decide (ks = ks') by simp [h1, h2])
      have q1 : (r == r') = true := by simp [h1]
      have q2 : (t == t') = true := by simp [h2]
      clear h1 h2
      go_enter Tryd.func24, Tryd.ntmps24
      go_wp2_with fail
      refine (eqTreesK_any B B' ks ks' _ _ d d' S S' _ rfl rfl (by omega) (by omega) H1.out H2.out IH.out).mono ?_
      rintro e w1 ⟨rfl, hb1⟩
      have HZ := Lib.hid (bthen HB.out hb1 (by simp; omega))
      clear hb1
      go_wp2
      go_ret
      exact ⟨ret_bool E.out.symm, HZ.out⟩
    · have E := Lib.hid (show decide ((⟨r, t, ks⟩ : Tree) = ⟨r', t', ks'⟩) = false by simp [h2])
      have q1 : (r == r') = true := by simp [h1]
      have q2 : (t == t') = false := by simp [h2]
      clear h1 h2
      go_enter Tryd.func24, Tryd.ntmps24
      go_wp2
      go_ret
      exact ⟨ret_bool E.out.symm, HB.out⟩
  · have E := Lib.hid (show decide ((⟨r, t, ks⟩ : Tree) = ⟨r', t', ks'⟩) = false by simp [h1])
    have q1 : (r == r') = false := by simp [h1]
    clear h1
    go_enter Tryd.func24, Tryd.ntmps24
    go_wp2
    go_ret
    exact ⟨ret_bool E.out.symm, HB.out⟩
end Go.Proofs.YtnlpeiffbnlncaaDoor

