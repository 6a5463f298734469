/- Plain law of UsefulOnce: a trimmed grammar is valid, and trimming it again leaves it as it is. -/
import Derived.Test.YtnlpeiffbnlncaaDoorQTrim
import Derived.Test.YtnlpeiffbnlncaaDoorQApartP
namespace Go.Proofs.YtnlpeiffbnlncaaDoor
open Go.RowKit
set_option linter.unusedVariables false

theorem nodup_map_on {α β : Type} {f : α → β} : ∀ (l : List α), l.Nodup → (∀ x ∈ l, ∀ y ∈ l, f x = f y → x = y) → (l.map f).Nodup
  | [], _, _ => by simp
  | a :: l, hn, hf => by
    rw [List.nodup_cons] at hn
    rw [List.map_cons, List.nodup_cons]
    refine ⟨fun hm => ?_, nodup_map_on l hn.2 (fun x hx y hy => hf x (by simp [hx]) y (by simp [hy]))⟩
    obtain ⟨y, hy, he⟩ := List.mem_map.1 hm
    have := hf a (by simp) y (by simp [hy]) he.symm
    subst this
    exact hn.1 hy
theorem renSym_inj {s : List Bool} {x y : Sym} (hx0 : 0 ≤ x.n) (hy0 : 0 ≤ y.n) (hx : x.term = false → s[x.n.toNat]? = some true) (hy : y.term = false → s[y.n.toNat]? = some true) (h : renSym s x = renSym s y) : x = y := by
  obtain ⟨xt, xn⟩ := x
  obtain ⟨yt, yn⟩ := y
  unfold renSym at h
  cases xt <;> cases yt <;> simp at h hx hy hx0 hy0 ⊢
  · have := toV_inj hx hy (by omega); omega
  · exact h
theorem renSyms_inj {s : List Bool} : ∀ (xs ys : List Sym), (∀ x ∈ xs, 0 ≤ x.n ∧ (x.term = false → s[x.n.toNat]? = some true)) → (∀ x ∈ ys, 0 ≤ x.n ∧ (x.term = false → s[x.n.toNat]? = some true)) → xs.map (renSym s) = ys.map (renSym s) → xs = ys
  | [], [], _, _, _ => rfl
  | [], _ :: _, _, _, h => by simp at h
  | _ :: _, [], _, _, h => by simp at h
  | x :: xs, y :: ys, hx, hy, h => by
    simp only [List.map_cons, List.cons.injEq] at h
    rw [renSym_inj (hx x (by simp)).1 (hy y (by simp)).1 (hx x (by simp)).2 (hy y (by simp)).2 h.1, renSyms_inj xs ys (fun z hz => hx z (by simp [hz])) (fun z hz => hy z (by simp [hz])) h.2]

/-- A trimmed grammar is valid. -/
theorem trim_check {g : Gram} {n : Nat} {l : List Int} {s : List Bool} (hm : Made g) (hn : g.nons = (n : Int)) (h : TrimS g n l s) : checkI (trimG g l s) = 0 := by
  obtain ⟨m1, m2, m3, m4, m5, m6, m7, m8, m9, m10⟩ := hm
  have hsl := h.reach.len
  have hcn : s.count true ≤ n := by have := List.count_le_length (a := true) (l := s); omega
  have hst := toV_lt h.reach.start
  have hfl : (g.rules.filter (stayB l s)).length ≤ g.rules.length := List.length_filter_le _ _
  have hbad : ¬ gramBad (trimG g l s) := by unfold gramBad trimG; dsimp only; omega
  have hlen : ¬ 32 < (trimG g l s).rules.length := by unfold trimG; simp only [List.length_map]; omega
  unfold checkI
  rw [if_neg hbad, if_neg hlen]
  have hin : ∀ q ∈ g.rules.filter (stayB l s), q ∈ g.rules ∧ s[q.left.toNat]? = some true ∧ ∀ x ∈ q.right, 0 ≤ x.n ∧ (x.term = false → s[x.n.toNat]? = some true) := by
    intro q hq
    obtain ⟨hq, hs⟩ := List.mem_filter.1 hq
    unfold stayB at hs
    simp only [Bool.and_eq_true] at hs
    have hl := getD_true.1 hs.1
    exact ⟨hq, hl, fun x hx => ⟨((h.rules q hq).2.2.2 x hx).1, fun ht => h.reach.closed hq hl hs.2 hx ht ((h.rules q hq).2.2.2 x hx |>.2 ht)⟩⟩
  refine chkFrom_ok [] (trimG g l s).rules ?_ ?_
  · rw [List.nil_append]
    unfold trimG
    refine nodup_map_on _ (List.Nodup.sublist List.filter_sublist m9) fun p hp q hq he => ?_
    obtain ⟨p1, p2, p3⟩ := hin p hp
    obtain ⟨q1, q2, q3⟩ := hin q hq
    unfold trimRule at he
    injection he with e1 e2
    have e3 : toV s p.left.toNat = toV s q.left.toNat := by omega
    have e4 := toV_inj p2 q2 e3
    have e5 := renSyms_inj _ _ p3 q3 e2
    have := (h.rules p p1).1
    have := (h.rules q q1).1
    obtain ⟨pl, pr⟩ := p
    obtain ⟨ql, qr⟩ := q
    dsimp only at *
    rw [e5, show pl = ql from by omega]
  · intro r hr
    obtain ⟨q, hq, hl, hu, rfl, hx⟩ := h.parts hr
    obtain ⟨o1, o2, o3, o4⟩ := m10 q hq
    refine ⟨by simp [trimRule], by have := toV_lt hl; show ((toV s q.left.toNat : Nat) : Int) < ((s.count true : Nat) : Int); omega, by simpa [trimRule] using o3, fun y hy => ?_⟩
    obtain ⟨x, hxm, rfl⟩ := List.mem_map.1 hy
    have := o4 x hxm
    obtain ⟨xt, xn⟩ := x
    cases xt
    · have := toV_lt (hx _ hxm rfl)
      refine ⟨by simp [renSym], ?_⟩
      show ((toV s xn.toNat : Nat) : Int) < ((s.count true : Nat) : Int)
      dsimp only at this
      omega
    · exact this
theorem whereFrom_all (p : Rule → Bool) : ∀ (rs : List Rule) (k : Nat), (∀ q ∈ rs, p q = true) → (whereFrom p k rs).length = rs.length
  | [], _, _ => rfl
  | q :: rs, k, h => by rw [whereFrom, h q (by simp)]; simp [whereFrom_all p rs (k + 1) (fun x hx => h x (by simp [hx]))]
/-- Trimming a trimmed grammar. -/
theorem trim_again {g : Gram} {n : Nat} {l : List Int} {s : List Bool} (h : TrimS g n l s) {l' : List Int} {s' : List Bool} (h' : TrimS (trimG g l s) (s.count true) l' s') :
    trimG (trimG g l s) l' s' = trimG g l s ∧ (trueFrom 0 s').length = s.count true ∧ (whereFrom (stayB l' s') 0 (trimG g l s).rules).length = (trimG g l s).rules.length := by
  have hall : s' = List.replicate (s.count true) true := all_true h'.reach.len (fun k hk => h.reached h'.reach (fun r hr => (useB_iff l' r).2 (fun x hx ht => h.ends h'.lens ((h'.rules r hr).2.2.2 x hx |>.2 ht))) hk)
  have hs := toV_lt h.reach.start
  have hsame := trim_same (l := l') h'.rules (show (trimG g l s).nons = ((s.count true : Nat) : Int) from rfl) (by simp [trimG]) (by simpa [trimG] using hs) (fun k hk => h.ends h'.lens hk)
  rw [← hall] at hsame
  refine ⟨hsame.1, by rw [trueFrom_len, hall]; simp, whereFrom_all _ _ _ hsame.2⟩
end Go.Proofs.YtnlpeiffbnlncaaDoor
