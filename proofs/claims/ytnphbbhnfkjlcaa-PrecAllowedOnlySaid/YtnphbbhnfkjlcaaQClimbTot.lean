/- Plain law: the climber comes to something, whatever the word. No program is named here. -/
import Derived.Test.YtnphbbhnfkjlcaaQClimbAllowP
namespace Go.Proofs.Ytnphbbhnfkjlcaa
open Go.RowKit
set_option linter.unusedVariables false

def Ahead (n p : Nat) : Res → Prop
  | .ok _ q => p < q ∧ q ≤ n
  | .rej q => p ≤ q ∧ q ≤ n
theorem lp_total {t : Table} {w : List Int} {lv : Level} {k p : Nat} (hP : ∀ p1, p < p1 → p1 ≤ w.length → ∃ r, ParE t w (if lv.kind = 2 then k else k + 1) p1 r ∧ Ahead w.length p1 r) : ∀ (m : Nat) (x : Tree) (q : Nat), w.length - q ≤ m → p < q → q ≤ w.length → ∃ r, Lp w (rulOf t) (ParE t w) lv k x q r ∧ Ahead w.length p r
  | m, x, q, hm, hpq, hq => by
    by_cases hop : ∃ o, w[q]? = some o ∧ o ∈ lv.ops
    · obtain ⟨o, ho, hmem⟩ := hop
      have hlt := (List.getElem?_eq_some_iff.1 ho).1
      obtain ⟨r, hr, ha⟩ := hP (q + 1) (by omega) (by omega)
      cases r with
      | rej q' => exact ⟨_, .rej x q q' o ho hmem hr, by have := ha.1; have := ha.2; exact ⟨by omega, by omega⟩⟩
      | ok y q' =>
        have h1 := ha.1
        have h2 := ha.2
        by_cases hk : lv.kind = 1
        · match m, hm with
          | 0, hm => omega
          | m + 1, hm =>
            obtain ⟨r, hr', ha'⟩ := lp_total hP m ⟨rulOf t o, 0, [x, leafT o, y]⟩ q' (by omega) (by omega) (by omega)
            exact ⟨r, .more x y q q' o r ho hmem hk hr hr', ha'⟩
        · exact ⟨_, .one x y q q' o ho hmem hk hr, ⟨by omega, by omega⟩⟩
    · exact ⟨_, .stop x q (fun o ho hm => hop ⟨o, ho, hm⟩), ⟨by omega, by omega⟩⟩
theorem par_total (t : Table) (w : List Int) : ∀ (m d k p : Nat), w.length - p ≤ m → k + d = t.levels.length → p ≤ w.length → ∃ r, ParE t w k p r ∧ Ahead w.length p r
  | m, 0, k, p, hm, hk, hp => by
    have hkL : k = t.levels.length := by omega
    by_cases hbo : brk t = true ∧ w[p]? = some t.opn
    · have hlt := (List.getElem?_eq_some_iff.1 hbo.2).1
      match m, hm with
      | 0, hm => omega
      | m + 1, hm =>
        obtain ⟨r, hr, ha⟩ := par_total t w m t.levels.length 0 (p + 1) (by omega) (by omega) (by omega)
        cases r with
        | rej q => exact ⟨_, ParE.step (.opd hkL _ (.brkRej hbo.1 hbo.2 q hr)), ⟨by have := ha.1; omega, ha.2⟩⟩
        | ok x q =>
          have h1 := ha.1
          have h2 := ha.2
          by_cases hc : w[q]? = some t.cls
          · have := (List.getElem?_eq_some_iff.1 hc).1
            exact ⟨_, ParE.step (.opd hkL _ (.brk hbo.1 hbo.2 x q hr hc)), ⟨by omega, by omega⟩⟩
          · exact ⟨_, ParE.step (.opd hkL _ (.brkNo hbo.1 hbo.2 x q hr hc)), ⟨by omega, by omega⟩⟩
    · by_cases ha : w[p]? = some t.atom
      · have := (List.getElem?_eq_some_iff.1 ha).1
        exact ⟨_, ParE.step (.opd hkL _ (.atom hbo ha)), ⟨by omega, by omega⟩⟩
      · exact ⟨_, ParE.step (.opd hkL _ (.none hbo ha)), ⟨by omega, by omega⟩⟩
  | m, d + 1, k, p, hm, hk, hp => by
    obtain ⟨lv, hl⟩ := get_some (show k < t.levels.length by omega)
    by_cases h3 : lv.kind = 3
    · by_cases hop : ∃ o, w[p]? = some o ∧ o ∈ lv.ops
      · obtain ⟨o, ho, hmem⟩ := hop
        have hlt := (List.getElem?_eq_some_iff.1 ho).1
        match m, hm with
        | 0, hm => omega
        | m + 1, hm =>
          obtain ⟨r, hr, ha⟩ := par_total t w m (d + 1) k (p + 1) (by omega) hk (by omega)
          cases r with
          | rej q => exact ⟨_, ParE.step (.preRej lv hl h3 o ho hmem q hr), ⟨by have := ha.1; omega, ha.2⟩⟩
          | ok y q => exact ⟨_, ParE.step (.pre lv hl h3 o ho hmem y q hr), ⟨by have := ha.1; omega, ha.2⟩⟩
      · obtain ⟨r, hr, ha⟩ := par_total t w m d (k + 1) p hm (by omega) hp
        exact ⟨r, ParE.step (.skip lv hl h3 (fun o ho hmm => hop ⟨o, ho, hmm⟩) r hr), ha⟩
    · obtain ⟨r, hr, ha⟩ := par_total t w m d (k + 1) p hm (by omega) hp
      cases r with
      | rej q => exact ⟨_, ParE.step (.infRej lv hl h3 q hr), ha⟩
      | ok x q =>
        have h1 := ha.1
        have h2 := ha.2
        match m, hm with
        | 0, hm => omega
        | m + 1, hm =>
          obtain ⟨r, hL, ha'⟩ := lp_total (t := t) (w := w) (lv := lv) (k := k) (p := p) (fun p1 hp1 hp2 => by
            by_cases h2 : lv.kind = 2
            · rw [if_pos h2]; exact par_total t w m (d + 1) k p1 (by omega) hk hp2
            · rw [if_neg h2]; exact par_total t w m d (k + 1) p1 (by omega) (by omega) hp2) w.length x q (by omega) h1 h2
          exact ⟨r, ParE.step (.inf lv hl h3 x q hr r hL), ha'⟩
theorem climb_total (t : Table) (w : List Int) : ∃ r, ParE t w 0 0 r ∧ Ahead w.length 0 r := par_total t w w.length t.levels.length 0 0 (by omega) (by omega) (by omega)
end Go.Proofs.Ytnphbbhnfkjlcaa
