/- The plain law of cycle.closure: three nested loops close a relation. -/
import Derived.Test.YtagcnhiinmiklaaDoorQRowMk
import Derived.Test.YtagcnhiinmiklaaDoorQp1
namespace Go.Proofs.YtagcnhiinmiklaaDoor
open Go.RowKit
set_option linter.unusedVariables false

inductive Plus (E : Nat → Nat → Prop) (a : Nat) : Nat → Prop where
  | one (b : Nat) (h : E a b) : Plus E a b
  | snoc (b c : Nat) (h : Plus E a b) (hs : E b c) : Plus E a c
theorem Plus.trans {E : Nat → Nat → Prop} {a b c : Nat} (h : Plus E a b) (k : Plus E b c) : Plus E a c := by
  induction k with
  | one c hs => exact .snoc b c h hs
  | snoc x y _ hs ih => exact .snoc x y ih hs
/-- From a to b with only places below k between. -/
def ViaLt (E : Nat → Nat → Prop) : Nat → Nat → Nat → Prop
  | 0, a, b => E a b
  | k + 1, a, b => ViaLt E k a b ∨ (ViaLt E k a k ∧ ViaLt E k k b)
theorem ViaLt.plus {E : Nat → Nat → Prop} : ∀ (k a b : Nat), ViaLt E k a b → Plus E a b
  | 0, a, b, h => .one b h
  | k + 1, a, b, h => by
    rcases h with h | ⟨h1, h2⟩
    · exact ViaLt.plus k a b h
    · exact (ViaLt.plus k a k h1).trans (ViaLt.plus k k b h2)
theorem ViaLt.mono {E : Nat → Nat → Prop} {a b : Nat} : ∀ (k : Nat), E a b → ViaLt E k a b
  | 0, h => h
  | k + 1, h => .inl (ViaLt.mono k h)
theorem ViaLt.trans {E : Nat → Nat → Prop} : ∀ (k a b c : Nat), b < k → ViaLt E k a b → ViaLt E k b c → ViaLt E k a c
  | 0, a, b, c, hb, _, _ => by omega
  | k + 1, a, b, c, hb, h1, h2 => by
    by_cases e : b = k
    · subst e
      have g1 : ViaLt E b a b := by
        rcases h1 with h | ⟨h, _⟩ <;> exact h
      have g2 : ViaLt E b b c := by
        rcases h2 with h | ⟨_, h⟩ <;> exact h
      exact .inr ⟨g1, g2⟩
    · have hk : b < k := by omega
      rcases h1 with h1 | ⟨h1, h3⟩
      · rcases h2 with h2 | ⟨h2, h4⟩
        · exact .inl (ViaLt.trans k a b c hk h1 h2)
        · exact .inr ⟨ViaLt.trans k a b k hk h1 h2, h4⟩
      · rcases h2 with h2 | ⟨h2, h4⟩
        · exact .inr ⟨h1, ViaLt.trans k k b c hk h3 h2⟩
        · exact .inr ⟨h1, h4⟩
theorem ViaLt.of_plus {E : Nat → Nat → Prop} {n a b : Nat} (hE : ∀ a b, E a b → a < n ∧ b < n) (h : Plus E a b) : ViaLt E n a b := by
  induction h with
  | one b h => exact ViaLt.mono n h
  | snoc b c _ hs ih => exact ViaLt.trans n a b c (hE b c hs).1 ih (ViaLt.mono n hs)

theorem WarS.ofRows {w : World} {bf : Nat} {bs : List Nat} {n cf : Nat} {f : List (List Bool)} (h : RowsM w bf bs n n cf f) : WarS n f :=
  ⟨h.flen, fun i r hr => by
    have hi := (List.getElem?_eq_some_iff.1 hr).1
    obtain ⟨b, hb⟩ := get_some (show i < bs.length by rw [h.blen, ← h.flen]; exact hi)
    exact (h.rows i b r hb hr).2⟩
theorem gtSet {n : Nat} {f : List (List Bool)} (h : WarS n f) {r c : Nat} (v : Bool) (hr : r < n) (hc : c < n) (a b : Nat) : Gt (f.set r ((f.getD r []).set c v)) a b ↔ (if a = r ∧ b = c then v = true else Gt f a b) := by
  obtain ⟨w, h1, h2, h3⟩ := h.get hr
  unfold Gt
  rw [List.getD_eq_getElem?_getD, List.getElem?_set]
  by_cases e : r = a
  · subst e
    rw [if_pos rfl, if_pos (by rw [h.len]; exact hr), h2]
    simp only [Option.getD_some]
    rw [List.getElem?_set]
    by_cases e2 : c = b
    · subst e2
      rw [if_pos rfl, if_pos (by omega), if_pos (by simp)]
      simp
    · rw [if_neg e2, if_neg (fun h => e2 h.2.symm)]
  · rw [if_neg e, if_neg (fun h => e h.1.symm), ← List.getD_eq_getElem?_getD]

/-- What holds at round k, row i, place j. -/
structure CloS (E : Nat → Nat → Prop) (n k i j : Nat) (f : List (List Bool)) : Prop where
  shape : WarS n f
  snd : ∀ a b, Gt f a b → Plus E a b
  all : ∀ a b, a < n → b < n → ViaLt E k a b → Gt f a b
  now : ∀ a b, a < n → b < n → (a < i ∨ (a = i ∧ b < j)) → ViaLt E k a k → ViaLt E k k b → Gt f a b
theorem CloS.step {E : Nat → Nat → Prop} {n k i j : Nat} {f : List (List Bool)} (h : CloS E n k i j f) (hk : k < n) (hi : i < n) (hj : j < n) {x y z : Bool} (hx : (f.getD i [])[j]? = some x) (hy : (f.getD i [])[k]? = some y) (hz : (f.getD k [])[j]? = some z) :
    CloS E n k i (j + 1) (f.set i ((f.getD i []).set j (x || (y && z)))) := by
  have hg := gtSet h.shape (x || (y && z)) hi hj
  have gx : x = true ↔ Gt f i j := by unfold Gt; rw [hx]; simp
  have gy : y = true ↔ Gt f i k := by unfold Gt; rw [hy]; simp
  have gz : z = true ↔ Gt f k j := by unfold Gt; rw [hz]; simp
  have hup : ∀ a b, Gt f a b → Gt (f.set i ((f.getD i []).set j (x || (y && z)))) a b := fun a b hab => by
    rw [hg]
    split
    · rename_i e
      rw [e.1, e.2] at hab
      rw [gx.2 hab]
      rfl
    · exact hab
  refine ⟨?_, fun a b hab => ?_, fun a b ha hb hv => hup a b (h.all a b ha hb hv), fun a b ha hb hp h1 h2 => ?_⟩
  · obtain ⟨r, h1, h2, h3⟩ := h.shape.get hi
    exact h.shape.set (by rw [List.length_set, h2]; exact h3)
  · rw [hg] at hab
    split at hab
    · rename_i e
      obtain ⟨rfl, rfl⟩ := e
      rw [Bool.or_eq_true, Bool.and_eq_true] at hab
      rcases hab with hab | ⟨h1, h2⟩
      · exact h.snd _ _ (gx.1 hab)
      · exact (h.snd _ _ (gy.1 h1)).trans (h.snd _ _ (gz.1 h2))
    · exact h.snd a b hab
  · by_cases e : a = i ∧ b = j
    · rw [hg, if_pos e]
      obtain ⟨rfl, rfl⟩ := e
      rw [gy.2 (h.all _ _ ha hk h1), gz.2 (h.all _ _ hk hb h2)]
      simp
    · exact hup a b (h.now a b ha hb (by omega) h1 h2)
theorem CloS.row {E : Nat → Nat → Prop} {n k i : Nat} {f : List (List Bool)} (h : CloS E n k i n f) : CloS E n k (i + 1) 0 f :=
  ⟨h.shape, h.snd, h.all, fun a b ha hb hp => h.now a b ha hb (by omega)⟩
theorem CloS.round {E : Nat → Nat → Prop} {n k : Nat} {f : List (List Bool)} (h : CloS E n k n 0 f) : CloS E n (k + 1) 0 0 f :=
  ⟨h.shape, h.snd, fun a b ha hb hv => by
    rcases hv with hv | ⟨h1, h2⟩
    · exact h.all a b ha hb hv
    · exact h.now a b ha hb (.inl ha) h1 h2, fun a b ha hb hp => by omega⟩
theorem CloS.start {E : Nat → Nat → Prop} {n : Nat} {f : List (List Bool)} (hs : WarS n f) (h : ∀ a b, Gt f a b ↔ E a b) : CloS E n 0 0 0 f :=
  ⟨hs, fun a b hab => .one b ((h a b).1 hab), fun a b _ _ hv => (h a b).2 hv, fun a b ha hb hp => by omega⟩
theorem CloS.done {E : Nat → Nat → Prop} {n : Nat} {f : List (List Bool)} (h : CloS E n n 0 0 f) (hE : ∀ a b, E a b → a < n ∧ b < n) (a b : Nat) (ha : a < n) (hb : b < n) : Gt f a b ↔ Plus E a b :=
  ⟨h.snd a b, fun hp => h.all a b ha hb (ViaLt.of_plus hE hp)⟩
end Go.Proofs.YtagcnhiinmiklaaDoor
