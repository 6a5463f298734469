/- layout.Tokens: the plain law. -/
import Derived.Test.YtabehgggahnopaaLayT
namespace Go.Proofs.Ytabehgggahnopaa
open Go.RowKit
set_option linter.unusedVariables false

def keepN (c : Int) (stk : List Int) : Nat → Nat
  | 0 => 0
  | n + 1 => if c < (stk[n]?).getD 0 then keepN c stk n else n + 1
abbrev TS := Sum (List Tok × List Int) Int
def tokEnd (k : K3) (t : Tok) (col : Int) (out : List Tok) (stk : List Int) : TS :=
  if col = lastD (stk.take (keepN col stk stk.length)) then .inl (out ++ List.replicate (stk.length - keepN col stk stk.length) ⟨k.k1, t.frm, t.frm⟩ ++ [t], stk.take (keepN col stk stk.length)) else .inr 3
def tokNew (s : ByteArray) (k : K3) (first : Bool) (out : List Tok) (stk : List Int) (t : Tok) : TS :=
  if lastD stk < t.frm - (lnl s t.frm.toNat : Nat) then
    if first then .inr 3 else if 20 < stk.length then .inr 11 else tokEnd k t (t.frm - (lnl s t.frm.toNat : Nat)) (out ++ [⟨k.k0, t.frm, t.frm⟩]) (stk ++ [t.frm - (lnl s t.frm.toNat : Nat)])
  else tokEnd k t (t.frm - (lnl s t.frm.toNat : Nat)) out stk
def tokStep (s : ByteArray) (k : K3) (prev : Option Tok) (out : List Tok) (stk : List Int) (t : Tok) : TS :=
  match prev with
  | none => tokNew s k true out stk t
  | some p => if lnl s t.frm.toNat = lnl s p.frm.toNat then .inl (out ++ [t], stk) else tokNew s k false (out ++ [⟨k.k2, p.tos, p.tos⟩]) stk t
def tokRun (s : ByteArray) (k : K3) : Option Tok → List Tok → List Int → List Tok → TS
  | _, out, stk, [] => .inl (out, stk)
  | prev, out, stk, t :: l => match tokStep s k prev out stk t with
    | .inl r => tokRun s k (some t) r.1 r.2 l
    | .inr e => .inr e
def lastTos (l : List Tok) : Int := ((l[l.length - 1]?).map (·.tos)).getD 0
def tokR (s : ByteArray) (l : List Tok) (k : K3) : List Tok × Int :=
  match tokRun s k none [] [0] l with
  | .inr e => ([], e)
  | .inl r => (if l = [] then r.1 else r.1 ++ [⟨k.k2, lastTos l, lastTos l⟩] ++ List.replicate (r.2.length - 1) ⟨k.k1, s.size, s.size⟩, 0)
def tokensL (s : ByteArray) (l : List Tok) (k : K3) : List Tok × Int := if checkL s l k ≠ 0 then ([], checkL s l k) else tokR s l k

theorem checkT_valid {n : Nat} {k : K3} : ∀ (l : List Tok) (last : Int), checkT n k last l = 0 → ∀ t ∈ l, last ≤ t.frm ∧ t.frm < t.tos ∧ t.tos ≤ n ∧ isK k t.kind = false
  | [], _, _ => by simp
  | t :: l, last, h => by
    have hb : badT n k last t = 0 := by
      unfold checkT at h
      split at h
      · rename_i hne; exact absurd h hne
      · rename_i he; exact Decidable.of_not_not he
    rw [checkT_ok hb] at h
    have h1 : ¬ (t.frm < last ∨ t.tos ≤ t.frm ∨ (n : Int) < t.tos) := fun hc => by rw [badT_one hc] at hb; cases hb
    have h2 : isK k t.kind = false := by
      unfold badT at hb
      rw [if_neg h1] at hb
      cases hq : isK k t.kind with
      | false => rfl
      | true => rw [hq] at hb; cases hb
    intro x hx
    rcases List.mem_cons.1 hx with rfl | hx
    · exact ⟨by omega, by omega, by omega, h2⟩
    · have := checkT_valid l t.tos h x hx
      exact ⟨by omega, this.2⟩
theorem checkL_ok {s : ByteArray} {l : List Tok} {k : K3} (h : checkL s l k = 0) : s.size ≤ 4000 ∧ l.length ≤ 400 ∧ twiceK k = false ∧ checkT s.size k 0 l = 0 := by
  unfold checkL at h
  split at h
  · cases h
  · split at h
    · cases h
    · rename_i h1 h2
      exact ⟨by omega, by omega, by simpa using h2, h⟩
theorem keepN_le (c : Int) (stk : List Int) : ∀ n, keepN c stk n ≤ n
  | 0 => Nat.le_refl _
  | n + 1 => by
    unfold keepN
    split
    · exact Nat.le_succ_of_le (keepN_le c stk n)
    · exact Nat.le_refl _
theorem keepN_pos {c : Int} {stk : List Int} (h0 : stk[0]? = some 0) (hc : 0 ≤ c) : ∀ n, 1 ≤ n → 1 ≤ keepN c stk n
  | 1, _ => by unfold keepN; rw [h0, if_neg (by simpa using hc)]; omega
  | n + 2, _ => by
    unfold keepN
    split
    · exact keepN_pos h0 hc (n + 1) (by omega)
    · omega
theorem keepN_hit {c : Int} {stk : List Int} {n : Nat} {x : Int} (hx : stk[n]? = some x) (h : c < x) : keepN c stk (n + 1) = keepN c stk n := by
  conv => lhs; unfold keepN
  rw [hx, if_pos (by simpa using h)]
theorem keepN_stop {c : Int} {stk : List Int} {n : Nat} {x : Int} (hx : stk[n]? = some x) (h : ¬ c < x) : keepN c stk (n + 1) = n + 1 := by
  unfold keepN
  rw [hx, if_neg (by simpa using h)]
theorem lastD_take {stk : List Int} {n : Nat} {x : Int} (hx : stk[n]? = some x) : lastD (stk.take (n + 1)) = x := by
  have hl := (List.getElem?_eq_some_iff.1 hx).1
  unfold lastD
  rw [List.length_take, show min (n + 1) stk.length - 1 = n by omega, List.getElem?_take, if_pos (by omega), hx]; rfl
end Go.Proofs.Ytabehgggahnopaa
