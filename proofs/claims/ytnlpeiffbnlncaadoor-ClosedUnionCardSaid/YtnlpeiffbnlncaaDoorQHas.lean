/- Contract: parlmake.has: is the rule among the rules? -/
import Derived.Test.YtnlpeiffbnlncaaDoorQp1
import Derived.Test.YtnlpeiffbnlncaaDoorChecked
import Derived.Deep.QuietTactic
import Derived.BigQuiet
namespace Go.Proofs.YtnlpeiffbnlncaaDoor
open Go.RowKit
set_option linter.unusedVariables false

def HasR (rs : List Rule) (r : Rule) (A' : Option Addr) (c' : Nat) (w : World) (i : Value) (wr : World) : Prop :=
  ∃ k : Nat, k ≤ rs.length ∧ i = .int .i64 k ∧ r ∉ rs.take k ∧ Below w.heap.size w wr ∧ w.heap.size + 1 ≤ wr.heap.size ∧ wr.cell? ⟨w.heap.size, 0, none⟩ = some (.int .i64 r.left) ∧ wr.cell? ⟨w.heap.size, 1, none⟩ = some (.slice A' r.right.length c')
def HasI (xs ys : List Sym) (W : World) (s i : Value) (wr : World) : Prop :=
  ∃ m : Nat, m ≤ xs.length ∧ i = .int .i64 m ∧ s = .bool (decide (xs.take m = ys.take m)) ∧ Below W.heap.size W wr

theorem snoc_dec (a b : List Sym) (s t : Sym) : decide (a ++ [s] = b ++ [t]) = (decide (a = b) && decide (s = t)) := by
  rw [← Bool.decide_and]
  congr 1
  refine propext ⟨fun h => ?_, fun h => by rw [h.1, h.2]⟩
  obtain ⟨h1, h2⟩ := List.append_inj' h rfl
  exact ⟨h1, by simpa using h2⟩
theorem notin_snoc {rs : List Rule} {r x : Rule} {k : Nat} (h : r ∉ rs.take k) (hx : rs[k]? = some x) (hne : r ≠ x) : r ∉ rs.take (k + 1) := by
  rw [take_snoc hx]
  simp [h, hne]

set_option maxRecDepth 100000 in
set_option maxHeartbeats 1000000 in
theorem has_any (A A' : Option Addr) (c c' : Nat) (rs : List Rule) (r : Rule) (S : Nat → Prop) (w : World) (hm : rs.length ≤ 9223372036854775807) (hm' : r.right.length ≤ 9223372036854775807) (hA : Els w S rs A) (hA' : Els w S r.right A') :
    Calls Tryd.prog 41 #[.slice A rs.length c, .agg #[.int .i64 r.left, .slice A' r.right.length c']] w
      fun e w' => e = .returned (.bool (decide (r ∈ rs))) ∧ Below w.heap.size w w' := by
  obtain ⟨rl, rr⟩ := r
  dsimp only at *
  go_enter Tryd.func41, Tryd.ntmps41
  go_wp2
  go_loopw [11] (fun i wr => HasR rs ⟨rl, rr⟩ A' c' w i wr) (fun i _ => rs.length - (intOf i).toNat)
  case atStart => exact ⟨0, Nat.zero_le _, rfl, by simp, (Below.refl _ _).alloc (Nat.le_refl _) _, by simp, by go_simp, by go_simp⟩
  case round =>
    obtain ⟨wo, hwo⟩ : ∃ wo : World, wo = wr := ⟨_, rfl⟩
    subst hwo
    obtain ⟨k, hk, rfl, hnot, hb, hsz, hb0, hb1⟩ := hrel
    dsimp only at hb0 hb1
    have Hnot := Lib.hid hnot
    have Hb := Lib.hid hb
    have HE' := Lib.hid (hA'.below hb)
    have HE := Lib.hid (hA.below hb)
    clear hnot hb hA hA'
    have z1 : w.heap.size < wo.heap.size := by omega
    have z2 : w.heap.size < wo.heap.size + 1 := by omega
    by_cases hlt : k < rs.length
    · obtain ⟨x, hx⟩ := get_some hlt
      obtain ⟨b, o, Ax, cx, rfl, _, hbs, hi, hxc, hcx, hEx, hc0, hc1⟩ := HE.out.rule hx
      have HEx := Lib.hid hEx
      have Hx := Lib.hid hx
      clear hx hEx
      obtain ⟨xl, xr⟩ := x
      dsimp only at *
      have hxm : xr.length ≤ 9223372036854775807 := by omega
      have next : (⟨rl, rr⟩ : Rule) ≠ ⟨xl, xr⟩ → ∀ W', Below wo.heap.size wo W' → HasR rs ⟨rl, rr⟩ A' c' w (.int .i64 ((k : Int) + 1)) W' := fun hne W' hW =>
        ⟨k + 1, by omega, by go_num, notin_snoc Hnot.out Hx.out hne, bthen Hb.out hW Hb.out.size, Nat.le_trans hsz hW.size, ((bcell hW).1 _ _ z1).trans hb0, ((bcell hW).1 _ _ z1).trans hb1⟩
      have Next := Lib.hid next
      clear next
      by_cases hl : xl = rl
      · subst hl
        by_cases hn : xr.length = rr.length
        · have hn' : ((xr.length : Int) != (rr.length : Int)) = false := by simp; omega
          have Hn := Lib.hid hn
          clear hn
          go_wp2
          go_loopw [7, 32] (fun s i wr => HasI xr rr (wo.alloc (.cells #[.int .i64 xl, .slice Ax xr.length cx] 57)) s i wr) (fun _ i _ => xr.length - (intOf i).toNat)
          case atStart => exact ⟨0, Nat.zero_le _, rfl, by simp, Below.refl _ _⟩
          case round =>
            obtain ⟨m, hm, rfl, rfl, hbm⟩ := hrel
            obtain ⟨hcm, _⟩ := bcell hbm
            have p0 := hcm wo.heap.size 0 (by simp)
            have p1 := hcm wo.heap.size 1 (by simp)
            have p2 := hcm w.heap.size 1 (by simp; omega)
            have p3 := hcm w.heap.size 0 (by simp; omega)
            simp only [World.cell?_alloc_lt _ _ ⟨w.heap.size, 1, none⟩ z1, World.cell?_alloc_lt _ _ ⟨w.heap.size, 0, none⟩ z1, hb0, hb1, World.cell?_alloc_new] at p0 p1 p2 p3
            simp at p0 p1
            have Hbm := Lib.hid hbm
            have hba : Below wo.heap.size wo (wo.alloc (.cells #[.int .i64 xl, .slice Ax xr.length cx] 57)) := (Below.refl _ _).alloc (Nat.le_refl _) _
            have HEm := Lib.hid (((HEx.out).below hba).below hbm)
            have HEm' := Lib.hid (((HE'.out).below hba).below hbm)
            clear hcm hbm hba
            by_cases hml : m < xr.length
            · obtain ⟨s, hs⟩ := get_some hml
              obtain ⟨s', hs'⟩ := get_some (show m < rr.length by have := Hn.out; omega)
              obtain ⟨bs, os, rfl, _, hbs1, _, hs0, hs1⟩ := HEm.out.sym hs
              obtain ⟨bs', os', rfl, _, hbs2, _, hs2, hs3⟩ := HEm'.out.sym hs'
              have Ht := Lib.hid (take_snoc hs)
              have Ht' := Lib.hid (take_snoc hs')
              clear hs hs'
              obtain ⟨st, sn⟩ := s
              obtain ⟨st', sn'⟩ := s'
              dsimp only at *
              have hm0 : (0 : Int) ≤ (m : Int) := by omega
              have hm1 : (m : Int) < (xr.length : Int) := by omega
              have hm2 : (m : Int) < (rr.length : Int) := by have := Hn.out; omega
              have fin : ∀ (b : Bool), b = (decide (xr.take m = rr.take m) && decide ((⟨st, sn⟩ : Sym) = ⟨st', sn'⟩)) → ∀ nq, HasI xr rr (wo.alloc (.cells #[.int .i64 xl, .slice (some ⟨bs, os, none⟩) xr.length cx] 57)) (.bool b) (.int .i64 ((m : Int) + 1)) (wr.drewN nq) := fun b hb nq =>
                ⟨m + 1, by omega, by go_num, by rw [hb, Ht.out, Ht'.out, snoc_dec], bdrewN Hbm.out⟩
              have Fin := Lib.hid fin
              clear fin
              cases hd : decide (xr.take m = rr.take m)
              · go_wp2
                go_quiet (fail)
                go_wp2
                go_roundw
                case rel => exact Fin.out _ (by rw [hd]; rfl) _
                case measure => simp [intOf]; omega
              · by_cases he : (⟨st, sn⟩ : Sym) = ⟨st', sn'⟩
                · injection he with h1 h2
                  subst h1; subst h2
                  go_wp2
                  go_quiet (fail)
                  go_wp2
                  go_roundw
                  case rel => exact Fin.out _ (by rw [hd]; simp) _
                  case measure => simp [intOf]; omega
                · have Hd := Lib.hid (show decide ((⟨st, sn⟩ : Sym) = ⟨st', sn'⟩) = false by simpa using he)
                  have Hne := Lib.hid he
                  clear he
                  by_cases htt : st = st'
                  · subst htt
                    have hzz : (sn == sn') = false := by simp; rintro rfl; exact Hne.out rfl
                    go_wp2
                    go_quiet (fail)
                    go_wp2
                    go_roundw
                    case rel => exact Fin.out _ (by rw [Hd.out]; simp) _
                    case measure => simp [intOf]; omega
                  · have htb : (st == st') = false := by simpa using htt
                    clear htt
                    go_wp2
                    go_quiet (fail)
                    go_wp2
                    go_roundw
                    case rel => exact Fin.out _ (by rw [Hd.out]; simp) _
                    case measure => simp [intOf]; omega
            · have hmx : m = xr.length := by omega
              subst hmx
              have htk : decide (xr.take xr.length = rr.take xr.length) = decide (xr = rr) := by rw [List.take_length, Hn.out, List.take_length]
              rw [htk]
              clear htk p0 p1 p2 p3
              by_cases he : xr = rr
              · have E0 := Lib.hid (show decide ((⟨xl, rr⟩ : Rule) ∈ rs) = true by rw [decide_eq_true_eq, ← he]; exact List.mem_of_getElem? Hx.out)
                have hd : decide (xr = rr) = true := by simpa using he
                rw [hd]
                clear hd he
                go_wp2
                go_ret
                exact ⟨ret_bool E0.out.symm, bthen (Hb.out.alloc Hb.out.size _) Hbm.out (by simp; omega)⟩
              · have hd : decide (xr = rr) = false := by simpa using he
                have He := Lib.hid he
                rw [hd]
                clear hd he
                go_wp2
                go_roundw
                case rel => exact Next.out (fun e => He.out (by injection e with _ e2; exact e2.symm)) _ (bthen ((Below.refl _ _).alloc (Nat.le_refl _) _) Hbm.out (by simp))
                case measure => simp [intOf]; omega
        · have hn' : ((xr.length : Int) != (rr.length : Int)) = true := by simp; omega
          have Hn := Lib.hid hn
          clear hn
          go_wp2
          go_roundw
          case rel => exact Next.out (fun e => Hn.out (by injection e with _ e2; rw [e2])) _ ((Below.refl _ _).alloc (Nat.le_refl _) _)
          case measure => simp [intOf]; omega
      · have hl' : (xl != rl) = true := by simpa using hl
        have Hl := Lib.hid hl
        clear hl
        go_wp2
        go_roundw
        case rel => exact Next.out (fun e => Hl.out (by injection e with e1 _; exact e1.symm)) _ ((Below.refl _ _).alloc (Nat.le_refl _) _)
        case measure => simp [intOf]; omega
    · have e0 : decide ((⟨rl, rr⟩ : Rule) ∈ rs) = false := by
        have h := Hnot.out
        rw [List.take_of_length_le (by omega)] at h
        simpa using h
      have E0 := Lib.hid e0
      clear e0
      go_wp2
      go_ret
      exact ⟨ret_bool E0.out.symm, Hb.out⟩
end Go.Proofs.YtnlpeiffbnlncaaDoor
