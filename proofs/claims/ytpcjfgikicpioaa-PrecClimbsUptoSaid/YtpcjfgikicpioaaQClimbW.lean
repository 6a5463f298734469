/- The climber's world, and contracts of its take and op, of prec. -/
import Derived.Test.YtpcjfgikicpioaaQClimbT
import Derived.Test.YtpcjfgikicpioaaQp1
import Derived.Test.YtpcjfgikicpioaaQContInt
import Derived.Maps.Own
namespace Go.Proofs.Ytpcjfgikicpioaa
open Go.RowKit
set_option linter.unusedVariables false

/-- The climber in memory, at the place p: its table's levels, its word, and the map of the rules' numbers. -/
structure ClW (t : Table) (l : List Int) (K : Nat) (A : Option Addr) (c : Nat) (B : Option Addr) (d : Nat) (M mn : Nat) (D : DataW Unit) (S St : Nat → Prop) (p : Nat) (w : World) : Prop where
  blk : Blk' w K 68 (clCells t.terms t.atom t.opn t.cls (.slice A t.levels.length c) B l.length d p (.map (some M)))
  word : Els w S l B
  levs : Els w St t.levels A
  map : w.ownsMap Try.prog 3 (plainElem Try.prog 3) M mn D
  le : p ≤ l.length
/-- What does not turn. -/
structure ClF (t : Table) (l : List Int) (K M : Nat) (D : DataW Unit) (S St : Nat → Prop) : Prop where
  sK : ∀ b, S b → b ≠ K
  tK : ∀ b, St b → b ≠ K
  mK : M ≠ K
  small : l.length ≤ 1000000
  lev : t.levels.length ≤ 6
  opsn : (opsL t).length ≤ 1000000
  ops : ∀ lv ∈ t.levels, lv.ops.length ≤ 9223372036854775807
  at_ : ∀ op ∈ opsL t, D.atKey (.int .i64 op) (.lit (.int .i64 0)) = .lit (.int .i64 (rulOf t op))
section
variable {t : Table} {l : List Int} {K : Nat} {A : Option Addr} {c : Nat} {B : Option Addr} {d M mn : Nat} {D : DataW Unit} {S St : Nat → Prop} {p q : Nat} {w w' : World}
theorem ClW.kept (h : ClW t l K A c B d M mn D S St p w) (f : ClF t l K M D S St) (k : Kept (fun b => b = K) w w') (hq : q ≤ l.length) (hb : Blk' w' K 68 (clCells t.terms t.atom t.opn t.cls (.slice A t.levels.length c) B l.length d q (.map (some M)))) : ClW t l K A c B d M mn D S St q w' :=
  ⟨hb, h.word.kept k (fun b hb => f.sK b hb), h.levs.kept k (fun b hb => f.tK b hb), h.map.kept (row := some K) ⟨k.os, k.tape, k.output, k.size, fun x hx hx' => k.block x hx (fun e => hx' (by rw [e]))⟩ (fun e => by injection e with e; exact f.mK e), hq⟩
theorem ClW.below (h : ClW t l K A c B d M mn D S St p w) (k : Below w.heap.size w w') : ClW t l K A c B d M mn D S St p w' :=
  ⟨h.blk.below k h.blk.lt, h.word.below k, h.levs.below k, h.map.kept (row := none) ⟨k.os, k.tape, k.output, k.size, fun x hx _ => k.block x hx⟩ (by simp), h.le⟩
end

set_option maxRecDepth 100000 in
set_option maxHeartbeats 1000000 in
/-- Another terminal is there: the word is rejected. -/
theorem take_miss (K : Nat) (tm at0 op cl term : Int) (lv mv : Value) (l : List Int) (B : Option Addr) (d p : Nat) (o : Int) (S : Nat → Prop) (w : World) (hn : l.length ≤ 1000000) (hK : Blk' w K 68 (clCells tm at0 op cl lv B l.length d p mv)) (hl : l[p]? = some o) (ho : o ≠ term) (hB : Els w S l B) :
    Calls Try.prog 51 #[.pointer (some ⟨K, 0, none⟩), .int .i64 term] w fun e w' => e = rejectP ∧ Below w.heap.size w w' := by
  obtain ⟨bx, ox, rfl, hSx, hbx, hxi, hxc⟩ := hB.int hl
  have hp : p < l.length := (List.getElem?_eq_some_iff.1 hl).1
  have k5 : w.cell? ⟨K, 5, none⟩ = some (.slice (some ⟨bx, ox, none⟩) l.length d) := hK.cell 5
  have k6 : w.cell? ⟨K, 6, none⟩ = some (.int .i64 p) := hK.cell 6
  have zK := hK.lt
  have hb := Lib.hid (fun o => (Below.refl w.heap.size w).alloc (Nat.le_refl _) o)
  have hne : ¬ (p : Int) = (l.length : Int) := by omega
  have hd1 : decide ((p : Int) = (l.length : Int)) = false := by simp; omega
  have hd2 : decide (o = term) = false := by simp [ho]
  have hd3 : (o != term) = true := by simp [ho]
  have hp0 : (0 : Int) ≤ (p : Int) := by omega
  have hp9 : (p : Int) < (l.length : Int) := by omega
  clear hK hB hl hSx
  go_enter Try.func51, Try.ntmps51
  go_wp2_with fail
  go_quiet (fail)
  go_wp2_with fail
  exact ⟨rfl, rfl, below_drewN (hb.out _) _⟩

set_option maxRecDepth 100000 in
set_option maxHeartbeats 1000000 in
/-- An operator of the level is next. -/
theorem op_yes {t : Table} {l : List Int} {K : Nat} {A : Option Addr} {c : Nat} {B : Option Addr} {d M mn : Nat} {D : DataW Unit} {S St : Nat → Prop} {p : Nat} {w : World} (h : ClW t l K A c B d M mn D S St p w) (f : ClF t l K M D S St) {k : Nat} {lv : Level} (hlv : t.levels[k]? = some lv) {o : Int} (ho : l[p]? = some o) (hm : o ∈ lv.ops) :
    Calls Try.prog 50 #[.pointer (some ⟨K, 0, none⟩), .int .i64 k] w fun e w' => e = .returned (.tuple #[.int .i64 o, .bool true]) ∧ Below w.heap.size w w' := by
  have hsm := f.small
  have hll := f.lev
  have hol := f.ops lv (List.mem_of_getElem? hlv)
  obtain ⟨bx, ox, rfl, hSx, hbx, hxi, hxc⟩ := h.word.int ho
  obtain ⟨bl, ol, Ao, co, rfl, hSl, hbl, hlk, hlc, hco, hEo, lc0, lc1⟩ := h.levs.level hlv
  have hp : p < l.length := (List.getElem?_eq_some_iff.1 ho).1
  have hk : k < t.levels.length := (List.getElem?_eq_some_iff.1 hlv).1
  have k4 : w.cell? ⟨K, 4, none⟩ = some (.slice (some ⟨bl, ol, none⟩) t.levels.length c) := h.blk.cell 4
  have k5 : w.cell? ⟨K, 5, none⟩ = some (.slice (some ⟨bx, ox, none⟩) l.length d) := h.blk.cell 5
  have k6 : w.cell? ⟨K, 6, none⟩ = some (.int .i64 p) := h.blk.cell 6
  have zK := h.blk.lt
  have hb := Lib.hid (Below.refl w.heap.size w)
  have hne : ¬ (p : Int) = (l.length : Int) := by omega
  have hd1 : decide ((p : Int) = (l.length : Int)) = false := by simp; omega
  have hp0 : (0 : Int) ≤ (p : Int) := by omega
  have hp9 : (p : Int) < (l.length : Int) := by omega
  have hk0 : (0 : Int) ≤ (k : Int) := by omega
  have hk9 : (k : Int) < (t.levels.length : Int) := by omega
  have HE := Lib.hid hEo
  have hin : decide (o ∈ lv.ops) = true := by simp [hm]
  have Hol := Lib.hid hol
  clear hlv ho hm h f hSx hSl hEo hlk hxi hol
  go_enter Try.func50, Try.ntmps50
  go_wp2_with fail
  go_quiet ((go_at_call 44; refine Calls.quiet_of_same ((containsInt_any _ _ _ lv.ops o _ _ rfl Hol.out (HE.out.below (below_drewN (Below.refl _ _) _))).mono fun e w' hh => ⟨hh.1, hh.2.symm⟩)))
  go_wp2_with fail
  go_quiet (fail)
  go_wp2_with fail
  refine bodyPost_ret (v := .tuple #[.int .i64 o, .bool true]) (by simp [results, Try.results50, go_sem]) rfl ?_
  exact ⟨rfl, below_drewN (below_drewN hb.out _) _⟩

set_option maxRecDepth 100000 in
set_option maxHeartbeats 1000000 in
/-- No operator of the level is next. -/
theorem op_no {t : Table} {l : List Int} {K : Nat} {A : Option Addr} {c : Nat} {B : Option Addr} {d M mn : Nat} {D : DataW Unit} {S St : Nat → Prop} {p : Nat} {w : World} (h : ClW t l K A c B d M mn D S St p w) (f : ClF t l K M D S St) {k : Nat} {lv : Level} (hlv : t.levels[k]? = some lv) (hno : ∀ o, l[p]? = some o → o ∉ lv.ops) :
    Calls Try.prog 50 #[.pointer (some ⟨K, 0, none⟩), .int .i64 k] w fun e w' => e = .returned (.tuple #[.int .i64 0, .bool false]) ∧ Below w.heap.size w w' := by
  have hsm := f.small
  have hle := h.le
  have zK := h.blk.lt
  have hb := Lib.hid (Below.refl w.heap.size w)
  have k5 : w.cell? ⟨K, 5, none⟩ = some (.slice B l.length d) := h.blk.cell 5
  have k6 : w.cell? ⟨K, 6, none⟩ = some (.int .i64 p) := h.blk.cell 6
  by_cases hp : p < l.length
  · have hll := f.lev
    have hol := f.ops lv (List.mem_of_getElem? hlv)
    obtain ⟨o, ho⟩ := get_some hp
    have hm := hno o ho
    obtain ⟨bx, ox, rfl, hSx, hbx, hxi, hxc⟩ := h.word.int ho
    obtain ⟨bl, ol, Ao, co, rfl, hSl, hbl, hlk, hlc, hco, hEo, lc0, lc1⟩ := h.levs.level hlv
    have hk : k < t.levels.length := (List.getElem?_eq_some_iff.1 hlv).1
    have k4 : w.cell? ⟨K, 4, none⟩ = some (.slice (some ⟨bl, ol, none⟩) t.levels.length c) := h.blk.cell 4
    have hne : ¬ (p : Int) = (l.length : Int) := by omega
    have hd1 : decide ((p : Int) = (l.length : Int)) = false := by simp; omega
    have hp0 : (0 : Int) ≤ (p : Int) := by omega
    have hp9 : (p : Int) < (l.length : Int) := by omega
    have hk0 : (0 : Int) ≤ (k : Int) := by omega
    have hk9 : (k : Int) < (t.levels.length : Int) := by omega
    have HE := Lib.hid hEo
    have hin : decide (o ∈ lv.ops) = false := by simp [hm]
    have Hol := Lib.hid hol
    clear hlv ho hm hno h f hSx hSl hEo hlk hxi hol
    go_enter Try.func50, Try.ntmps50
    go_wp2_with fail
    go_quiet ((go_at_call 44; refine Calls.quiet_of_same ((containsInt_any _ _ _ lv.ops o _ _ rfl Hol.out (HE.out.below (below_drewN (Below.refl _ _) _))).mono fun e w' hh => ⟨hh.1, hh.2.symm⟩)))
    go_wp2_with fail
    refine bodyPost_ret (v := .tuple #[.int .i64 0, .bool false]) (by simp [results, Try.results50, go_sem]) rfl ?_
    exact ⟨rfl, below_drewN hb.out _⟩
  · obtain rfl : p = l.length := by omega
    have hself : (((l.length : Nat) : Int) == ((l.length : Nat) : Int)) = true := by simp
    clear hlv hno h f
    go_enter Try.func50, Try.ntmps50
    go_wp2_with fail
    go_quiet (fail)
    go_wp2_with fail
    refine bodyPost_ret (v := .tuple #[.int .i64 0, .bool false]) (by simp [results, Try.results50, go_sem]) rfl ?_
    exact ⟨rfl, below_drewN hb.out _⟩
end Go.Proofs.Ytpcjfgikicpioaa
