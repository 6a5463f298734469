/- Contract: the climber's parse, of prec, whole. -/
import Derived.Test.YtjdojogjogenkaaDoorQClimbL
namespace Go.Proofs.YtjdojogjogenkaaDoor
open Go.RowKit
set_option linter.unusedVariables false

theorem parse_step {t : Table} {l : List Int} {K : Nat} {A : Option Addr} {c : Nat} {B : Option Addr} {d M mn : Nat} {D : DataW Unit} {S St : Nat → Prop} {p : Nat} {w : World} (P : Nat → Nat → Res → Prop) (h : ClW t l K A c B d M mn D S St p w) (f : ClF t l K M D S St)
    (hP : ∀ (k1 p1 : Nat) (r1 : Res) (w1 : World), P k1 p1 r1 → ClW t l K A c B d M mn D S St p1 w1 → Calls Tryd.prog 115 #[.pointer (some ⟨K, 0, none⟩), .int .i64 k1] w1 (RetP (ClW t l K A c B d M mn D S St) K r1 w1)) {k : Nat} (r : Res) (hr : ParS t l (rulOf t) P k p r) :
    Calls Tryd.prog 115 #[.pointer (some ⟨K, 0, none⟩), .int .i64 k] w (RetP (ClW t l K A c B d M mn D S St) K r w) := by
  have e : ((k + 1 : Nat) : Int) = (k : Int) + 1 := by omega
  have h1 : ∀ (p1 : Nat) (r1 : Res) (w1 : World), P (k + 1) p1 r1 → ClW t l K A c B d M mn D S St p1 w1 → Calls Tryd.prog 115 #[.pointer (some ⟨K, 0, none⟩), .int .i64 ((k : Int) + 1)] w1 (RetP (ClW t l K A c B d M mn D S St) K r1 w1) := fun p1 r1 w1 a b => by rw [← e]; exact hP (k + 1) p1 r1 w1 a b
  cases hr with
  | opd hk r ho => exact parse_opd P h f (fun p1 r1 w1 a b => hP 0 p1 r1 w1 a b) hk r ho
  | skip lv hl h3 hn r hx => exact parse_skip P h f h1 hl h3 hn r hx
  | pre lv hl h3 op ho hm y q hx => exact parse_pre P h f (hP k) hl h3 ho hm y q hx
  | preRej lv hl h3 op ho hm q hx => exact parse_preRej P h f (hP k) hl h3 ho hm q hx
  | infRej lv hl h3 q hx => exact parse_infRej P h f h1 hl h3 q hx
  | inf lv hl h3 x q hx r hL =>
    by_cases h2 : lv.kind = 2
    · exact parse_inf2 P h f h1 (fun p1 r1 w1 a b => by rw [if_pos h2] at a; exact hP k p1 r1 w1 a b) hl h3 h2 x q hx r hL
    · exact parse_infn P h f h1 (fun p1 r1 w1 a b => by rw [if_neg h2] at a; exact h1 p1 r1 w1 a b) hl h3 h2 x q hx r hL
theorem parse_any {t : Table} {l : List Int} {K : Nat} {A : Option Addr} {c : Nat} {B : Option Addr} {d M mn : Nat} {D : DataW Unit} {S St : Nat → Prop} (f : ClF t l K M D S St) : ∀ (n k p : Nat) (r : Res) (w : World), Par t l (rulOf t) n k p r → ClW t l K A c B d M mn D S St p w →
    Calls Tryd.prog 115 #[.pointer (some ⟨K, 0, none⟩), .int .i64 k] w (RetP (ClW t l K A c B d M mn D S St) K r w)
  | 0, _, _, _, _, h, _ => h.elim
  | n + 1, k, p, r, w, h, hC => parse_step (Par t l (rulOf t) n) hC f (fun k1 p1 r1 w1 a b => parse_any f n k1 p1 r1 w1 a b) r h
end Go.Proofs.YtjdojogjogenkaaDoor
