/- What strings, three kinds and token rows among a law's arguments read as. -/
import Derived.Test.YtabehgggahnopaaOpens
import Derived.Test.YtabehgggahnopaaLayD
import Derived.OpenShut
namespace Go.Proofs.Ytabehgggahnopaa
open Go.RowKit Go.ChangeShapes Go.WideShapes Go.Deep
set_option linter.unusedVariables false
section
variable {P : Program} {H : Type} {enc : TypeId × Value → H} {w : World} {base b0 : Nat} {r : Reach} {spare : Nat → Bool} {held : Bool}
theorem open_arg_str {t : TypeId} {v : Value} {d : DataW H} {p : List MemPlace} (hs : P.underlying t = some .string)
    (hv : Value.okWide P w r b0 t v) (h : DataW.Trod enc P w base spare held t v d p) : ∃ x : ByteArray, Vl w (OldS w) x v ∧ Blk.blk x ≤ Rows.uptoBulk d := by
  obtain ⟨s, rfl⟩ := okWide_string hs hv
  obtain ⟨fuel, hf⟩ := h
  obtain ⟨x, h1, h2⟩ := opens_str hs enc w base spare held fuel _ _ hf
  exact ⟨x, ⟨_, h1, rfl⟩, h2⟩
theorem open_arg_k3 {t e : TypeId} {v : Value} {d : DataW H} {p : List MemPlace} (hs : P.underlying t = some (.array 3 e)) (hC : P.cellsOf t = 3) (he : P.underlying e = some (.int .i64)) (hce : P.cellsOf e = 1)
    (hv : Value.okWide P w r b0 t v) (h : DataW.Trod enc P w base spare held t v d p) : ∃ x : K3, Vl w (OldS w) x v ∧ Blk.blk x ≤ Rows.uptoBulk d := by
  have hv' : ∃ cs, v = .agg cs := by
    simp only [Value.okWide, hs] at hv
    obtain ⟨cs, h1, _⟩ := hv
    exact ⟨cs, h1⟩
  obtain ⟨cs, rfl⟩ := hv'
  obtain ⟨fuel, hf⟩ := h
  obtain ⟨x, h1, h2⟩ := opens_k3 hs hC he hce (fun enc w base spare held fuel cs y h => by
    obtain ⟨_, _, _, _, hl, _⟩ := DataW.trod_array hs h
    rw [hl, hC]) enc w base spare held fuel _ _ hf
  exact ⟨x, ⟨_, h1, rfl⟩, h2⟩
end
theorem opensTok : Opens Try.prog Tok 28 := opens_tok Try.underlying28 (by kernel_rfl) (by kernel_rfl) (opens_int Try.underlying3) (opens_int Try.underlying3) (opens_int Try.underlying3)
theorem opensToks : Opens Try.prog (List Tok) 22 := opens_slice Try.underlying22 (by kernel_rfl) opensTok
end Go.Proofs.Ytabehgggahnopaa
