/- An argument of three bytes. -/
import Derived.Test.YtcjpmgfobnaoeaaRowKit
import Derived.WideKeyArr
namespace Go.Proofs.Ytcjpmgfobnaoeaa
open Go.ChangeShapes Go.WideShapes Go.ChangeAt Go.RowKit

theorem und105 : Try.prog.underlying 105 = some (.array 3 5) := by kernel_rfl
theorem und5' : Try.prog.underlying 5 = some (.int .u8) := by kernel_rfl
theorem one5 : Try.prog.cellsOf 5 = 1 := by kernel_rfl
theorem size105 : Try.prog.cellsOf 105 = 3 := by kernel_rfl

section
variable {H : Type} {enc : TypeId × Value → H} {w : World} {sp : Nat → Bool} {held : Bool} {r : Reach} {b0 : Nat}
set_option maxRecDepth 100000 in
theorem three_in {v : Value} {d : DataW H} {ps : List MemPlace} (hv : Value.okWide Try.prog w r b0 105 v) (hd : DataW.Trod enc Try.prog w 0 sp held 105 v d ps) :
    ∃ a b c : Int, v = .agg #[.int .u8 a, .int .u8 b, .int .u8 c] ∧ (Lit.int .u8 a).wf = true ∧ (Lit.int .u8 b).wf = true ∧ (Lit.int .u8 c).wf = true := by
  simp only [Value.okWide, und105] at hv
  obtain ⟨cs, rfl, h2, _⟩ := hv
  rw [size105] at h2
  obtain ⟨l⟩ := cs
  match l, h2 with
  | [c0, c1, c2], _ =>
    obtain ⟨fuel, hf⟩ := hd
    cases fuel with
    | zero => simp [DataW.trod] at hf
    | succ n =>
      rw [DataW.trod_step] at hf
      unfold DataW.trodStep at hf
      simp only [und105, Value.cells] at hf
      rw [if_pos (by rw [size105]; rfl)] at hf
      simp only [Option.map_eq_some_iff] at hf
      obtain ⟨xs, hx, e1⟩ := hf
      rw [show List.range 3 = [0, 1, 2] from rfl, List.mapM_cons, List.mapM_cons, List.mapM_cons, List.mapM_nil] at hx
      simp only [bind, Option.bind_eq_some_iff, pure, Option.some.injEq, one5] at hx
      obtain ⟨y0, h0, _, ⟨y1, h1, _, ⟨y2, h2', _, rfl, rfl⟩, rfl⟩, rfl⟩ := hx
      obtain ⟨a, ea, _, wa⟩ := DataW.trod_int und5' h0
      obtain ⟨b, eb, _, wb⟩ := DataW.trod_int und5' h1
      obtain ⟨c, ec, _, wc⟩ := DataW.trod_int und5' h2'
      simp at ea eb ec
      subst ea; subst eb; subst ec
      exact ⟨a, b, c, rfl, wa, wb, wc⟩
end
end Go.Proofs.Ytcjpmgfobnaoeaa
