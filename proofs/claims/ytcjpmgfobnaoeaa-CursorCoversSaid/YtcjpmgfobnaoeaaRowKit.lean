/- What every row's proof of this seat needs: the program's own knobs, a struct by value, the data that came in. -/
import Derived.Test.YtcjpmgfobnaoeaaRows
import Derived.Test.YtcjpmgfobnaoeaaA19
import Derived.WalkKit
import Derived.ProofKit
import Derived.OpenShut
import Derived.ShutString
import Derived.ChangeOld
import Derived.Below
namespace Go.Proofs.Ytcjpmgfobnaoeaa
open Go.ChangeShapes Go.WideShapes Go.ChangeAt Go.RowKit

theorem own : ownKnob Try.prog.godebug = none := by kernel_rfl
theorem laidOut : laidOutB Try.prog = true := by kernel_rfl
theorem is_struct {u : Option TypeDesc} {l : List (TypeId × Nat)} (h : fieldsOf u = some l) : ∃ fs, u = some (.struct fs) := by
  unfold fieldsOf at h
  split at h
  · exact ⟨_, rfl⟩
  · simp at h
theorem fields30 : fieldsOf (Try.prog.underlying 30) = some [(3, 0), (3, 1), (3, 2), (3, 3)] := by kernel_rfl
theorem und5 : Try.prog.underlying 5 = some (.int .u8) := by kernel_rfl
theorem und101 : Try.prog.underlying 101 = some (.int .u16) := by kernel_rfl
theorem cells30 : Try.prog.cellsOf 30 = 4 := by kernel_rfl

theorem len4 {α : Type} {l : List α} (h : l.length = 4) : ∃ a b c d, l = [a, b, c, d] := by
  rcases l with _ | ⟨a, _ | ⟨b, _ | ⟨c, _ | ⟨d, _ | ⟨e, l⟩⟩⟩⟩⟩ <;> simp at h
  exact ⟨a, b, c, d, rfl⟩

section
variable {H : Type} {enc : TypeId × Value → H} {w : World} {sp : Nat → Bool} {held : Bool} {r : Reach} {b0 : Nat}

set_option maxRecDepth 100000 in
/-- The data: its value, and what it holds. -/
theorem data_in {v : Value} {d : DataW H} {ps : List MemPlace} (hv : Value.okWide Try.prog w r b0 28 v) (h : DataW.Trod enc Try.prog w 0 sp held 28 v d ps) : ∃ D : Dt, D.At w.heap.size w v := by
  obtain ⟨fs, hfs⟩ := is_struct fields28
  obtain ⟨cs, rfl, _⟩ := okWide_struct hfs hv
  exact open_data ⟨cs, rfl⟩ h

set_option maxRecDepth 100000 in
/-- Four numbers in a struct. -/
theorem ask_in {v : Value} {d : DataW H} {ps : List MemPlace} (hv : Value.okWide Try.prog w r b0 30 v) (h : DataW.Trod enc Try.prog w 0 sp held 30 v d ps) :
    ∃ a b t k : Int, v = .agg #[.int .i64 a, .int .i64 b, .int .i64 t, .int .i64 k] ∧ (Lit.int .i64 a).wf = true ∧ (Lit.int .i64 b).wf = true ∧ (Lit.int .i64 t).wf = true ∧ (Lit.int .i64 k).wf = true := by
  obtain ⟨fs, hfs⟩ := is_struct fields30
  obtain ⟨cs, rfl, _⟩ := okWide_struct hfs hv
  obtain ⟨fuel, h⟩ := h
  obtain ⟨n, rfl, hl, hf⟩ := open_struct fields30 h
  rw [cells30] at hl
  obtain ⟨l⟩ := cs
  simp only [Value.cells] at hl hf
  obtain ⟨c0, c1, c2, c3, rfl⟩ := len4 hl
  obtain ⟨y0, h0⟩ := hf 3 0 (by simp)
  obtain ⟨y1, h1⟩ := hf 3 1 (by simp)
  obtain ⟨y2, h2⟩ := hf 3 2 (by simp)
  obtain ⟨y3, h3⟩ := hf 3 3 (by simp)
  rw [cells3] at h0 h1 h2 h3
  simp only [List.drop_zero, List.drop_succ_cons, List.take_succ_cons, List.take_zero] at h0 h1 h2 h3
  obtain ⟨a, e0, _, w0⟩ := DataW.trod_int und3 h0
  obtain ⟨b, e1, _, w1⟩ := DataW.trod_int und3 h1
  obtain ⟨c, e2, _, w2⟩ := DataW.trod_int und3 h2
  obtain ⟨d, e3, _, w3⟩ := DataW.trod_int und3 h3
  simp only [List.cons.injEq, and_true] at e0 e1 e2 e3
  subst e0 e1 e2 e3
  exact ⟨a, b, c, d, rfl, w0, w1, w2, w3⟩
end

end Go.Proofs.Ytcjpmgfobnaoeaa
