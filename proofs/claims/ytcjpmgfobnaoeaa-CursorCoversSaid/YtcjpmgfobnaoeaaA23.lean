/- Equality of structs of numbers: spans, spots, tokens, stamps, steps. -/
import Derived.Test.YtcjpmgfobnaoeaaA18
import Derived.Laws.StructEq
namespace Go.Proofs.Ytcjpmgfobnaoeaa
open Go.RowKit

section
variable {P : Program} {d : Nat} {xs ys : Array Value} {f : Field} {fs : List Field} {a b : Value} {r s : Bool} {w : World}
/-- One field, and those behind it. -/
theorem eqF (hn : (f.name == "_") = false) (ha : (part f.type xs f.offset).run P w = .ok a w) (hb : (part f.type ys f.offset).run P w = .ok b w) (he : (Op.equalIn d f.type a b).run P w = .ok r w) (hr : (Op.eqFields d xs ys fs).run P w = .ok s w) :
    (Op.eqFields d xs ys (f :: fs)).run P w = .ok (r && s) w := by
  have h1 : f.name ≠ "_" := by intro e; rw [e] at hn; simp at hn
  unfold Op.eqFields
  rw [if_pos h1]
  simp only [Sem.run_bind, ha, hb, he, Result.andThen_ok]
  cases r with
  | true => simpa using hr
  | false => simp
theorem eqF_nil : (Op.eqFields d xs ys []).run P w = .ok true w := by simp [Op.eqFields]
theorem eqF_struct {t : TypeId} {fs : Array Field} (hu : P.underlying t = some (.struct fs)) (hp : P.stoodInHeld t = false) (h : (Op.eqFields d xs ys fs.toList).run P w = .ok r w) : (Op.equalIn (d + 1) t (.agg xs) (.agg ys)).run P w = .ok r w := by
  have hf : P.fieldsOf t = fs := by unfold Program.fieldsOf; rw [hu]
  rw [run_equalIn_struct (P := P) w d t xs ys (by rw [hf]; exact hu) hp, hf]
  exact h
end

theorem eqA64 (d : Nat) (w : World) (x0 y0 x1 y1 : Int) : (Op.equalIn (d + 2) 64 (.agg #[.int .i64 x0, .int .i64 x1]) (.agg #[.int .i64 y0, .int .i64 y1])).run Try.prog w = .ok (x0 == y0 && (x1 == y1 && true)) w := by
  refine eqF_struct Try.underlying64 (by kernel_rfl) ?_
  refine eqF (by rfl) (by go_simp; rfl) (by go_simp; rfl) (by go_simp) ?_
  exact eqF (by rfl) (by go_simp; rfl) (by go_simp; rfl) (by go_simp) eqF_nil
theorem eqA66 (d : Nat) (w : World) (x0 y0 x1 y1 x2 y2 x3 y3 x4 y4 : Int) :
    (Op.equalIn (d + 3) 66 (.agg #[.int .i64 x0, .int .i64 x1, .int .i64 x2, .int .i64 x3, .int .i64 x4]) (.agg #[.int .i64 y0, .int .i64 y1, .int .i64 y2, .int .i64 y3, .int .i64 y4])).run Try.prog w =
      .ok (x0 == y0 && (x1 == y1 && ((x2 == y2 && (x3 == y3 && true)) && (x4 == y4 && true)))) w := by
  refine eqF_struct Try.underlying66 (by kernel_rfl) ?_
  refine eqF (by rfl) (by go_simp; rfl) (by go_simp; rfl) (by go_simp) ?_
  refine eqF (by rfl) (by go_simp; rfl) (by go_simp; rfl) (by go_simp) ?_
  refine eqF (by rfl) (by go_simp) (by go_simp) (eqA64 (d + 0) w _ _ _ _) ?_
  exact eqF (by rfl) (by go_simp; rfl) (by go_simp; rfl) (by go_simp) eqF_nil

theorem eq_of_in {t : TypeId} {x y : Array Value} {r : Bool} {w : World} {n : Nat} (hn : n ≤ 10000) (h : ∀ d, (Op.equalIn (d + n) t (.agg x) (.agg y)).run Try.prog w = .ok r w) : (binOp .eql t (.agg x) (.agg y)).run Try.prog w = .ok (.bool r) w := by
  have h1 := h (10000 - n)
  rw [show 10000 - n + n = 10000 by omega] at h1
  simp only [binOp]
  simp [Op.equal, Op.maxDepth, h1]
theorem ne_of_in {t : TypeId} {x y : Array Value} {r : Bool} {w : World} {n : Nat} (hn : n ≤ 10000) (h : ∀ d, (Op.equalIn (d + n) t (.agg x) (.agg y)).run Try.prog w = .ok r w) : (binOp .neq t (.agg x) (.agg y)).run Try.prog w = .ok (.bool (!r)) w := by
  have h1 := h (10000 - n)
  rw [show 10000 - n + n = 10000 by omega] at h1
  simp only [binOp]
  simp [Op.equal, Op.maxDepth, h1]

@[go_sem] theorem eql64 (w : World) (x0 y0 x1 y1 : Int) : (binOp .eql 64 (.agg #[.int .i64 x0, .int .i64 x1]) (.agg #[.int .i64 y0, .int .i64 y1])).run Try.prog w = .ok (.bool (x0 == y0 && (x1 == y1))) w := by
  have := eq_of_in (by decide) fun d => eqA64 d w x0 y0 x1 y1
  simpa using this
@[go_sem] theorem neq64 (w : World) (x0 y0 x1 y1 : Int) : (binOp .neq 64 (.agg #[.int .i64 x0, .int .i64 x1]) (.agg #[.int .i64 y0, .int .i64 y1])).run Try.prog w = .ok (.bool (!(x0 == y0 && (x1 == y1)))) w := by
  have := ne_of_in (by decide) fun d => eqA64 d w x0 y0 x1 y1
  simpa using this
@[go_sem] theorem eql66 (w : World) (x0 y0 x1 y1 x2 y2 x3 y3 x4 y4 : Int) : (binOp .eql 66 (.agg #[.int .i64 x0, .int .i64 x1, .int .i64 x2, .int .i64 x3, .int .i64 x4]) (.agg #[.int .i64 y0, .int .i64 y1, .int .i64 y2, .int .i64 y3, .int .i64 y4])).run Try.prog w =
    .ok (.bool (x0 == y0 && (x1 == y1 && ((x2 == y2 && (x3 == y3)) && (x4 == y4))))) w := by
  have := eq_of_in (by decide) fun d => eqA66 d w x0 y0 x1 y1 x2 y2 x3 y3 x4 y4
  simpa using this
@[go_sem] theorem neq66 (w : World) (x0 y0 x1 y1 x2 y2 x3 y3 x4 y4 : Int) : (binOp .neq 66 (.agg #[.int .i64 x0, .int .i64 x1, .int .i64 x2, .int .i64 x3, .int .i64 x4]) (.agg #[.int .i64 y0, .int .i64 y1, .int .i64 y2, .int .i64 y3, .int .i64 y4])).run Try.prog w =
    .ok (.bool (!(x0 == y0 && (x1 == y1 && ((x2 == y2 && (x3 == y3)) && (x4 == y4)))))) w := by
  have := ne_of_in (by decide) fun d => eqA66 d w x0 y0 x1 y1 x2 y2 x3 y3 x4 y4
  simpa using this

/-! Tokens, stamps, steps. -/
theorem eqA72 (d : Nat) (w : World) (x0 y0 x1 y1 x2 y2 : Int) : (Op.equalIn (d + 2) 72 (.agg #[.int .i64 x0, .int .i64 x1, .int .i64 x2]) (.agg #[.int .i64 y0, .int .i64 y1, .int .i64 y2])).run Try.prog w = .ok (x0 == y0 && (x1 == y1 && (x2 == y2 && true))) w := by
  refine eqF_struct Try.underlying72 (by kernel_rfl) ?_
  refine eqF (by rfl) (by go_simp; rfl) (by go_simp; rfl) (by go_simp) ?_
  refine eqF (by rfl) (by go_simp; rfl) (by go_simp; rfl) (by go_simp) ?_
  exact eqF (by rfl) (by go_simp; rfl) (by go_simp; rfl) (by go_simp) eqF_nil
@[go_sem] theorem eql72 (w : World) (x0 y0 x1 y1 x2 y2 : Int) : (binOp .eql 72 (.agg #[.int .i64 x0, .int .i64 x1, .int .i64 x2]) (.agg #[.int .i64 y0, .int .i64 y1, .int .i64 y2])).run Try.prog w = .ok (.bool (x0 == y0 && (x1 == y1 && (x2 == y2)))) w := by
  have := eq_of_in (by decide) fun d => eqA72 d w x0 y0 x1 y1 x2 y2
  simpa using this
@[go_sem] theorem neq72 (w : World) (x0 y0 x1 y1 x2 y2 : Int) : (binOp .neq 72 (.agg #[.int .i64 x0, .int .i64 x1, .int .i64 x2]) (.agg #[.int .i64 y0, .int .i64 y1, .int .i64 y2])).run Try.prog w = .ok (.bool (!(x0 == y0 && (x1 == y1 && (x2 == y2))))) w := by
  have := ne_of_in (by decide) fun d => eqA72 d w x0 y0 x1 y1 x2 y2
  simpa using this
theorem eqA57 (d : Nat) (w : World) (x0 y0 x1 y1 : Int) (x2 y2 : Bool) : (Op.equalIn (d + 2) 57 (.agg #[.int .i64 x0, .int .i64 x1, .bool x2]) (.agg #[.int .i64 y0, .int .i64 y1, .bool y2])).run Try.prog w = .ok (x0 == y0 && (x1 == y1 && (x2 == y2 && true))) w := by
  refine eqF_struct Try.underlying57 (by kernel_rfl) ?_
  refine eqF (by rfl) (by go_simp; rfl) (by go_simp; rfl) (by go_simp) ?_
  refine eqF (by rfl) (by go_simp; rfl) (by go_simp; rfl) (by go_simp) ?_
  exact eqF (by rfl) (by go_simp; rfl) (by go_simp; rfl) (by go_simp) eqF_nil
@[go_sem] theorem eql57 (w : World) (x0 y0 x1 y1 : Int) (x2 y2 : Bool) : (binOp .eql 57 (.agg #[.int .i64 x0, .int .i64 x1, .bool x2]) (.agg #[.int .i64 y0, .int .i64 y1, .bool y2])).run Try.prog w = .ok (.bool (x0 == y0 && (x1 == y1 && (x2 == y2)))) w := by
  have := eq_of_in (by decide) fun d => eqA57 d w x0 y0 x1 y1 x2 y2
  simpa using this
@[go_sem] theorem neq57 (w : World) (x0 y0 x1 y1 : Int) (x2 y2 : Bool) : (binOp .neq 57 (.agg #[.int .i64 x0, .int .i64 x1, .bool x2]) (.agg #[.int .i64 y0, .int .i64 y1, .bool y2])).run Try.prog w = .ok (.bool (!(x0 == y0 && (x1 == y1 && (x2 == y2))))) w := by
  have := ne_of_in (by decide) fun d => eqA57 d w x0 y0 x1 y1 x2 y2
  simpa using this

@[go_sem] theorem eq33_some (d : Nat) (w : World) (a : Addr) : (Op.equalIn (d + 1) 33 (.pointer (some a)) (.pointer none)).run Try.prog w = .ok false w := by
  simp [Op.equalIn, run_underlying und33]
@[go_sem] theorem eq33_none (d : Nat) (w : World) : (Op.equalIn (d + 1) 33 (.pointer none) (.pointer none)).run Try.prog w = .ok true w := by
  simp [Op.equalIn, run_underlying und33]

/-- A step that is none. -/
theorem eqA126_some (d : Nat) (w : World) (a : Addr) (x y : Int) : (Op.equalIn (d + 2) 126 (.agg #[.pointer (some a), .int .i64 x]) (.agg #[.pointer none, .int .i64 y])).run Try.prog w = .ok (false && (x == y && true)) w := by
  refine eqF_struct Try.underlying126 (by kernel_rfl) ?_
  refine eqF (by rfl) (by go_simp) (by go_simp) (eq33_some d w a) ?_
  exact eqF (by rfl) (by go_simp; rfl) (by go_simp; rfl) (by go_simp) eqF_nil
theorem eqA126_none (d : Nat) (w : World) (x y : Int) : (Op.equalIn (d + 2) 126 (.agg #[.pointer none, .int .i64 x]) (.agg #[.pointer none, .int .i64 y])).run Try.prog w = .ok (true && (x == y && true)) w := by
  refine eqF_struct Try.underlying126 (by kernel_rfl) ?_
  refine eqF (by rfl) (by go_simp) (by go_simp) (eq33_none d w) ?_
  exact eqF (by rfl) (by go_simp; rfl) (by go_simp; rfl) (by go_simp) eqF_nil
@[go_sem] theorem neq126_some (w : World) (a : Addr) (x y : Int) : (binOp .neq 126 (.agg #[.pointer (some a), .int .i64 x]) (.agg #[.pointer none, .int .i64 y])).run Try.prog w = .ok (.bool true) w := by
  have := ne_of_in (by decide) fun d => eqA126_some d w a x y
  simpa using this
@[go_sem] theorem neq126_none (w : World) (x : Int) : (binOp .neq 126 (.agg #[.pointer none, .int .i64 x]) (.agg #[.pointer none, .int .i64 x])).run Try.prog w = .ok (.bool false) w := by
  have := ne_of_in (by decide) fun d => eqA126_none d w x x
  simpa using this
end Go.Proofs.Ytcjpmgfobnaoeaa
