/- Parts of rows of tokens, as the slice operation makes them. -/
import Derived.Test.YtcjpmgfobnaoeaaA65
import Derived.Test.YtcjpmgfobnaoeaaA35
namespace Go.Proofs.Ytcjpmgfobnaoeaa
open Go.RowKit

theorem size72 (W : World) : (Go.sizeOf 72).run Try.prog W = .ok 3 W := by
  obtain ⟨i0, hi, _, hz1, _⟩ := info_parts info72
  rw [run_sizeOf _ hi]
  have e : Try.prog.cellsOf 72 = 3 := by kernel_rfl
  rw [e]
theorem elem25 : Try.prog.underlying 25 = some (.slice (Try.prog.elem 25)) := by kernel_rfl
theorem elem25' : Try.prog.elem 25 = 72 := by kernel_rfl

theorem slice25_h (W : World) (a : Option Addr) (len cap h : Nat) (hh : h ≤ cap) : (Instr.slice 25 (.slice a len cap) none (some (.int .i64 h)) none).run Try.prog W = .ok (.slice (if cap = 0 then a else a.map (·.add 0)) h cap) W := by
  rw [run_slice_h _ _ _ _ _ elem25 _ _ (by omega) (by omega), elem25', size72]
  simp [Result.andThen, sliced]
theorem slice25_l (W : World) (a : Option Addr) (len cap l : Nat) (hh : l ≤ len) : (Instr.slice 25 (.slice a len cap) (some (.int .i64 l)) none none).run Try.prog W = .ok (.slice (if cap = l then a else a.map (·.add (l * 3))) (len - l) (cap - l)) W := by
  rw [run_slice_l _ _ _ _ _ elem25 _ _ (by omega) (by omega), elem25', size72]
  simp [Result.andThen, sliced]

theorem slice_front {w : World} {base : Nat} {v : Value} {l : List Tok} (h : w.ownsRow base 72 3 v l.length (l.flatMap tokC)) {a : Nat} (ha : a ≤ l.length) :
    ∃ V, (∀ W, (Instr.slice 25 v none (some (.int .i64 a)) none).run Try.prog W = .ok V W) ∧ ToksO w V (l.take a) := by
  have ht := ToksAt.of_row h
  rcases h.2 with ⟨rfl, h0⟩ | ⟨g, c, cur, rfl, hb, hg, h3, h4, h5, h6⟩
  · obtain rfl : a = 0 := by omega
    refine ⟨_, fun W => slice25_h W none 0 0 0 (by omega), none, 0, by simp, fun i hi => by simp at hi⟩
  · refine ⟨_, fun W => slice25_h W _ _ c a (by omega), ?_⟩
    have := ToksO.front ht ha c
    rw [Option.map_some, show (Addr.add ⟨g, 0, none⟩ 0) = ⟨g, 0, none⟩ from rfl]
    split <;> exact this
theorem slice_back {w : World} {base : Nat} {v : Value} {l : List Tok} (h : w.ownsRow base 72 3 v l.length (l.flatMap tokC)) {a : Nat} (ha : a ≤ l.length) :
    ∃ V, (∀ W, (Instr.slice 25 v (some (.int .i64 a)) none none).run Try.prog W = .ok V W) ∧ ToksO w V (l.drop a) := by
  have ht := ToksAt.of_row h
  rcases h.2 with ⟨rfl, h0⟩ | ⟨g, c, cur, rfl, hb, hg, h3, h4, h5, h6⟩
  · obtain rfl : a = 0 := by omega
    refine ⟨_, fun W => slice25_l W none 0 0 0 (by omega), none, 0, ?_, fun i hi => by simp at hi; omega⟩
    simp; omega
  · refine ⟨_, fun W => slice25_l W _ _ c a (by omega), ?_⟩
    by_cases hc : c = a
    · rw [if_pos hc]
      exact ⟨_, _, by rw [List.length_drop], fun i hi => by simp at hi; omega⟩
    · rw [if_neg hc]
      have := ToksO.back (a := a) ht (c - a)
      rw [Option.map_some, show (Addr.add ⟨g, 0, none⟩ (a * 3)) = ⟨g, a * 3, none⟩ from by simp [Addr.add]; omega]
      exact this

end Go.Proofs.Ytcjpmgfobnaoeaa
