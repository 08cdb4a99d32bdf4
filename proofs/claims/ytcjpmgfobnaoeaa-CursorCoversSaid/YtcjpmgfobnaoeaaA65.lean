/- Two lists of tokens, parts of rows. -/
import Derived.Test.YtcjpmgfobnaoeaaA64
import Derived.Test.YtcjpmgfobnaoeaaA43
namespace Go.Proofs.Ytcjpmgfobnaoeaa
open Go.RowKit

/-- The slice, which may begin anywhere, holds these tokens. -/
def ToksO (w : World) (v : Value) (l : List Tok) : Prop := ∃ A c, v = .slice A l.length c ∧ ∀ i (hi : i < l.length), ∃ g o, A = some ⟨g, o, none⟩ ∧ g < w.heap.size ∧
    w.cell? ⟨g, o + i * 3, none⟩ = some (.int .i64 l[i].1) ∧ w.cell? ⟨g, o + i * 3 + 1, none⟩ = some (.int .i64 l[i].2.1) ∧ w.cell? ⟨g, o + i * 3 + 2, none⟩ = some (.int .i64 l[i].2.2)
theorem ToksO.keep {w w' : World} {v : Value} {l : List Tok} (h : ToksO w v l) (hb : Below w.heap.size w w') : ToksO w' v l := by
  obtain ⟨A, c, h1, h2⟩ := h
  refine ⟨A, c, h1, fun i hi => ?_⟩
  obtain ⟨g, o, k1, k2, q0, q1, q2⟩ := h2 i hi
  exact ⟨g, o, k1, Nat.lt_of_lt_of_le k2 hb.size, (hb.cell (p := ⟨g, _, none⟩) k2).trans q0, (hb.cell (p := ⟨g, _, none⟩) k2).trans q1, (hb.cell (p := ⟨g, _, none⟩) k2).trans q2⟩
/-- The first of a row's tokens. -/
theorem ToksO.front {w : World} {g n c : Nat} {l : List Tok} (h : ToksAt w (.slice (some ⟨g, 0, none⟩) n c) l) {a : Nat} (ha : a ≤ l.length) (c' : Nat) : ToksO w (.slice (some ⟨g, 0, none⟩) a c') (l.take a) := by
  obtain ⟨A, c1, h1, h2⟩ := h
  injection h1 with e1 e2 e3
  refine ⟨_, c', by rw [List.length_take, Nat.min_eq_left ha], fun i hi => ?_⟩
  rw [List.length_take] at hi
  obtain ⟨g', k1, k2, q0, q1, q2⟩ := h2 i (by omega)
  rw [← e1] at k1
  injection k1 with k1
  injection k1 with k1
  subst k1
  rw [List.getElem_take]
  exact ⟨g, 0, rfl, k2, by simpa using q0, by simpa using q1, by simpa using q2⟩
/-- The last of a row's tokens. -/
theorem ToksO.back {w : World} {g n c : Nat} {l : List Tok} (h : ToksAt w (.slice (some ⟨g, 0, none⟩) n c) l) {a : Nat} (c' : Nat) : ToksO w (.slice (some ⟨g, a * 3, none⟩) (l.length - a) c') (l.drop a) := by
  obtain ⟨A, c1, h1, h2⟩ := h
  injection h1 with e1 e2 e3
  refine ⟨_, c', by rw [List.length_drop], fun i hi => ?_⟩
  rw [List.length_drop] at hi
  obtain ⟨g', k1, k2, q0, q1, q2⟩ := h2 (a + i) (by omega)
  rw [← e1] at k1
  injection k1 with k1
  injection k1 with k1
  subst k1
  rw [List.getElem_drop]
  rw [show (a + i) * 3 = a * 3 + i * 3 by omega] at q0 q1 q2
  exact ⟨g, a * 3, rfl, k2, q0, q1, q2⟩

attribute [local irreducible] Calls
set_option maxRecDepth 100000 in
set_option maxHeartbeats 4000000 in
theorem sameToksO_call (v u : Value) (l m : List Tok) (w : World) (h1 : ToksO w v l) (h2 : ToksO w u m) (hl : l.length ≤ 1000000) (hm : m.length ≤ 1000000) : Calls Try.prog 50 #[v, u] w fun e w' => e = .returned (.bool (decide (l = m))) ∧ Below w.heap.size w w' := by
  obtain ⟨A, c, rfl, h1⟩ := h1
  obtain ⟨B, d, rfl, h2⟩ := h2
  have H1 := Lib.hid h1
  have H2 := Lib.hid h2
  clear h1 h2
  by_cases hlm : l.length = m.length
  · have hq : ((l.length : Int) != (m.length : Int)) = false := by simp; omega
    have HLM := Lib.hid hlm
    clear hlm
    go_enter Try.func50, Try.ntmps50
    go_wp2_with fail
    go_loopw [5] (fun iv wx => ∃ i : Nat, iv = .int .i64 i ∧ i ≤ l.length ∧ Below w.heap.size w wx ∧ Hid (l.take i = m.take i)) (fun iv _ => l.length - (intOf iv).toNat)
    case atStart => exact ⟨0, rfl, by omega, Below.refl _ _, rfl⟩
    case round =>
      obtain ⟨i, rfl, hi, hbr, HI⟩ := hrel
      by_cases hlt : i < l.length
      · have hlt2 : i < m.length := by have := HLM.out; omega
        obtain ⟨g, og, rfl, lg, q0, q1, q2⟩ := H1.out i hlt
        obtain ⟨k, ok, rfl, lk, r0, r1, r2⟩ := H2.out i hlt2
        have t1 := List.take_succ_eq_append_getElem hlt
        have t2 := List.take_succ_eq_append_getElem hlt2
        obtain ⟨s, hs⟩ : ∃ s, l[i] = s := ⟨_, rfl⟩
        obtain ⟨t, ht⟩ : ∃ t, m[i] = t := ⟨_, rfl⟩
        rw [hs] at q0 q1 q2 t1
        rw [ht] at r0 r1 r2 t2
        replace q0 := (hbr.cell (p := ⟨g, _, none⟩) lg).trans q0
        replace q1 := (hbr.cell (p := ⟨g, _, none⟩) lg).trans q1
        replace q2 := (hbr.cell (p := ⟨g, _, none⟩) lg).trans q2
        replace r0 := (hbr.cell (p := ⟨k, _, none⟩) lk).trans r0
        replace r1 := (hbr.cell (p := ⟨k, _, none⟩) lk).trans r1
        replace r2 := (hbr.cell (p := ⟨k, _, none⟩) lk).trans r2
        have hltI : (i : Int) < (l.length : Int) := by omega
        have hltI2 : (i : Int) < (m.length : Int) := by omega
        have hi0 : (0 : Int) ≤ (i : Int) := Int.natCast_nonneg _
        by_cases hst : s = t
        · have HT := Lib.hid (show l.take (i + 1) = m.take (i + 1) by rw [t1, t2, HI.out, hst])
          subst hst
          have e0 : (s.1 == s.1) = true := beq_self_eq_true _
          have e1 : (s.2.1 == s.2.1) = true := beq_self_eq_true _
          have e2 : (s.2.2 == s.2.2) = true := beq_self_eq_true _
          clear t1 t2 hs ht
          go_wp2_with fail
          go_quiet (fail)
          go_wp2_with fail
          go_roundw
          case rel => exact ⟨i + 1, by go_num, by omega, ⟨hbr.os, hbr.tape, hbr.output, hbr.size, hbr.block⟩, HT.out⟩
          case measure => simp [intOf]; omega
        · have hne : decide (l = m) = false := by
            refine decide_eq_false fun e => hst ?_
            subst e
            rw [← hs, ← ht]
          have hf : (s.1 == t.1 && (s.2.1 == t.2.1 && (s.2.2 == t.2.2))) = false := by
            rw [Bool.eq_false_iff]
            intro h
            apply hst
            simp only [Bool.and_eq_true, beq_iff_eq] at h
            exact Prod.ext h.1 (Prod.ext h.2.1 h.2.2)
          have heql : ∀ W : World, (binOp .neq 72 (.agg #[.int .i64 s.1, .int .i64 s.2.1, .int .i64 s.2.2]) (.agg #[.int .i64 t.1, .int .i64 t.2.1, .int .i64 t.2.2])).run Try.prog W = .ok (.bool true) W := fun W => by rw [neq72, hf]; rfl
          have HN := Lib.hid hne
          clear hne hf hst t1 t2 hs ht
          go_wp2_with fail
          go_quiet (fail)
          go_wp2_with fail
          go_ret
          exact ⟨by rw [HN.out]; rfl, ⟨hbr.os, hbr.tape, hbr.output, hbr.size, hbr.block⟩⟩
      · have hge : ¬ ((i : Int) < (l.length : Int)) := by omega
        have heq : decide (l = m) = true := by
          have h := HI.out
          have := HLM.out
          rw [List.take_of_length_le (by omega), List.take_of_length_le (by omega)] at h
          exact decide_eq_true h
        have HN := Lib.hid heq
        clear heq
        go_wp2_with fail
        go_ret
        exact ⟨by rw [HN.out]; rfl, hbr⟩
  · have hq : ((l.length : Int) != (m.length : Int)) = true := by simp; omega
    have hne : decide (l = m) = false := decide_eq_false fun e => hlm (by rw [e])
    rw [hne]
    clear hne hlm
    go_enter Try.func50, Try.ntmps50
    go_wp2_with fail
    go_ret
    exact ⟨rfl, Below.refl _ _⟩

end Go.Proofs.Ytcjpmgfobnaoeaa
