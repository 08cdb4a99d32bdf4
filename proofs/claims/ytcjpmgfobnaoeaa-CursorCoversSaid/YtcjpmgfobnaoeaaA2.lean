/- A region that draws its order and whose callees make memory, but turn nothing that is there: one walk in the text's order, over the class of such worlds. -/
import Derived.Test.YtcjpmgfobnaoeaaA1
namespace Go.Proofs.Ytcjpmgfobnaoeaa
open Go.RowKit

/-- The worlds in which nothing of what w has is turned. -/
def Sb (w : World) : Type := { s : World // Below w.heap.size w s }
def Sb.w {w : World} (s : Sb w) : World := s.1
theorem Sb.below {w : World} (s : Sb w) : Below w.heap.size w s.w := s.2
theorem Sb.mk' {w : World} {W : World} (h : Below w.heap.size w W) : ∃ s : Sb w, W = s.w := ⟨⟨W, h⟩, rfl⟩
theorem Sb.cell {w : World} (s : Sb w) {b i : Nat} {v : Value} (h : w.cell? ⟨b, i, none⟩ = some v) : s.w.cell? ⟨b, i, none⟩ = some v :=
  (s.below.cell (p := ⟨b, i, none⟩) (World.block_lt_of_cell? w _ h)).trans h
theorem Calls.sb {P : Program} {f : FuncId} {args : Array Value} {w : World} {s : Sb w} {v : Value} (h : Calls P f args s.w fun e w' => e = .returned v ∧ Below s.w.heap.size s.w w') :
    Calls P f args s.w fun e w' => e = .returned v ∧ ∃ s' : Sb w, w' = s'.w :=
  h.mono fun _ _ ⟨he, hb⟩ => ⟨he, Sb.mk' (s.below.trans (hb.mono s.below.size))⟩
theorem Calls.sb_same {P : Program} {f : FuncId} {args : Array Value} {w : World} {s : Sb w} {v : Value} (h : Calls P f args s.w fun e w' => e = .returned v ∧ w' = s.w) :
    Calls P f args s.w fun e w' => e = .returned v ∧ ∃ s' : Sb w, w' = s'.w :=
  h.mono fun _ _ ⟨he, hb⟩ => ⟨he, s, hb⟩

instance (w : World) : Nonempty (Sb w) := ⟨⟨w, Below.refl _ _⟩⟩

theorem wp_region_sb {P : Program} {id : Nat} {Q : Exit → Act → World → Prop} {a : Act} {w : World} {l : List Oper} (hm : P.follows .mixedOrders = true) (hB : Region.lexB .any l.toArray = true)
    (h : wpQuiet P l.toArray (fun W => ∃ s : Sb w, W = s.w) (fun a' => ∀ s : Sb w, Q .normal a' s.w) l a) : (Code.region id l.toArray true).wp P Q a w :=
  wp_region_quiet (C := fun W => ∃ s : Sb w, W = s.w) hm hB (Sb.mk' (Below.refl _ _).drew) (by
    have e : (fun a' => ∀ s : Sb w, Q .normal a' s.w) = (fun a' => ∀ w', (∃ s : Sb w, w' = s.w) → Q .normal a' w') := by
      funext a'
      exact propext ⟨fun h w' ⟨s, hs⟩ => hs ▸ h s, fun h s => h _ ⟨s, rfl⟩⟩
    rw [← e]
    simpa using h)

/-! ### The cursor -/
/-- What a cursor's numbers keep to. -/
structure CurOk (tk a b t : Int) : Prop where
  tk1 : 1 ≤ tk
  tk2 : tk ≤ 262144
  a0 : 0 ≤ a
  b0 : 0 ≤ b
  a1 : a ≤ tk
  a2 : a ≤ t
  b1 : b ≤ tk - a
  b2 : b ≤ t - a
  t2 : t ≤ 9223372036854775807

theorem cnew_nil (a b t : Int) (w : World) : Calls Try.prog 22 #[.pointer none, .int .i64 a, .int .i64 b, .int .i64 t] w fun e w' => e = .returned (.tuple #[.pointer none, .int .i64 1]) ∧ Below w.heap.size w w' := by
  go_enter Try.func22, Try.ntmps22
  go_wp2_with (go_at_call 24; refine (tokens_nil _).mono ?_; rintro e w' ⟨rfl, hb⟩)
  go_ret2
  exact ⟨rfl, hb⟩

theorem cnew_ok (n : Nd) (a b t : Int) (w : World) (h : n.In w) (k : CurOk n.tk a b t) :
    Calls Try.prog 22 #[n.ptr, .int .i64 a, .int .i64 b, .int .i64 t] w fun e w' => ∃ g, e = .returned (.tuple #[.pointer (some ⟨g, 0, none⟩), .int .i64 0]) ∧ w'.heap[g]? = some (.cells #[n.ptr, .int .i64 a, .int .i64 b, .int .i64 t] 112 (0, 0)) ∧ w.heap.size ≤ g ∧ Below w.heap.size w w' := by
  have hc : Calls Try.prog 24 #[.pointer (some ⟨n.b, 0, none⟩)] w fun e w' => e = .returned (.int .i64 n.tk) ∧ Below w.heap.size w w' := tokens_some n w h
  obtain ⟨h1, h2, ha, hb, h3, h4, h5, h6, h7⟩ := k
  clear h
  unfold Nd.ptr
  go_enter Try.func22, Try.ntmps22
  go_wp2_with (go_at_call 24; refine hc.mono ?_; rintro e w' ⟨rfl, hbl⟩)
  all_goals (go_ret2; exact ⟨_, rfl, heap_alloc_new _ _, hbl.size, hbl.alloc hbl.size _⟩)

theorem cnew_bad (n : Nd) (a b t : Int) (w : World) (h : n.In w) (h1 : 1 ≤ n.tk) (h2 : n.tk ≤ 262144) (k : ¬ (0 ≤ a ∧ 0 ≤ b ∧ a ≤ n.tk ∧ a ≤ t ∧ b ≤ n.tk - a ∧ b ≤ t - a)) :
    Calls Try.prog 22 #[n.ptr, .int .i64 a, .int .i64 b, .int .i64 t] w fun e w' => e = .returned (.tuple #[.pointer none, .int .i64 2]) ∧ Below w.heap.size w w' := by
  have hc : Calls Try.prog 24 #[.pointer (some ⟨n.b, 0, none⟩)] w fun e w' => e = .returned (.int .i64 n.tk) ∧ Below w.heap.size w w' := tokens_some n w h
  clear h
  have K := Lib.hid k
  clear k
  unfold Nd.ptr
  go_enter Try.func22, Try.ntmps22
  go_wp2_with (go_at_call 24; refine hc.mono ?_; rintro e w' ⟨rfl, hbl⟩)
  all_goals first | (go_ret2; exact ⟨rfl, hbl⟩) | (exfalso; have := K.out; omega)

theorem old_nil (k : Int) (w : World) : Calls Try.prog 25 #[.pointer none, .int .i64 k] w fun e w' => e = .returned (.tuple #[.int .i64 0, .bool false]) ∧ w' = w := by
  go_enter Try.func25, Try.ntmps25
  go_wp2
  go_ret2
  exact ⟨rfl, rfl⟩

/-- The old token that a new one was: the answer. -/
def oldC (tk a b t k : Int) : Int × Bool :=
  if k < 0 ∨ t ≤ k then (0, false) else if k < a then (k, true) else if t - b ≤ k then (k - t + tk, true) else (0, false)

set_option maxHeartbeats 1000000 in
theorem old_some (g : Nat) (n : Nd) (a b t k : Int) (w : World) (h : n.In w) (hg : w.heap[g]? = some (.cells #[n.ptr, .int .i64 a, .int .i64 b, .int .i64 t] 112 (0, 0))) (c : CurOk n.tk a b t) :
    Calls Try.prog 25 #[.pointer (some ⟨g, 0, none⟩), .int .i64 k] w fun e w' => e = .returned (.tuple #[.int .i64 (oldC n.tk a b t k).1, .bool (oldC n.tk a b t k).2]) ∧ Below w.heap.size w w' := by
  have c0 : w.cell? ⟨g, 0, none⟩ = some (.pointer (some ⟨n.b, 0, none⟩)) := cell_of_heap hg rfl
  have c1 : w.cell? ⟨g, 1, none⟩ = some (.int .i64 a) := cell_of_heap hg rfl
  have c2 : w.cell? ⟨g, 2, none⟩ = some (.int .i64 b) := cell_of_heap hg rfl
  have c3 : w.cell? ⟨g, 3, none⟩ = some (.int .i64 t) := cell_of_heap hg rfl
  have hc : ∀ W, Below w.heap.size w W → Calls Try.prog 24 #[.pointer (some ⟨n.b, 0, none⟩)] W fun e w' => e = .returned (.int .i64 n.tk) ∧ Below W.heap.size W w' := fun W hW => tokens_some n W (h.below hW)
  obtain ⟨h1, h2, ha, hb, h3, h4, h5, h6, h7⟩ := c
  clear h hg
  by_cases k0 : k < 0 ∨ t ≤ k
  · rw [oldC, if_pos k0]
    have K := Lib.hid k0
    clear k0
    go_enter Try.func25, Try.ntmps25
    go_wp2_with fail
    all_goals first | (go_ret2; exact ⟨rfl, Below.refl _ _⟩) | (exfalso; have := K.out; omega)
  · have k0' : 0 ≤ k := by omega
    have k0'' : k < t := by omega
    by_cases k1 : k < a
    · rw [oldC, if_neg k0, if_pos k1]
      clear k0
      go_enter Try.func25, Try.ntmps25
      go_wp2_with fail
      go_ret2
      exact ⟨rfl, Below.refl _ _⟩
    · rw [oldC, if_neg k0, if_neg k1]
      have k1' : a ≤ k := by omega
      by_cases k2 : t - b ≤ k
      · rw [if_pos k2]
        clear k0 k1
        go_enter Try.func25, Try.ntmps25
        go_wp2_with fail
        go_quiet (fail)
        go_wp2_with fail
        have hw1 : Below w.heap.size w (w.drewN nq) := ⟨rfl, rfl, rfl, Nat.le_refl _, fun _ _ => rfl⟩
        have d0 : ∀ s : Sb (w.drewN nq), s.w.cell? ⟨g, 0, none⟩ = some (.pointer (some ⟨n.b, 0, none⟩)) := fun s => s.cell c0
        have d3 : ∀ s : Sb (w.drewN nq), s.w.cell? ⟨g, 3, none⟩ = some (.int .i64 t) := fun s => s.cell c3
        generalize w.drewN nq = w1 at *
        refine wp_region_sb (by kernel_rfl) (by kernel_rfl) ?_
        repeat (go_big_quiet_step ((go_at_call 24; refine Calls.sb (hc _ (hw1.trans ((Sb.below _).mono hw1.size))))))
        refine wpQuiet_nil ?_
        intro s
        go_wp2_with fail
        go_ret2
        exact ⟨rfl, hw1.trans (s.below.mono hw1.size)⟩
      · rw [if_neg k2]
        have k2' : k < t - b := by omega
        clear k0 k1 k2
        go_enter Try.func25, Try.ntmps25
        go_wp2_with fail
        go_quiet (fail)
        go_wp2_with fail
        go_ret2
        exact ⟨rfl, ⟨rfl, rfl, rfl, Nat.le_refl _, fun _ _ => rfl⟩⟩

end Go.Proofs.Ytcjpmgfobnaoeaa
