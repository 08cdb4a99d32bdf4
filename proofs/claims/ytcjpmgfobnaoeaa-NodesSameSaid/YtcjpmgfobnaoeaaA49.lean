/- What a node that is none tells, and how it compares. -/
import Derived.Test.YtcjpmgfobnaoeaaA45
namespace Go.Proofs.Ytcjpmgfobnaoeaa
open Go.RowKit

/-- The zero node in block b. -/
def zNd (b : Nat) : Nd := .mk b 0 0 0 0 0 0 0 0 0 false (.slice none 0 0) []
/-- No node: a nil pointer, or a pointer to a zero node. -/
def NoneAt (w : World) (q : Option Addr) : Prop := q = none ∨ ∃ b, q = some ⟨b, 0, none⟩ ∧ w.heap[b]? = some (.cells (zNd b).cs 87 (0, 0))
theorem zNd_in {w : World} {b : Nat} (h : w.heap[b]? = some (.cells (zNd b).cs 87 (0, 0))) : (zNd b).In w :=
  Nd.In.mk' h (World.ownsRow_nil _ _ _ _) (by intro k hk; simp [zNd, Nd.kids] at hk)
theorem NoneAt.dud {w : World} {q : Option Addr} (h : NoneAt w q) : Dud w (.pointer q) := by
  rcases h with rfl | ⟨b, rfl, h⟩
  · exact .inl rfl
  · exact .inr ⟨zNd b, rfl, zNd_in h, Int.le_refl _⟩
theorem NoneAt.keep {w w' : World} {q : Option Addr} (h : NoneAt w q) (hb : Below w.heap.size w w') : NoneAt w' q := by
  rcases h with rfl | ⟨b, rfl, h⟩
  · exact .inl rfl
  · exact .inr ⟨b, rfl, (hb.block b (Array.getElem?_eq_some_iff.1 h).1).trans h⟩

theorem tokens_no {w : World} {q : Option Addr} (h : NoneAt w q) : Calls Try.prog 24 #[.pointer q] w fun e w' => e = .returned (.int .i64 0) ∧ Below w.heap.size w w' := by
  rcases h with rfl | ⟨b, rfl, h⟩
  · exact tokens_nil w
  · exact tokens_some (zNd b) w (zNd_in h)
theorem bytes_no {w : World} {q : Option Addr} (h : NoneAt w q) : Calls Try.prog 36 #[.pointer q] w fun e w' => e = .returned (.int .i64 0) ∧ Below w.heap.size w w' := by
  rcases h with rfl | ⟨b, rfl, h⟩
  · exact bytes_nil w
  · exact bytes_some (zNd b) w (zNd_in h)
theorem lead_no {w : World} {q : Option Addr} (h : NoneAt w q) : Calls Try.prog 37 #[.pointer q] w fun e w' => e = .returned (.int .i64 0) ∧ Below w.heap.size w w' := by
  rcases h with rfl | ⟨b, rfl, h⟩
  · exact lead_nil w
  · exact lead_some (zNd b) w (zNd_in h)
theorem height_no {w : World} {q : Option Addr} (h : NoneAt w q) : Calls Try.prog 62 #[.pointer q] w fun e w' => e = .returned (.int .i64 0) ∧ Below w.heap.size w w' := by
  rcases h with rfl | ⟨b, rfl, h⟩
  · exact height_nil w
  · exact height_some (zNd b) w (zNd_in h)

attribute [local irreducible] Calls
set_option maxRecDepth 100000 in
set_option maxHeartbeats 4000000 in
theorem like_no (p q : Option Addr) (r s st : Bool) (w : World) (hp : ∀ W, Below w.heap.size w W → Calls Try.prog 70 #[.pointer p] W fun e w' => e = .returned (.bool r) ∧ w' = W)
    (hq : ∀ W, Below w.heap.size w W → Calls Try.prog 70 #[.pointer q] W fun e w' => e = .returned (.bool s) ∧ w' = W) (hrs : r = false ∨ s = false) :
    Calls Try.prog 84 #[.pointer p, .pointer q, .bool st] w fun e w' => e = .returned (.bool (!r && !s)) ∧ Below w.heap.size w w' := by
  have HP := Lib.hid hp
  have HQ := Lib.hid hq
  have hal := below_alloc w (.cells #[.bool st] 4)
  clear hp hq
  cases r with
  | false =>
    cases s with
    | false =>
      clear hrs
      go_enter Try.func84, Try.ntmps84
      go_wp2_with (first
        | (go_at_call 70; refine (HP.out _ hal).mono ?_; rintro e w1 ⟨rfl, h1⟩; rw [h1]; clear h1)
        | (go_at_call 70; refine (HQ.out _ hal).mono ?_; rintro e w1 ⟨rfl, h1⟩; rw [h1]; clear h1))
      go_ret
      exact ⟨rfl, hal⟩
    | true =>
      clear hrs
      go_enter Try.func84, Try.ntmps84
      go_wp2_with (first
        | (go_at_call 70; refine (HP.out _ hal).mono ?_; rintro e w1 ⟨rfl, h1⟩; rw [h1]; clear h1)
        | (go_at_call 70; refine (HQ.out _ hal).mono ?_; rintro e w1 ⟨rfl, h1⟩; rw [h1]; clear h1))
      go_ret
      exact ⟨rfl, hal⟩
  | true =>
    cases s with
    | false =>
      clear hrs
      go_enter Try.func84, Try.ntmps84
      go_wp2_with (first
        | (go_at_call 70; refine (HP.out _ hal).mono ?_; rintro e w1 ⟨rfl, h1⟩; rw [h1]; clear h1)
        | (go_at_call 70; refine (HQ.out _ hal).mono ?_; rintro e w1 ⟨rfl, h1⟩; rw [h1]; clear h1))
      go_ret
      exact ⟨rfl, hal⟩
    | true => simp at hrs

theorem same_of {p q : Value} {r : Bool} {w : World} (h : Calls Try.prog 84 #[p, q, .bool false] w fun e w' => e = .returned (.bool r) ∧ Below w.heap.size w w') : Calls Try.prog 57 #[p, q] w fun e w' => e = .returned (.bool r) ∧ Below w.heap.size w w' := by
  have H := Lib.hid h
  clear h
  go_enter Try.func57, Try.ntmps57
  go_wp2_with (go_at_call 84; refine H.out.mono ?_; rintro e w1 ⟨rfl, hb⟩)
  go_ret
  exact ⟨rfl, hb⟩
theorem alike_of {p q : Value} {r : Bool} {w : World} (h : Calls Try.prog 84 #[p, q, .bool true] w fun e w' => e = .returned (.bool r) ∧ Below w.heap.size w w') : Calls Try.prog 58 #[p, q] w fun e w' => e = .returned (.bool r) ∧ Below w.heap.size w w' := by
  have H := Lib.hid h
  clear h
  go_enter Try.func58, Try.ntmps58
  go_wp2_with (go_at_call 84; refine H.out.mono ?_; rintro e w1 ⟨rfl, hb⟩)
  go_ret
  exact ⟨rfl, hb⟩

theorem tree_no (q : Option Addr) (w : World) (h : Dud w (.pointer q)) : Calls Try.prog 54 #[.pointer q] w fun e w' => e = .returned (.agg #[.int .i64 0, .int .i64 0, .slice none 0 0]) ∧ Below w.heap.size w w' := by
  have hal := below_alloc w (.cells #[.int .i64 0, .int .i64 0, .slice none 0 0] 24)
  have hn := heap_alloc_new w (.cells #[.int .i64 0, .int .i64 0, .slice none 0 0] 24)
  have HM := Lib.hid (made_dud (h.below hal))
  have HN := Lib.hid (And.intro hal hn)
  clear h hal hn
  go_enter Try.func54, Try.ntmps54
  go_wp2_with (go_at_call 70; refine HM.out.mono ?_; rintro e w1 ⟨rfl, h1⟩; rw [h1]; clear h1)
  have r0 := cell_of_heap (i := 0) HN.out.2 rfl
  have r1 := cell_of_heap (i := 1) HN.out.2 rfl
  have r2 := cell_of_heap (i := 2) HN.out.2 rfl
  exact bodyPost_ret (v := .agg #[.int .i64 0, .int .i64 0, .slice none 0 0]) (by simp [results, Try.results54, go_sem, r0, r1, r2]) rfl ⟨rfl, HN.out.1⟩

theorem sameTree_zero (w : World) : Calls Try.prog 53 #[.agg #[.int .i64 0, .int .i64 0, .slice none 0 0], .agg #[.int .i64 0, .int .i64 0, .slice none 0 0]] w fun e w' => e = .returned (.bool true) ∧ Below w.heap.size w w' := by
  have hal := ((Below.refl _ w).alloc (Nat.le_refl _) (.cells #[.int .i64 0, .int .i64 0, .slice none 0 0] 24)).alloc (by simp) (.cells #[.int .i64 0, .int .i64 0, .slice none 0 0] 24)
  have hn : ∀ W, W = (w.alloc (.cells #[.int .i64 0, .int .i64 0, .slice none 0 0] 24)).alloc (.cells #[.int .i64 0, .int .i64 0, .slice none 0 0] 24) → W.cell? ⟨w.heap.size, 2, none⟩ = some (.slice none 0 0) ∧ Below w.heap.size w W := by
    rintro W rfl
    refine ⟨cell_of_heap (c := #[.int .i64 0, .int .i64 0, .slice none 0 0]) (e := 24) (fr := (0, 0)) ?_ rfl, hal⟩
    rw [Below.heap_alloc _ _ _ (by simp)]
    exact heap_alloc_new _ _
  have HN := Lib.hid hn
  clear hn hal
  go_enter Try.func53, Try.ntmps53
  go_wp2_with fail
  obtain ⟨h2, hb⟩ := HN.out _ rfl
  generalize (w.alloc (.cells #[.int .i64 0, .int .i64 0, .slice none 0 0] 24)).alloc (.cells #[.int .i64 0, .int .i64 0, .slice none 0 0] 24) = W at *
  go_loopw [5] (fun iv wx => iv = .int .i64 0 ∧ wx = W) (fun _ _ => 0)
  case atStart => exact ⟨rfl, rfl⟩
  case round =>
    obtain ⟨rfl, rfl⟩ := hrel
    go_wp2_with fail
    go_ret
    exact ⟨rfl, hb⟩

end Go.Proofs.Ytcjpmgfobnaoeaa
