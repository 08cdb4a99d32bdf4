/- Leaves and Spots of a node that is none. -/
import Derived.Test.YtcjpmgfobnaoeaaA36
namespace Go.Proofs.Ytcjpmgfobnaoeaa
open Go.RowKit Go.Shelf
attribute [local go_sem] Oper.semAt_some

set_option maxHeartbeats 4000000 in
theorem all1_dud (q : Option Addr) (w₀ w : World) (bn : Nat) (hd : Dud w₀ (.pointer q)) (hw : Below w₀.heap.size w₀ w) (hb : w.heap[bn]? = some (.cells #[.pointer q] 33 (0, 0))) :
    ∀ n, GivesT n Try.prog 85 #[.pointer (some ⟨bn, 0, none⟩)] visV [33, 120, 136, 3, 45] w₀.heap.size [] w := by
  intro n l J W hW hJ hY h0
  have hb' : W.heap[bn]? = some (.cells #[.pointer q] 33 (0, 0)) := (hW.block _ (Array.getElem?_eq_some_iff.1 hb).1).trans hb
  have hB : Below w₀.heap.size w₀ W := hw.trans (hW.mono hw.size)
  have c0 : W.cell? ⟨bn, 0, none⟩ = some (.pointer q) := cell_of_heap hb' rfl
  have hm := callsIn_wide (n := n - 1) |>.2 (made_dud (hd.below hB))
  clear hb hb' hW hY hJ hw hd
  refine callsIn_of_wp_marks Try.func85 rfl trivial ?_ rfl
  simp only [Try.ntmps85, List.size_toArray, List.length_cons, List.length_nil, Nat.reduceAdd, Nat.reduceSub, Array.replicate_succ, Array.replicate_zero, List.push_toArray, List.append_toArray, List.nil_append, List.cons_append]
  gi_wp2_with (first | (refine ⟨trivial, fun h => (by simp [Fence.wide] at h), ?_⟩; gi_at_call 70; refine hm.mono ?_; rintro e w2 ⟨rfl, h2⟩; rw [h2]; clear h2))
  exact ⟨_, results_none rfl _ _ _, ⟨_, rfl⟩, h0⟩

set_option maxHeartbeats 4000000 in
theorem leaves_dud (q : Option Addr) (w : World) (h : Dud w (.pointer q)) : Calls Try.prog 42 #[.pointer q] w fun e w' => e = .returned (.slice none 0 0) ∧ Below w.heap.size w w' := by
  refine (callsIn_wide (n := 3)).1 ?_
  have hb0 : ∀ W, W = (w.alloc (.cells #[.slice none 0 0] 25)).alloc (.cells #[.pointer q] 33) → Below w.heap.size w W ∧ W.heap[w.heap.size]? = some (.cells #[.slice none 0 0] 25 (0, 0)) ∧ W.heap[w.heap.size + 1]? = some (.cells #[.pointer q] 33 (0, 0)) := by
    rintro W rfl
    exact ⟨((Below.refl _ _).alloc (Nat.le_refl _) _).alloc (by simp) _, by rw [Below.heap_alloc _ _ _ (by simp)]; exact heap_alloc_new _ _, heap_new2 _ _ _⟩
  have hal := fun W => callsIn_wide (n := 2) |>.2 (all_call q W)
  have HB := Lib.hid hb0
  have HD := Lib.hid h
  have HAL := Lib.hid hal
  clear hb0 h hal
  refine callsIn_of_wp_marks Try.func42 rfl trivial ?_ rfl
  simp only [Try.ntmps42, List.size_toArray, List.length_cons, List.length_nil, Nat.reduceAdd, Nat.reduceSub, Array.replicate_succ, Array.replicate_zero, List.push_toArray, List.append_toArray, List.nil_append, List.cons_append]
  gi_wp2_with (first | (refine ⟨trivial, ?_⟩; gi_at_call 69; refine (HAL.out _).mono ?_; rintro e w5 ⟨rfl, h5⟩; rw [h5]; clear h5))
  obtain ⟨hb1, x0, x1⟩ := HB.out _ rfl
  have hsz1 : ((w.alloc (.cells #[.slice none 0 0] 25)).alloc (.cells #[.pointer q] 33)).heap.size = w.heap.size + 2 := by simp
  generalize (w.alloc (.cells #[.slice none 0 0] 25)).alloc (.cells #[.pointer q] 33) = W1 at *
  refine wpIn_rangeT (gf := 85) (lb := #[.pointer (some ⟨w.heap.size + 1, 0, none⟩)]) rfl (enters_of Try.func85 (by kernel_rfl) rfl) (all1_dud q w W1 (w.heap.size + 1) HD.out hb1 x1) (Below.refl _ _) hb1.size (fun _ => rfl)
    (fun (p : List Vs) (Wc : World) => Wc.heap[w.heap.size]? = some (Obj.cells #[.slice none 0 0] 25 (0, 0)) ∧ Below w.heap.size w Wc)
    (fun p X Y ⟨h1, h3⟩ hat => ⟨hat.keep h1 (by decide), h3.trans hat.below⟩)
    ⟨x0, hb1⟩
    (fun (x : Vs) (a' : Act) (Wc : World) => ∃ bx, Wc.heap[bx]? = some (Obj.cells #[.pointer (some ⟨x.1.b, 0, none⟩), .int .i64 x.2.1, .int .i64 x.2.2] 120 (0, 0)))
    (fun x a' X Y ⟨bx, h1⟩ hat => ⟨bx, hat.keep h1 (by decide)⟩) ?assign ?body ?done
  case assign =>
    rintro l m p x Wc ⟨h1, h3⟩ _ hs
    unfold visV Nd.ptr
    gi_wp2_with fail
    exact ⟨⟨Wc.heap.size, heap_alloc_new _ _⟩, KT.of_below (below_alloc _ _) (by omega), (Below.heap_alloc _ _ _ (by omega)).trans h1, h3.alloc h3.size _⟩
  case body =>
    rintro l m p x rs a₁ Wc hxs
    simp at hxs
  case done =>
    rintro D Wc hD ⟨h1, h3⟩ hDW
    have c0 : Wc.cell? ⟨w.heap.size, 0, none⟩ = some (.slice none 0 0) := cell_of_heap h1 rfl
    have HDW := Lib.hid hDW
    clear h1 hDW
    gi_wp2_with fail
    refine leaves_marks (T := []) (n₀ := w.heap.size) (m := w.heap.size) [D] Wc (by simp) (fun D' hD' => ?_) (fun W' hat => ⟨.slice none 0 0, (by simp [results, Try.results42, go_sem]), rfl, h3.trans hat.below⟩)
    obtain rfl := List.mem_singleton.1 hD'
    exact ⟨by omega, by omega, HDW.out⟩

set_option maxHeartbeats 4000000 in
theorem spots_dud (q : Option Addr) (w : World) (h : Dud w (.pointer q)) : Calls Try.prog 31 #[.pointer q] w fun e w' => e = .returned (.slice none 0 0) ∧ Below w.heap.size w w' := by
  refine (callsIn_wide (n := 3)).1 ?_
  have hb0 : ∀ W, W = (w.alloc (.cells #[.slice none 0 0] 50)).alloc (.cells #[.pointer q] 33) → Below w.heap.size w W ∧ W.heap[w.heap.size]? = some (.cells #[.slice none 0 0] 50 (0, 0)) ∧ W.heap[w.heap.size + 1]? = some (.cells #[.pointer q] 33 (0, 0)) := by
    rintro W rfl
    exact ⟨((Below.refl _ _).alloc (Nat.le_refl _) _).alloc (by simp) _, by rw [Below.heap_alloc _ _ _ (by simp)]; exact heap_alloc_new _ _, heap_new2 _ _ _⟩
  have hal := fun W => callsIn_wide (n := 2) |>.2 (all_call q W)
  have HB := Lib.hid hb0
  have HD := Lib.hid h
  have HAL := Lib.hid hal
  clear hb0 h hal
  refine callsIn_of_wp_marks Try.func31 rfl trivial ?_ rfl
  simp only [Try.ntmps31, List.size_toArray, List.length_cons, List.length_nil, Nat.reduceAdd, Nat.reduceSub, Array.replicate_succ, Array.replicate_zero, List.push_toArray, List.append_toArray, List.nil_append, List.cons_append]
  gi_wp2_with (first | (refine ⟨trivial, ?_⟩; gi_at_call 69; refine (HAL.out _).mono ?_; rintro e w5 ⟨rfl, h5⟩; rw [h5]; clear h5))
  obtain ⟨hb1, x0, x1⟩ := HB.out _ rfl
  have hsz1 : ((w.alloc (.cells #[.slice none 0 0] 50)).alloc (.cells #[.pointer q] 33)).heap.size = w.heap.size + 2 := by simp
  generalize (w.alloc (.cells #[.slice none 0 0] 50)).alloc (.cells #[.pointer q] 33) = W1 at *
  refine wpIn_rangeT (gf := 85) (lb := #[.pointer (some ⟨w.heap.size + 1, 0, none⟩)]) rfl (enters_of Try.func85 (by kernel_rfl) rfl) (all1_dud q w W1 (w.heap.size + 1) HD.out hb1 x1) (Below.refl _ _) hb1.size (fun _ => rfl)
    (fun (p : List Vs) (Wc : World) => Wc.heap[w.heap.size]? = some (Obj.cells #[.slice none 0 0] 50 (0, 0)) ∧ Below w.heap.size w Wc)
    (fun p X Y ⟨h1, h3⟩ hat => ⟨hat.keep h1 (by decide), h3.trans hat.below⟩)
    ⟨x0, hb1⟩
    (fun (x : Vs) (a' : Act) (Wc : World) => ∃ bx, Wc.heap[bx]? = some (Obj.cells #[.pointer (some ⟨x.1.b, 0, none⟩), .int .i64 x.2.1, .int .i64 x.2.2] 120 (0, 0)))
    (fun x a' X Y ⟨bx, h1⟩ hat => ⟨bx, hat.keep h1 (by decide)⟩) ?assign ?body ?done
  case assign =>
    rintro l m p x Wc ⟨h1, h3⟩ _ hs
    unfold visV Nd.ptr
    gi_wp2_with fail
    exact ⟨⟨Wc.heap.size, heap_alloc_new _ _⟩, KT.of_below (below_alloc _ _) (by omega), (Below.heap_alloc _ _ _ (by omega)).trans h1, h3.alloc h3.size _⟩
  case body =>
    rintro l m p x rs a₁ Wc hxs
    simp at hxs
  case done =>
    rintro D Wc hD ⟨h1, h3⟩ hDW
    have c0 : Wc.cell? ⟨w.heap.size, 0, none⟩ = some (.slice none 0 0) := cell_of_heap h1 rfl
    have HDW := Lib.hid hDW
    clear h1 hDW
    gi_wp2_with fail
    refine leaves_marks (T := []) (n₀ := w.heap.size) (m := w.heap.size) [D] Wc (by simp) (fun D' hD' => ?_) (fun W' hat => ⟨.slice none 0 0, (by simp [results, Try.results31, go_sem]), rfl, h3.trans hat.below⟩)
    obtain rfl := List.mem_singleton.1 hD'
    exact ⟨by omega, by omega, HDW.out⟩

end Go.Proofs.Ytcjpmgfobnaoeaa
