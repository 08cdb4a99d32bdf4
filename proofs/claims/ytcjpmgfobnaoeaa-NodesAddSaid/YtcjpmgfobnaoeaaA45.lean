/- The chapter's node: lives of layer 20. -/
import Derived.Test.YtcjpmgfobnaoeaaA38
namespace Go.Proofs.Ytcjpmgfobnaoeaa
open Go.RowKit

/-- The chapter's node. -/
def chNd (g : Nat) (ks : Value) (g1 g2 : Nat) : Nd := makeNd g ks 5 7 0 0 false [leafNd g1 0 2 3 0 true, leafNd g2 1 0 1 0 true]
theorem chNd_e0 (g1 g2 : Nat) : makeE 5 [0, 1] 7 0 0 [leafNd g1 0 2 3 0 true, leafNd g2 1 0 1 0 true] = 0 := by rfl
theorem chNd_e1 (g1 g2 : Nat) : makeE 5 [1, 0] 7 0 0 [leafNd g1 0 2 3 0 true, leafNd g2 1 0 1 0 true] = 200 := by rfl
theorem chNd_spots (g : Nat) (ks : Value) (g1 g2 : Nat) : spotsN (chNd g ks g1 g2) = [⟨5, 7, 0, 6, 0⟩, ⟨0, -1, 2, 5, 1⟩, ⟨1, -1, 5, 6, 1⟩] := by rfl
theorem chNd_lit (w : World) (b : Nat) (h : w.heap[b]? = some (.cells #[.int .i64 5, .int .i64 7, .int .i64 0, .int .i64 6, .int .i64 0, .int .i64 0, .int .i64 (-1), .int .i64 2, .int .i64 5, .int .i64 1, .int .i64 1, .int .i64 (-1), .int .i64 5, .int .i64 6, .int .i64 1] 66 (0, 0))) : SpotsAt w (.slice (some ⟨b, 0, none⟩) 3 3) [⟨5, 7, 0, 6, 0⟩, ⟨0, -1, 2, 5, 1⟩, ⟨1, -1, 5, 6, 1⟩] := by
  have hl := (Array.getElem?_eq_some_iff.1 h).1
  refine ⟨_, 3, rfl, fun i hi => ⟨b, rfl, hl, ?_⟩⟩
  rcases i with _ | _ | _ | i
  · exact ⟨cell_of_heap h rfl, cell_of_heap h rfl, cell_of_heap h rfl, cell_of_heap h rfl, cell_of_heap h rfl⟩
  · exact ⟨cell_of_heap h rfl, cell_of_heap h rfl, cell_of_heap h rfl, cell_of_heap h rfl, cell_of_heap h rfl⟩
  · exact ⟨cell_of_heap h rfl, cell_of_heap h rfl, cell_of_heap h rfl, cell_of_heap h rfl, cell_of_heap h rfl⟩
  · simp at hi; omega

attribute [local irreducible] Calls
set_option maxRecDepth 100000 in
set_option maxHeartbeats 8000000 in
theorem lives20 (w : World) : Calls Try.prog 30 #[] w fun e w' => e = .returned (.bool true) ∧ Below w.heap.size w w' := by
  have l1 := fun W => leaf_ok 0 2 3 0 true W (by decide)
  have l2 := fun W => leaf_ok 1 0 1 0 true W (by decide)
  have l3 : ∀ W, Calls Try.prog 45 #[.agg #[.int .i64 32, .int .i64 0, .int .i64 0], .int .i64 0, .bool true] W fun e w' => e = .returned (.tuple #[.pointer none, .int .i64 2]) ∧ Below W.heap.size W w' := fun W => leaf_bad 32 0 0 0 true W (by decide)
  have hints : ∀ (W : World) (x y : Int), (W.alloc (.cells #[.int .i64 x, .int .i64 y] 3)).heap[W.heap.size]? = some (.cells #[.int .i64 x, .int .i64 y] 3 (0, 0)) := fun W x y => heap_alloc_new W _
  have hmk : ∀ (W : World) (g1 g2 : Nat) (x y : Int) (p q : Value), W.heap[g1]? = some (.cells (leafNd g1 0 2 3 0 true).cs 87 (0, 0)) → W.heap[g2]? = some (.cells (leafNd g2 1 0 1 0 true).cs 87 (0, 0)) → p = .pointer (some ⟨g1, 0, none⟩) → q = .pointer (some ⟨g2, 0, none⟩) →
      Calls Try.prog 33 #[.agg #[.int .i64 5, .slice (some ⟨W.heap.size, 0, none⟩) 2 2, .bool false], .int .i64 7, .agg #[.int .i64 0, .int .i64 0, .bool false], .slice (some ⟨W.heap.size + 1, 0, none⟩) 2 2] ((W.alloc (.cells #[.int .i64 x, .int .i64 y] 3)).alloc (.cells #[p, q] 33))
        (MakeSays ((W.alloc (.cells #[.int .i64 x, .int .i64 y] 3)).alloc (.cells #[p, q] 33)) 5 [x, y] 7 0 0 false [leafNd g1 0 2 3 0 true, leafNd g2 1 0 1 0 true]) := by
    rintro W g1 g2 x y p q h1 h2 rfl rfl
    have hb : Below W.heap.size W ((W.alloc (.cells #[.int .i64 x, .int .i64 y] 3)).alloc (.cells #[.pointer (some ⟨g1, 0, none⟩), .pointer (some ⟨g2, 0, none⟩)] 33)) := ((Below.refl _ _).alloc (Nat.le_refl _) _).alloc (by simp) _
    have e0 : ((W.alloc (.cells #[.int .i64 x, .int .i64 y] 3)).alloc (.cells #[.pointer (some ⟨g1, 0, none⟩), .pointer (some ⟨g2, 0, none⟩)] 33)).heap[W.heap.size]? = some (.cells #[.int .i64 x, .int .i64 y] 3 (0, 0)) := by
      rw [Below.heap_alloc _ _ _ (by simp)]; exact heap_alloc_new _ _
    have e1 : ((W.alloc (.cells #[.int .i64 x, .int .i64 y] 3)).alloc (.cells #[.pointer (some ⟨g1, 0, none⟩), .pointer (some ⟨g2, 0, none⟩)] 33)).heap[W.heap.size + 1]? = some (.cells #[.pointer (some ⟨g1, 0, none⟩), .pointer (some ⟨g2, 0, none⟩)] 33 (0, 0)) := heap_new2 _ _ _
    refine make_any 5 _ [x, y] false 7 0 0 false _ [leafNd g1 0 2 3 0 true, leafNd g2 1 0 1 0 true] _ ⟨_, _, rfl, fun j hj => ?_⟩ ⟨_, _, rfl, fun j hj => ?_⟩ ?_ ?_ ?_ (by simp) (by simp)
    · rcases j with _ | _ | j
      · exact ⟨_, _, rfl, cell_of_heap e0 rfl⟩
      · exact ⟨_, _, rfl, cell_of_heap e0 rfl⟩
      · simp at hj; omega
    · rcases j with _ | _ | j
      · exact ⟨_, _, rfl, cell_of_heap e1 rfl⟩
      · exact ⟨_, _, rfl, cell_of_heap e1 rfl⟩
      · simp at hj; omega
    · intro m hm
      simp only [List.mem_cons, List.not_mem_nil, or_false] at hm
      rcases hm with rfl | rfl
      · exact (leafNd_in h1).below hb
      · exact (leafNd_in h2).below hb
    · intro m hm
      simp only [List.mem_cons, List.not_mem_nil, or_false] at hm
      rcases hm with rfl | rfl
      · exact leafNd_wf (by decide)
      · exact leafNd_wf (by decide)
    · intro m hm
      simp only [List.mem_cons, List.not_mem_nil, or_false] at hm
      rcases hm with rfl | rfl
      · show (1 : Int) ≤ 1000000; omega
      · show (1 : Int) ≤ 1000000; omega
  have HM := Lib.hid hmk
  have HL1 := Lib.hid l1
  have HL2 := Lib.hid l2
  have HL3 := Lib.hid l3
  clear l1 l2 l3 hmk hints
  have hcur := Below.refl w.heap.size w
  go_enter Try.func30, Try.ntmps30
  have al2 : ∀ (W : World) (a b : Obj), Below W.heap.size W ((W.alloc a).alloc b) := fun W a b => ((Below.refl _ _).alloc (Nat.le_refl _) _).alloc (by simp) _
  have AL2 := Lib.hid al2
  clear al2
  go_upto_region 6 with (first
    | (go_at_call 45; refine (HL1.out _).mono ?_; rintro e w1 ⟨g1, rfl, hg1, hl1, hb1⟩; replace hcur := hcur.trans (hb1.mono hcur.size); have G1 := Lib.hid hg1; clear hg1 HL1)
    | (go_at_call 45; refine (HL2.out _).mono ?_; rintro e w2 ⟨g2, rfl, hg2, hl2, hb2⟩; replace hcur := hcur.trans (hb2.mono hcur.size); have G2 := Lib.hid hg2; have H1 := Lib.hid ((hb2.block _ (Array.getElem?_eq_some_iff.1 G1.out).1).trans G1.out); clear hg2 HL2)
    | (go_at_call 33; refine (HM.out _ g1 g2 0 1 _ _ H1.out G2.out rfl rfl).mono ?_; rintro e w3 hsay; obtain ⟨hb3, g, ks, rfl, hgl, hgh, hrow⟩ := hsay.ok (chNd_e0 g1 g2); have h23 := (AL2.out w2 _ _).trans (hb3.mono (AL2.out w2 _ _).size); replace hcur := hcur.trans (h23.mono hcur.size); have J1 := Lib.hid ((h23.block _ (Array.getElem?_eq_some_iff.1 H1.out).1).trans H1.out); have J2 := Lib.hid ((h23.block _ (Array.getElem?_eq_some_iff.1 G2.out).1).trans G2.out); have GH := Lib.hid hgh; have GR := Lib.hid hrow; clear hgh hrow)
    | (go_at_call 33; refine (HM.out _ g1 g2 1 0 _ _ J1.out J2.out rfl rfl).mono ?_; rintro e w4 hsay; obtain ⟨hb4, he4⟩ := hsay.bad (by rw [chNd_e1]; decide); rw [chNd_e1] at he4; subst he4; have h34 := (AL2.out w3 _ _).trans (hb4.mono (AL2.out w3 _ _).size); replace hcur := hcur.trans (h34.mono hcur.size))
    | (go_at_call 45; refine (HL3.out _).mono ?_; rintro e w5 ⟨rfl, hb5⟩; replace hcur := hcur.trans (hb5.mono hcur.size); have h35 := h34.trans (hb5.mono h34.size)))
  have hin : (chNd g ks g1 g2).In w3 := makeNd_in GH.out GR.out (by
    intro m hm
    simp only [List.mem_cons, List.not_mem_nil, or_false] at hm
    rcases hm with rfl | rfl
    · exact leafNd_in J1.out
    · exact leafNd_in J2.out)
  have hwf : (chNd g ks g1 g2).WF := makeNd_wf (body := [0, 1]) (by
    intro m hm
    simp only [List.mem_cons, List.not_mem_nil, or_false] at hm
    rcases hm with rfl | rfl
    · exact leafNd_wf (by decide)
    · exact leafNd_wf (by decide)) (chNd_e0 g1 g2)
  have hby : ∀ W, Below w3.heap.size w3 W → Calls Try.prog 36 #[.pointer (some ⟨g, 0, none⟩)] W fun e w' => e = .returned (.int .i64 6) ∧ Below W.heap.size W w' := fun W hW => bytes_some (chNd g ks g1 g2) W (hin.below hW)
  have htk : ∀ W, Below w3.heap.size w3 W → Calls Try.prog 24 #[.pointer (some ⟨g, 0, none⟩)] W fun e w' => e = .returned (.int .i64 2) ∧ Below W.heap.size W w' := fun W hW => tokens_some (chNd g ks g1 g2) W (hin.below hW)
  have hld : ∀ W, Below w3.heap.size w3 W → Calls Try.prog 37 #[.pointer (some ⟨g, 0, none⟩)] W fun e w' => e = .returned (.int .i64 2) ∧ Below W.heap.size W w' := fun W hW => lead_some (chNd g ks g1 g2) W (hin.below hW)
  have hht : ∀ W, Below w3.heap.size w3 W → Calls Try.prog 62 #[.pointer (some ⟨g, 0, none⟩)] W fun e w' => e = .returned (.int .i64 2) ∧ Below W.heap.size W w' := fun W hW => height_some (chNd g ks g1 g2) W (hin.below hW)
  have hsp : ∀ W, Below w3.heap.size w3 W → Calls Try.prog 31 #[.pointer (some ⟨g, 0, none⟩)] W fun e w' => ∃ v, e = .returned v ∧ SpotsAt w' v [⟨5, 7, 0, 6, 0⟩, ⟨0, -1, 2, 5, 1⟩, ⟨1, -1, 5, 6, 1⟩] ∧ Below W.heap.size W w' := fun W hW => by
    refine (spots_call (chNd g ks g1 g2) W (hin.below hW) hwf (show 3 ≤ 1000 by decide)).mono ?_
    rintro e w' ⟨v, rfl, hr, hb⟩
    rw [chNd_spots] at hr
    exact ⟨v, rfl, SpotsAt.of_row hr, hb⟩
  have hss : ∀ W u v, SpotsAt W u [⟨5, 7, 0, 6, 0⟩, ⟨0, -1, 2, 5, 1⟩, ⟨1, -1, 5, 6, 1⟩] → SpotsAt W v [⟨5, 7, 0, 6, 0⟩, ⟨0, -1, 2, 5, 1⟩, ⟨1, -1, 5, 6, 1⟩] → Calls Try.prog 35 #[u, v] W fun e w' => e = .returned (.bool true) ∧ Below W.heap.size W w' := fun W u v h h' => sameSpots_call u v _ W h h' (by simp)
  have HBY := Lib.hid hby
  have HTK := Lib.hid htk
  have HLD := Lib.hid hld
  have HHT := Lib.hid hht
  have HSP := Lib.hid hsp
  have HSS := Lib.hid hss
  clear hby htk hld hht hsp hss hin hwf
  go_wp2_with (first
    | (go_at_call 36; refine (HBY.out _ h35).mono ?_; rintro e w6 ⟨rfl, hb6⟩; replace hcur := hcur.trans (hb6.mono hcur.size); replace h35 := h35.trans (hb6.mono h35.size))
    | (go_at_call 24; refine (HTK.out _ h35).mono ?_; rintro e w7 ⟨rfl, hb7⟩; replace hcur := hcur.trans (hb7.mono hcur.size); replace h35 := h35.trans (hb7.mono h35.size))
    | (go_at_call 37; refine (HLD.out _ h35).mono ?_; rintro e w8 ⟨rfl, hb8⟩; replace hcur := hcur.trans (hb8.mono hcur.size); replace h35 := h35.trans (hb8.mono h35.size))
    | (go_at_call 62; refine (HHT.out _ h35).mono ?_; rintro e w9 ⟨rfl, hb9⟩; replace hcur := hcur.trans (hb9.mono hcur.size); replace h35 := h35.trans (hb9.mono h35.size))
    | (go_at_call 31; refine (HSP.out _ h35).mono ?_; rintro e w10 ⟨v10, rfl, hs10, hb10⟩; replace hcur := hcur.trans (hb10.mono hcur.size); have S10 := Lib.hid hs10; clear hs10)
    | (go_at_call 35; refine (HSS.out _ _ _ (S10.out.keep (below_alloc _ _)) (chNd_lit _ _ (heap_alloc_new _ _))).mono ?_; rintro e w11 ⟨rfl, hb11⟩; replace hcur := (hcur.alloc hcur.size _).trans (hb11.mono (hcur.alloc hcur.size _).size)))
  go_ret
  exact ⟨rfl, hcur⟩

end Go.Proofs.Ytcjpmgfobnaoeaa
