/- The chapter's node of find: lives. -/
import Derived.Test.YtcjpmgfobnaoeaaA26
namespace Go.Proofs.Ytcjpmgfobnaoeaa
open Go.RowKit

def f25T : Tr := .mk 5 7 [.mk 0 (-1) [], .mk 1 (-1) []]
def f25D : Dt := ⟨f25T, [(0, 2, 3), (0, 0, 1)], []⟩
def f25Pn : Pn := .mk 5 7 0 0 0 0 false [.mk 0 (-1) 2 3 0 (-1) false [], .mk 1 (-1) 0 1 0 (-1) false []]
theorem f25_bld : f25D.bld = .ok f25Pn := by rfl
theorem f25_cnt : f25D.tree.cnt = 3 := by rfl

theorem leafcall (k : Int) (w : World) : Calls Try.prog 74 #[.int .i64 k] w fun e w' => e = .returned (.agg #[.int .i64 k, .int .i64 (-1), .slice none 0 0]) ∧ Below w.heap.size w w' := by
  have G := heap_alloc_new w (.cells #[.int .i64 k, .int .i64 (-1), .slice none 0 0] 24)
  have r0 := cell_of_heap (i := 0) (v := .int .i64 k) G rfl
  have r1 := cell_of_heap (i := 1) (v := .int .i64 (-1)) G rfl
  have r2 := cell_of_heap (i := 2) (v := .slice none 0 0) G rfl
  go_enter Try.func74, Try.ntmps74
  go_wp2_with fail
  exact bodyPost_ret (v := .agg #[.int .i64 k, .int .i64 (-1), .slice none 0 0]) (by simp [results, Try.results74, go_sem, r0, r1, r2]) rfl ⟨rfl, below_alloc _ _⟩

theorem f25_at (W : World) (b1 b2 : Nat) (h1 : W.heap[b1]? = some (.cells #[.int .i64 0, .int .i64 (-1), .slice none 0 0, .int .i64 1, .int .i64 (-1), .slice none 0 0] 24 (0, 0)))
    (h2 : W.heap[b2]? = some (.cells #[.int .i64 0, .int .i64 2, .int .i64 3, .int .i64 0, .int .i64 0, .int .i64 1] 72 (0, 0))) :
    f25D.At W.heap.size W (.agg #[.int .i64 5, .int .i64 7, .slice (some ⟨b1, 0, none⟩) 2 2, .slice (some ⟨b2, 0, none⟩) 2 2, .slice none 0 0]) := by
  have l1 := (Array.getElem?_eq_some_iff.1 h1).1
  have l2 := (Array.getElem?_eq_some_iff.1 h2).1
  have leaf : ∀ k, (Tr.mk k (-1) []).At W.heap.size W (.slice none 0 0) := fun k => by
    unfold Tr.At
    exact ⟨none, 0, rfl, Nat.le_refl _, by unfold TrsAt; trivial⟩
  refine ⟨_, _, _, rfl, ?_, .inr ⟨b2, 0, 2, rfl, Nat.le_refl _, l2, ?_⟩, .inl ⟨none, 0, rfl, rfl⟩⟩
  · show Tr.At _ _ _ f25T
    unfold f25T Tr.At
    refine ⟨_, 2, rfl, Nat.le_refl _, ?_⟩
    unfold TrsAt
    refine ⟨⟨b1, 0, _, rfl, l1, cell_of_heap h1 rfl, cell_of_heap h1 rfl, cell_of_heap h1 rfl, leaf 0⟩, ?_⟩
    unfold TrsAt
    refine ⟨⟨b1, 0, _, rfl, l1, cell_of_heap h1 rfl, cell_of_heap h1 rfl, cell_of_heap h1 rfl, leaf 1⟩, ?_⟩
    unfold TrsAt
    trivial
  · intro i hi j u hu
    have hi' : i < 2 := hi
    rcases i with _ | _ | i
    · rcases j with _ | _ | _ | j
      · exact cell_of_heap h2 hu
      · exact cell_of_heap h2 hu
      · exact cell_of_heap h2 hu
      · simp [f25D, tkCells] at hu
    · rcases j with _ | _ | _ | j
      · exact cell_of_heap h2 hu
      · exact cell_of_heap h2 hu
      · exact cell_of_heap h2 hu
      · simp [f25D, tkCells] at hu
    · omega

/-- What the chapter's node answers. -/
theorem f25_paths {n : Nd} (hwf : n.WF) (h : n.plain = f25Pn) : n.bt = 6 ∧ pathA n 0 = [⟨5, 7, 0, 6, 0⟩] ∧ pathA n 4 = [⟨5, 7, 0, 6, 0⟩, ⟨0, -1, 2, 5, 1⟩] ∧ pathA n 5 = [⟨5, 7, 0, 6, 0⟩, ⟨1, -1, 5, 6, 1⟩] ∧ pathA n 3 = [⟨5, 7, 0, 6, 0⟩, ⟨0, -1, 2, 5, 1⟩] := by
  have hb := (Nd.WF.adds n hwf).2.1
  have h' := h
  rw [h] at hb
  have hb6 : n.bt = 6 := hb.trans rfl
  rw [n.plain_eq] at h
  unfold f25Pn at h
  injection h with h1 h2 _ _ _ _ _ hk
  rcases hkk : n.kids with _ | ⟨p, _ | ⟨q, _ | ⟨r, l⟩⟩⟩
  · rw [hkk] at hk; simp at hk
  · rw [hkk] at hk; simp at hk
  · rw [hkk] at hk
    simp only [List.map_cons, List.map_nil, List.cons.injEq, and_true] at hk
    obtain ⟨hp, hq⟩ := hk
    have wp := hwf.kid p (by rw [hkk]; simp)
    have wq := hwf.kid q (by rw [hkk]; simp)
    have bp := (Nd.WF.adds p wp).2
    have bq := (Nd.WF.adds q wq).2
    rw [hp] at bp
    rw [hq] at bq
    have bp1 : p.bt = 5 := bp.1.trans rfl
    have bq1 : q.bt = 1 := bq.1.trans rfl
    have lp : p.ld = 2 := bp.2.1.trans rfl
    have lq : q.ld = 0 := bq.2.1.trans rfl
    rw [p.plain_eq] at hp
    rw [q.plain_eq] at hq
    injection hp with p1 p2 _ _ _ _ _ p3
    injection hq with q1 q2 _ _ _ _ _ q3
    have kp : p.kids = [] := by simpa using p3
    have kq : q.kids = [] := by simpa using q3
    refine ⟨hb6, ?_, ?_, ?_, ?_⟩ <;> (unfold pathA; rw [pathN_kids, hkk, h1, h2, hb6]; simp [pathK, pathN_kids, bp1, bq1, lp, lq, kp, kq, p1, p2, q1, q2])
  · rw [hkk] at hk; simp at hk

attribute [local irreducible] Calls
set_option maxRecDepth 100000 in
set_option maxHeartbeats 8000000 in
theorem lives25 (w : World) : Calls Try.prog 39 #[] w fun e w' => e = .returned (.bool true) ∧ Below w.heap.size w w' := by
  have hbl : ∀ (w1 W : World), W = (w1.alloc (.cells #[.int .i64 0, .int .i64 (-1), .slice none 0 0, .int .i64 1, .int .i64 (-1), .slice none 0 0] 24)).alloc (.cells #[.int .i64 0, .int .i64 2, .int .i64 3, .int .i64 0, .int .i64 0, .int .i64 1] 72) →
      Calls Try.prog 21 #[.agg #[.int .i64 5, .int .i64 7, .slice (some ⟨w1.heap.size, 0, none⟩) 2 2, .slice (some ⟨w1.heap.size + 1, 0, none⟩) 2 2, .slice none 0 0]] W (BuiltSays f25D W) ∧ Below w1.heap.size w1 W := by
    rintro w1 W rfl
    exact ⟨built_any _ _ _ _ (f25_at _ w1.heap.size (w1.heap.size + 1) (by rw [Below.heap_alloc _ _ _ (by simp)]; exact heap_alloc_new _ _) (heap_new2 _ _ _)) (Nat.le_refl _) (by rw [f25_cnt]; omega), ((Below.refl _ _).alloc (Nat.le_refl _) _).alloc (by simp) _⟩
  have HBL := Lib.hid hbl
  have hcur : Below w.heap.size w w := Below.refl _ _
  clear hbl
  go_enter Try.func39, Try.ntmps39
  go_upto_region 3 with (first
    | (go_at_call 74; refine (leafcall _ _).mono ?_; rintro e w1 ⟨rfl, hb⟩; replace hcur := hcur.trans (hb.mono hcur.size))
    | (go_at_call 21; refine (HBL.out _ _ rfl).1.mono ?_; rintro e w3 hsay; obtain ⟨hb3, n, hpn, rfl, hin, hwf, hht, hcn, hbk⟩ := hsay.ok f25_bld))
  have hw3 := hcur.trans (((HBL.out _ _ rfl).2.trans (hb3.mono (HBL.out _ _ rfl).2.size)).mono hcur.size)
  obtain ⟨hbt, a0, a4, a5, a3⟩ := f25_paths hwf hpn.symm
  have hc3 : n.cnt ≤ 1000 := by rw [f25_cnt] at hcn; omega
  have hpath : ∀ (at' : Int), 0 ≤ at' → at' < n.bt → ∀ W, Below w3.heap.size w3 W → Calls Try.prog 40 #[n.ptr, .int .i64 at'] W fun e w' => ∃ v, e = .returned (.tuple #[v, .int .i64 0]) ∧ w'.ownsRow W.heap.size 66 5 v (pathA n at').length (spots (pathA n at')) ∧ Below W.heap.size W w' := fun at' h0 h1 W hW =>
    path_in n at' W (hin.below hW) hwf hc3 h0 h1
  have hat : ∀ (at' : Int) (s : Sp), 0 ≤ at' → at' < n.bt → (pathA n at').length ≤ 100000 → (pathA n at').getLast? = some s → ∀ W, Below w3.heap.size w3 W → Calls Try.prog 41 #[n.ptr, .int .i64 at'] W fun e w' => e = .returned (.tuple #[.agg #[.int .i64 s.sy, .int .i64 s.pr, .int .i64 s.fa, .int .i64 s.fz, .int .i64 s.dp], .int .i64 0]) ∧ Below W.heap.size W w' := fun at' s h0 h1 hl hs W hW =>
    at_okv n.ptr at' (pathA n at') s W hl hs fun W2 hW2 => hpath at' h0 h1 W2 (hW.trans (hW2.mono hW.size))
  have hat6 : ∀ W, Below w3.heap.size w3 W → Calls Try.prog 41 #[n.ptr, .int .i64 6] W fun e w' => e = .returned (.tuple #[.agg #[.int .i64 0, .int .i64 0, .int .i64 0, .int .i64 0, .int .i64 0], .int .i64 4]) ∧ Below W.heap.size W w' := fun W hW =>
    at_err n.ptr 6 4 W (by decide) fun W2 hW2 => path_out n 6 W2 (hin.below (hW.trans (hW2.mono hW.size))) hwf (Or.inr (by omega))
  have h0 := hat 0 ⟨5, 7, 0, 6, 0⟩ (by decide) (by omega) (by rw [a0]; decide) (by rw [a0]; rfl)
  have h4 := hat 4 ⟨0, -1, 2, 5, 1⟩ (by decide) (by omega) (by rw [a4]; decide) (by rw [a4]; rfl)
  have h5 := hat 5 ⟨1, -1, 5, 6, 1⟩ (by decide) (by omega) (by rw [a5]; decide) (by rw [a5]; rfl)
  have h3 := hpath 3 (by decide) (by omega)
  rw [a3] at h3
  simp only [] at h0 h4 h5
  unfold Nd.ptr at h0 h4 h5 h3 hat6
  have H0 := Lib.hid h0
  have H4 := Lib.hid h4
  have H5 := Lib.hid h5
  have H6 := Lib.hid hat6
  have H3 := Lib.hid h3
  clear h0 h4 h5 h3 hat6 hat hpath a0 a4 a5 a3 hbt hin hwf hpn hbk hcn hht hcur hb hb3
  unfold Nd.ptr
  have hcur : Below w3.heap.size w3 w3 := Below.refl _ _
  go_upto_region 4 with (first | (go_at_call 41; refine (H0.out _ hcur).mono ?_; rintro e y4 ⟨rfl, hb⟩; replace hcur := hcur.trans (hb.mono hcur.size)))
  have ha := below_alloc y4 (.cells #[.int .i64 5, .int .i64 7, .int .i64 0, .int .i64 6, .int .i64 0] 66)
  have g4 := heap_alloc_new y4 (.cells #[.int .i64 5, .int .i64 7, .int .i64 0, .int .i64 6, .int .i64 0] 66)
  replace hcur := hcur.trans (ha.mono hcur.size)
  obtain ⟨b4, hb4⟩ : ∃ b, b = y4.heap.size := ⟨_, rfl⟩
  rw [← hb4] at g4 ⊢
  generalize y4.alloc (.cells #[.int .i64 5, .int .i64 7, .int .i64 0, .int .i64 6, .int .i64 0] 66) = z4 at *
  clear ha hb hb4
  go_upto_region 5 with (first | (go_at_call 41; refine (H4.out _ hcur).mono ?_; rintro e y5 ⟨rfl, hb⟩; replace hcur := hcur.trans (hb.mono hcur.size); replace g4 := (hb.block _ (Array.getElem?_eq_some_iff.1 g4).1).trans g4))
  have ha := below_alloc y5 (.cells #[.int .i64 0, .int .i64 (-1), .int .i64 2, .int .i64 5, .int .i64 1] 66)
  have g5 := heap_alloc_new y5 (.cells #[.int .i64 0, .int .i64 (-1), .int .i64 2, .int .i64 5, .int .i64 1] 66)
  replace g4 := (ha.block _ (Array.getElem?_eq_some_iff.1 g4).1).trans g4
  replace hcur := hcur.trans (ha.mono hcur.size)
  obtain ⟨b5, hb5⟩ : ∃ b, b = y5.heap.size := ⟨_, rfl⟩
  rw [← hb5] at g5 ⊢
  generalize y5.alloc (.cells #[.int .i64 0, .int .i64 (-1), .int .i64 2, .int .i64 5, .int .i64 1] 66) = z5 at *
  clear ha hb hb5
  go_upto_region 6 with (first | (go_at_call 41; refine (H5.out _ hcur).mono ?_; rintro e y6 ⟨rfl, hb⟩; replace hcur := hcur.trans (hb.mono hcur.size); replace g4 := (hb.block _ (Array.getElem?_eq_some_iff.1 g4).1).trans g4; replace g5 := (hb.block _ (Array.getElem?_eq_some_iff.1 g5).1).trans g5))
  have ha := below_alloc y6 (.cells #[.int .i64 1, .int .i64 (-1), .int .i64 5, .int .i64 6, .int .i64 1] 66)
  have g6 := heap_alloc_new y6 (.cells #[.int .i64 1, .int .i64 (-1), .int .i64 5, .int .i64 6, .int .i64 1] 66)
  replace g4 := (ha.block _ (Array.getElem?_eq_some_iff.1 g4).1).trans g4
  replace g5 := (ha.block _ (Array.getElem?_eq_some_iff.1 g5).1).trans g5
  replace hcur := hcur.trans (ha.mono hcur.size)
  obtain ⟨b6, hb6⟩ : ∃ b, b = y6.heap.size := ⟨_, rfl⟩
  rw [← hb6] at g6 ⊢
  generalize y6.alloc (.cells #[.int .i64 1, .int .i64 (-1), .int .i64 5, .int .i64 6, .int .i64 1] 66) = z6 at *
  clear ha hb hb6
  go_upto_region 7 with (first | (go_at_call 41; refine (H6.out _ hcur).mono ?_; rintro e y7 ⟨rfl, hb⟩; replace hcur := hcur.trans (hb.mono hcur.size); replace g4 := (hb.block _ (Array.getElem?_eq_some_iff.1 g4).1).trans g4; replace g5 := (hb.block _ (Array.getElem?_eq_some_iff.1 g5).1).trans g5; replace g6 := (hb.block _ (Array.getElem?_eq_some_iff.1 g6).1).trans g6))
  have ha := below_alloc y7 (.cells #[.int .i64 0, .int .i64 0, .int .i64 0, .int .i64 0, .int .i64 0] 66)
  have g7 := heap_alloc_new y7 (.cells #[.int .i64 0, .int .i64 0, .int .i64 0, .int .i64 0, .int .i64 0] 66)
  replace g4 := (ha.block _ (Array.getElem?_eq_some_iff.1 g4).1).trans g4
  replace g5 := (ha.block _ (Array.getElem?_eq_some_iff.1 g5).1).trans g5
  replace g6 := (ha.block _ (Array.getElem?_eq_some_iff.1 g6).1).trans g6
  replace hcur := hcur.trans (ha.mono hcur.size)
  obtain ⟨b7, hb7⟩ : ∃ b, b = y7.heap.size := ⟨_, rfl⟩
  rw [← hb7] at g7 ⊢
  generalize y7.alloc (.cells #[.int .i64 0, .int .i64 0, .int .i64 0, .int .i64 0, .int .i64 0] 66) = z7 at *
  clear ha hb hb7
  clear g7
  go_wp2_with (first
    | (go_at_call 40; refine (H3.out _ hcur).mono ?_; rintro e y8 ⟨v8, rfl, hrow, hb⟩; obtain ⟨_, A8, c8, rfl, _⟩ := spots_row hrow; replace hcur := hcur.trans (hb.mono hcur.size); replace g4 := (hb.block _ (Array.getElem?_eq_some_iff.1 g4).1).trans g4; replace g5 := (hb.block _ (Array.getElem?_eq_some_iff.1 g5).1).trans g5; replace g6 := (hb.block _ (Array.getElem?_eq_some_iff.1 g6).1).trans g6)
    | (go_at_call 40; refine (path_nil _ _).mono ?_; rintro e y9 ⟨rfl, hb⟩; replace hcur := hcur.trans (hb.mono hcur.size); replace g4 := (hb.block _ (Array.getElem?_eq_some_iff.1 g4).1).trans g4; replace g5 := (hb.block _ (Array.getElem?_eq_some_iff.1 g5).1).trans g5; replace g6 := (hb.block _ (Array.getElem?_eq_some_iff.1 g6).1).trans g6; have c40 := cell_of_heap (i := 0) (v := .int .i64 5) g4 rfl; have c41 := cell_of_heap (i := 1) (v := .int .i64 7) g4 rfl; have c42 := cell_of_heap (i := 2) (v := .int .i64 0) g4 rfl; have c43 := cell_of_heap (i := 3) (v := .int .i64 6) g4 rfl; have c44 := cell_of_heap (i := 4) (v := .int .i64 0) g4 rfl; have c50 := cell_of_heap (i := 0) (v := .int .i64 0) g5 rfl; have c51 := cell_of_heap (i := 1) (v := .int .i64 (-1)) g5 rfl; have c52 := cell_of_heap (i := 2) (v := .int .i64 2) g5 rfl; have c53 := cell_of_heap (i := 3) (v := .int .i64 5) g5 rfl; have c54 := cell_of_heap (i := 4) (v := .int .i64 1) g5 rfl; have c60 := cell_of_heap (i := 0) (v := .int .i64 1) g6 rfl; have c61 := cell_of_heap (i := 1) (v := .int .i64 (-1)) g6 rfl; have c62 := cell_of_heap (i := 2) (v := .int .i64 5) g6 rfl; have c63 := cell_of_heap (i := 3) (v := .int .i64 6) g6 rfl; have c64 := cell_of_heap (i := 4) (v := .int .i64 1) g6 rfl))
  go_ret
  exact ⟨rfl, hw3.trans (hcur.mono hw3.size)⟩

end Go.Proofs.Ytcjpmgfobnaoeaa
