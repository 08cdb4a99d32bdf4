/- Merged out of own texts: A36, A37, A38, A45, A49, A53, A69, A70, A71, A54, A55, A56, A72, A73, A74, A40, A43, A75, A78, A80, A76, A79. -/
import Derived.Test.YtcjpmgfobnaoeaaR0
/- nodes.Spots: the places of a tree. -/
namespace Go.Proofs.Ytcjpmgfobnaoeaa
set_option linter.unusedVariables false
set_option linter.unusedSimpArgs false
open Go.RowKit Go.Shelf
attribute [local go_sem] Oper.semAt_some

set_option maxRecDepth 100000 in
set_option maxHeartbeats 8000000 in
theorem spots_call (n : Nd) (w : World) (hin : n.In w) (hwf : n.WF) (hcn : n.cnt ≤ 1000) : Calls Try.prog 31 #[n.ptr] w fun e w' =>
    ∃ v, e = .returned v ∧ w'.ownsRow w.heap.size 66 5 v (preN 0 0 n).length (spots (spotsN n)) ∧ Below w.heap.size w w' := by
  refine (callsIn_wide (n := 3)).1 ?_
  have hb0 : ∀ W, W = (w.alloc (.cells #[.slice none 0 0] 50)).alloc (.cells #[n.ptr] 33) → Below w.heap.size w W ∧ W.heap[w.heap.size]? = some (.cells #[.slice none 0 0] 50 (0, 0)) ∧ W.heap[w.heap.size + 1]? = some (.cells #[n.ptr] 33 (0, 0)) := by
    rintro W rfl
    exact ⟨((Below.refl _ _).alloc (Nat.le_refl _) _).alloc (by simp) _, by rw [Below.heap_alloc _ _ _ (by simp)]; exact heap_alloc_new _ _, heap_new2 _ _ _⟩
  have hal := fun W => callsIn_wide (n := 2) |>.2 (all_call (some ⟨n.b, 0, none⟩) W)
  have HB := Lib.hid hb0
  have HIN := Lib.hid hin
  have HWF := Lib.hid hwf
  have HAL := Lib.hid hal
  clear hb0 hin hwf hal
  unfold Nd.ptr at HB ⊢
  refine callsIn_of_wp_marks Try.func31 rfl trivial ?_ rfl
  simp only [Try.ntmps31, List.size_toArray, List.length_cons, List.length_nil, Nat.reduceAdd, Nat.reduceSub, Array.replicate_succ, Array.replicate_zero, List.push_toArray, List.append_toArray, List.nil_append, List.cons_append]
  gi_wp2_with (first | (refine ⟨trivial, ?_⟩; gi_at_call 69; refine (HAL.out _).mono ?_; rintro e w5 ⟨rfl, h5⟩; rw [h5]; clear h5))
  obtain ⟨hb1, x0, x1⟩ := HB.out _ rfl
  have hsz1 : ((w.alloc (.cells #[.slice none 0 0] 50)).alloc (.cells #[.pointer (some ⟨n.b, 0, none⟩)] 33)).heap.size = w.heap.size + 2 := by simp
  generalize (w.alloc (.cells #[.slice none 0 0] 50)).alloc (.cells #[.pointer (some ⟨n.b, 0, none⟩)] 33) = W1 at *
  have hlen : (preN 0 0 n).length ≤ 1000 := by rw [preN_len]; exact hcn
  have hm : Try.prog.follows .mixedOrders = true := by kernel_rfl
  refine wpIn_rangeT (gf := 85) (lb := #[.pointer (some ⟨w.heap.size + 1, 0, none⟩)]) rfl (enters_of Try.func85 (by kernel_rfl) rfl) (all1_gives n w W1 (w.heap.size + 1) HIN.out HWF.out hcn hb1 x1) (Below.refl _ _) hb1.size (fun _ => rfl)
    (fun p Wc => ∃ tv, Wc.heap[w.heap.size]? = some (.cells #[tv] 50 (0, 0)) ∧ Wc.ownsRow w.heap.size 66 5 tv p.length (spots (p.map spotV)) ∧ Below w.heap.size w Wc)
    (fun p X Y ⟨tv, h1, h2, h3⟩ hat => ⟨tv, hat.keep h1 (by decide), row_at h2 hat (by decide), h3.trans hat.below⟩)
    ⟨_, x0, World.ownsRow_nil _ _ _ _, hb1⟩
    (fun x a' Wc => ∃ bx, Wc.heap[bx]? = some (.cells #[.pointer (some ⟨x.1.b, 0, none⟩), .int .i64 x.2.1, .int .i64 x.2.2] 120 (0, 0)) ∧ a' = { tmps := #[((.pointer (some ⟨n.b, 0, none⟩)) : Value), undef, ((.slice none 0 0) : Value), (.pointer (some ⟨w.heap.size, 0, none⟩)), (.pointer (some ⟨bx, 0, none⟩)), undef, (.pointer (some ⟨n.b, 0, none⟩)), (.func (.func 85) #[] #[.pointer (some ⟨w.heap.size + 1, 0, none⟩)]), (.agg #[.pointer (some ⟨x.1.b, 0, none⟩), .int .i64 x.2.1, .int .i64 x.2.2]), undef, undef, undef, undef, undef, undef, undef, undef, undef, undef, undef, undef, undef, undef, undef, undef, undef, undef, undef, undef, undef, undef, undef, undef, undef, undef, undef, undef, undef, undef, undef, undef, undef, undef, undef, undef, undef, undef, undef, undef, undef], defers := [] })
    (fun x a' X Y ⟨bx, h1, h2⟩ hat => ⟨bx, hat.keep h1 (by decide), h2⟩) ?assign ?body ?done
  case assign =>
    rintro l m p x Wc ⟨tv, h1, h2, h3⟩ _ hs
    unfold visV Nd.ptr
    gi_wp2_with fail
    exact ⟨⟨Wc.heap.size, heap_alloc_new _ _, rfl⟩, KT.of_below (below_alloc _ _) (by omega), tv, (Below.heap_alloc _ _ _ (by omega)).trans h1, h2.alloc _, h3.alloc h3.size _⟩
  case body =>
    rintro l m p x rs a₁ Wc hxs ⟨tv, h1, h2, h3⟩ ⟨bx, hbx, rfl⟩
    have hmem : x ∈ preN 0 0 n := by rw [hxs]; simp
    have hwin := preN_in n HWF.out 0 0 x hmem
    have hxin : x.1.In w := preN_all (p := fun m => m.In w) (fun m hm => hm.head.2.2) n HIN.out 0 0 x hmem
    have hpl : p.length ≤ 1000 := by
      rw [hxs, List.length_append] at hlen
      omega
    obtain ⟨A, c, htv⟩ := row_any h2
    subst htv
    have hok := Nd.WF.ok _ hwin.wf
    have hnok := Nd.WF.ok _ HWF.out
    have k1 := hwin.ge
    have k2 := hwin.le
    have k3 := hok.ld0
    have k4 := hok.ld1
    have k5 := hnok.bt1
    have hw1 : IntKind.i64.wrap (x.2.1 + x.1.ld) = x.2.1 + x.1.ld := by rw [IntKind.wrap_i64]; omega
    have hw2 : IntKind.i64.wrap (x.2.1 + x.1.bt) = x.2.1 + x.1.bt := by rw [IntKind.wrap_i64]; omega
    have hn1 : w.heap.size ≤ Wc.heap.size := h3.size
    have c0 : Wc.cell? ⟨bx, 0, none⟩ = some (.pointer (some ⟨x.1.b, 0, none⟩)) := cell_of_heap hbx rfl
    have c1 : Wc.cell? ⟨bx, 1, none⟩ = some (.int .i64 x.2.1) := cell_of_heap hbx rfl
    have c2 : Wc.cell? ⟨x.1.b, 2, none⟩ = some (.int .i64 x.1.ld) := (hxin.below h3).cells.c2
    have c3 : Wc.cell? ⟨x.1.b, 1, none⟩ = some (.int .i64 x.1.bt) := (hxin.below h3).cells.c1
    have H1 := Lib.hid h1
    have H2 := Lib.hid h2
    have HBX := Lib.hid hbx
    have HXIN := Lib.hid hxin
    have hl1 := (Array.getElem?_eq_some_iff.1 h1).1
    clear h1 h2 hwin hok hnok hxs hmem hlen hbx hxin
    gi_upto_region 4 with fail
    refine wpIn_region_free (free_round l) (S := fun W => W.cell? ⟨bx, 0, none⟩ = some (.pointer (some ⟨x.1.b, 0, none⟩)) ∧ W.cell? ⟨bx, 1, none⟩ = some (.int .i64 x.2.1) ∧ W.cell? ⟨x.1.b, 2, none⟩ = some (.int .i64 x.1.ld) ∧ W.cell? ⟨x.1.b, 1, none⟩ = some (.int .i64 x.1.bt)) hm (by rfl) ⟨c0, c1, c2, c3⟩ 21 rfl (fun hH => ?_)
    refine AnyL.take (i := 0) (v := ?_) rfl (by kernel_rfl) (by kernel_rfl) (by kernel_rfl) (fun _ _ _ h => h) (Or.inl ⟨by rfl, ?_⟩) hH ?_
    rotate_left
    · (intro w hSw; (try dsimp only at hSw); go_simp; (try with_reducible rfl))
    (try simp only [List.getElem_toArray, List.getElem_cons_succ, List.getElem_cons_zero, Act.put, List.setIfInBounds_toArray, List.set_cons_zero, List.set_cons_succ])
    refine AnyL.take (i := 1) (v := ?_) rfl (by kernel_rfl) (by kernel_rfl) (by kernel_rfl) (fun _ _ _ h => h) (Or.inl ⟨by rfl, ?_⟩) hH ?_
    rotate_left
    · (intro w hSw; (try dsimp only at hSw); go_simp; (try with_reducible rfl))
    (try simp only [List.getElem_toArray, List.getElem_cons_succ, List.getElem_cons_zero, Act.put, List.setIfInBounds_toArray, List.set_cons_zero, List.set_cons_succ])
    refine AnyL.take (i := 2) (v := ?_) rfl (by kernel_rfl) (by kernel_rfl) (by kernel_rfl) (fun _ _ _ h => h) (Or.inl ⟨by rfl, ?_⟩) hH ?_
    rotate_left
    · (intro w hSw; (try dsimp only at hSw); go_simp; (try with_reducible rfl))
    (try simp only [List.getElem_toArray, List.getElem_cons_succ, List.getElem_cons_zero, Act.put, List.setIfInBounds_toArray, List.set_cons_zero, List.set_cons_succ])
    refine AnyL.take (i := 3) (v := ?_) rfl (by kernel_rfl) (by kernel_rfl) (by kernel_rfl) (fun _ _ _ h => h) (Or.inl ⟨by rfl, ?_⟩) hH ?_
    rotate_left
    · (intro w hSw; (try dsimp only at hSw); go_simp; (try with_reducible rfl))
    (try simp only [List.getElem_toArray, List.getElem_cons_succ, List.getElem_cons_zero, Act.put, List.setIfInBounds_toArray, List.set_cons_zero, List.set_cons_succ])
    refine AnyL.take (i := 4) (v := ?_) rfl (by kernel_rfl) (by kernel_rfl) (by kernel_rfl) (fun _ _ _ h => h) (Or.inl ⟨by rfl, ?_⟩) hH ?_
    rotate_left
    · (intro w hSw; (try dsimp only at hSw); go_simp; (try with_reducible rfl))
    (try simp only [List.getElem_toArray, List.getElem_cons_succ, List.getElem_cons_zero, Act.put, List.setIfInBounds_toArray, List.set_cons_zero, List.set_cons_succ])
    refine AnyL.take (i := 5) (v := ?_) rfl (by kernel_rfl) (by kernel_rfl) (by kernel_rfl) (fun _ _ _ h => h) (Or.inl ⟨by rfl, ?_⟩) hH ?_
    rotate_left
    · (intro w hSw; (try dsimp only at hSw); go_simp; (try with_reducible rfl))
    (try simp only [List.getElem_toArray, List.getElem_cons_succ, List.getElem_cons_zero, Act.put, List.setIfInBounds_toArray, List.set_cons_zero, List.set_cons_succ])
    refine AnyL.take (i := 6) (v := ?_) rfl (by kernel_rfl) (by kernel_rfl) (by kernel_rfl) (fun _ _ _ h => h) (Or.inl ⟨by rfl, ?_⟩) hH ?_
    rotate_left
    · (intro w hSw; (try dsimp only at hSw); go_simp; (try with_reducible rfl))
    (try simp only [List.getElem_toArray, List.getElem_cons_succ, List.getElem_cons_zero, Act.put, List.setIfInBounds_toArray, List.set_cons_zero, List.set_cons_succ])
    refine AnyL.take (i := 7) (v := ?_) rfl (by kernel_rfl) (by kernel_rfl) (by kernel_rfl) (fun _ _ _ h => h) (Or.inl ⟨by rfl, ?_⟩) hH ?_
    rotate_left
    · (intro w hSw; (try dsimp only at hSw); go_simp; (try with_reducible rfl))
    (try simp only [List.getElem_toArray, List.getElem_cons_succ, List.getElem_cons_zero, Act.put, List.setIfInBounds_toArray, List.set_cons_zero, List.set_cons_succ])
    refine AnyL.take (i := 8) (v := ?_) rfl (by kernel_rfl) (by kernel_rfl) (by kernel_rfl) (fun _ _ _ h => h) (Or.inl ⟨by rfl, ?_⟩) hH ?_
    rotate_left
    · (intro w hSw; (try dsimp only at hSw); go_simp; (try with_reducible rfl))
    (try simp only [List.getElem_toArray, List.getElem_cons_succ, List.getElem_cons_zero, Act.put, List.setIfInBounds_toArray, List.set_cons_zero, List.set_cons_succ])
    refine AnyL.take (i := 9) (v := ?_) rfl (by kernel_rfl) (by kernel_rfl) (by kernel_rfl) (fun _ _ _ h => h) (Or.inl ⟨by rfl, ?_⟩) hH ?_
    rotate_left
    · (intro w hSw; (try dsimp only at hSw); go_simp; (try with_reducible rfl))
    (try simp only [List.getElem_toArray, List.getElem_cons_succ, List.getElem_cons_zero, Act.put, List.setIfInBounds_toArray, List.set_cons_zero, List.set_cons_succ])
    refine AnyL.take (i := 10) (v := ?_) rfl (by kernel_rfl) (by kernel_rfl) (by kernel_rfl) (fun _ _ _ h => h) (Or.inl ⟨by rfl, ?_⟩) hH ?_
    rotate_left
    · (intro w hSw; (try dsimp only at hSw); go_simp; (try with_reducible rfl))
    (try simp only [List.getElem_toArray, List.getElem_cons_succ, List.getElem_cons_zero, Act.put, List.setIfInBounds_toArray, List.set_cons_zero, List.set_cons_succ])
    refine AnyL.take (i := 11) (v := ?_) rfl (by kernel_rfl) (by kernel_rfl) (by kernel_rfl) (fun _ _ _ h => h) (Or.inl ⟨by rfl, ?_⟩) hH ?_
    rotate_left
    · (intro w hSw; (try dsimp only at hSw); go_simp; (try with_reducible rfl))
    (try simp only [List.getElem_toArray, List.getElem_cons_succ, List.getElem_cons_zero, Act.put, List.setIfInBounds_toArray, List.set_cons_zero, List.set_cons_succ])
    refine AnyL.take (i := 12) (v := ?_) rfl (by kernel_rfl) (by kernel_rfl) (by kernel_rfl) (fun _ _ _ h => h) (Or.inl ⟨by rfl, ?_⟩) hH ?_
    rotate_left
    · (intro w hSw; (try dsimp only at hSw); go_simp; (try with_reducible rfl))
    (try simp only [List.getElem_toArray, List.getElem_cons_succ, List.getElem_cons_zero, Act.put, List.setIfInBounds_toArray, List.set_cons_zero, List.set_cons_succ])
    refine AnyL.take (i := 13) (v := ?_) rfl (by kernel_rfl) (by kernel_rfl) (by kernel_rfl) (fun _ _ _ h => h) (Or.inl ⟨by rfl, ?_⟩) hH ?_
    rotate_left
    · (intro w hSw; (try dsimp only at hSw); go_simp; (try with_reducible rfl))
    (try simp only [List.getElem_toArray, List.getElem_cons_succ, List.getElem_cons_zero, Act.put, List.setIfInBounds_toArray, List.set_cons_zero, List.set_cons_succ])
    refine AnyL.take (i := 14) (v := ?_) rfl (by kernel_rfl) (by kernel_rfl) (by kernel_rfl) (fun _ _ _ h => h) (Or.inl ⟨by rfl, ?_⟩) hH ?_
    rotate_left
    · (intro w hSw; (try dsimp only at hSw); go_simp; (try with_reducible rfl))
    (try simp only [List.getElem_toArray, List.getElem_cons_succ, List.getElem_cons_zero, Act.put, List.setIfInBounds_toArray, List.set_cons_zero, List.set_cons_succ])
    refine AnyL.take (i := 15) (v := ?_) rfl (by kernel_rfl) (by kernel_rfl) (by kernel_rfl) (fun _ _ _ h => h) (Or.inl ⟨by rfl, ?_⟩) hH ?_
    rotate_left
    · (intro w hSw; (try dsimp only at hSw); go_simp; (try with_reducible rfl))
    (try simp only [List.getElem_toArray, List.getElem_cons_succ, List.getElem_cons_zero, Act.put, List.setIfInBounds_toArray, List.set_cons_zero, List.set_cons_succ])
    refine AnyL.take (i := 16) (v := ?_) rfl (by kernel_rfl) (by kernel_rfl) (by kernel_rfl) (fun _ _ _ h => h) (Or.inl ⟨by rfl, ?_⟩) hH ?_
    rotate_left
    · (intro w hSw; (try dsimp only at hSw); go_simp; (try with_reducible rfl))
    (try simp only [List.getElem_toArray, List.getElem_cons_succ, List.getElem_cons_zero, Act.put, List.setIfInBounds_toArray, List.set_cons_zero, List.set_cons_succ])
    refine AnyL.take (i := 17) (v := ?_) rfl (by kernel_rfl) (by kernel_rfl) (by kernel_rfl) (fun _ _ _ h => h) (Or.inl ⟨by rfl, ?_⟩) hH ?_
    rotate_left
    · (intro w hSw; (try dsimp only at hSw); go_simp; (try with_reducible rfl))
    (try simp only [List.getElem_toArray, List.getElem_cons_succ, List.getElem_cons_zero, Act.put, List.setIfInBounds_toArray, List.set_cons_zero, List.set_cons_succ])
    refine AnyL.take (i := 18) (v := ?_) rfl (by kernel_rfl) (by kernel_rfl) (by kernel_rfl) (fun _ _ _ h => h) (Or.inl ⟨by rfl, ?_⟩) hH ?_
    rotate_left
    · (intro w hSw; (try dsimp only at hSw); go_simp; (try with_reducible rfl))
    (try simp only [List.getElem_toArray, List.getElem_cons_succ, List.getElem_cons_zero, Act.put, List.setIfInBounds_toArray, List.set_cons_zero, List.set_cons_succ])
    refine AnyL.step (i := 19) (by kernel_rfl) rfl (fun K hK => ?_)
    (try simp only [List.getElem_toArray, List.getElem_cons_succ, List.getElem_cons_zero])
    go_simp
    refine hK.out _ _ (.inr ⟨Lib.cell?_alloc_some _ c0, Lib.cell?_alloc_some _ c1, Lib.cell?_alloc_some _ c2, Lib.cell?_alloc_some _ c3⟩) ?_
    clear hK K
    (try simp only [List.getElem_toArray, List.getElem_cons_succ, List.getElem_cons_zero, Act.put, List.setIfInBounds_toArray, List.set_cons_zero, List.set_cons_succ])
    refine AnyL.step (i := 20) (by kernel_rfl) rfl (fun K hK => ?_)
    (try simp only [List.getElem_toArray, List.getElem_cons_succ, List.getElem_cons_zero])
    go_simp
    refine hK.out _ _ (.inl (by kernel_rfl)) ?_
    clear hK K
    (try simp only [List.getElem_toArray, List.getElem_cons_succ, List.getElem_cons_zero, Act.put, List.setIfInBounds_toArray, List.set_cons_zero, List.set_cons_succ])
    refine AnyL.done (by kernel_rfl) ?_ _
    dsimp only [OnNormal]
    clear c0 c1 c2 c3 hw1 hw2 hH
    have hw7 : ∀ w7, w7 = (Wc.alloc (.cells #[.int .i64 (x.2.1 + x.1.ld), .int .i64 (x.2.1 + x.1.bt)] 64)).drew → Below Wc.heap.size Wc w7 ∧ w7.heap[Wc.heap.size]? = some (.cells #[.int .i64 (x.2.1 + x.1.ld), .int .i64 (x.2.1 + x.1.bt)] 64 (0, 0)) := by
      rintro w7 rfl
      exact ⟨(below_alloc _ _).drew, heap_alloc_new Wc _⟩
    obtain ⟨hb7, hs7⟩ := hw7 _ rfl
    generalize (Wc.alloc (.cells #[.int .i64 (x.2.1 + x.1.ld), .int .i64 (x.2.1 + x.1.bt)] 64)).drew = w7 at *
    have e2 : w7.cell? ⟨bx, 2, none⟩ = some (.int .i64 x.2.2) := cell_of_heap ((hb7.block _ (Array.getElem?_eq_some_iff.1 HBX.out).1).trans HBX.out) rfl
    have e3 : w7.cell? ⟨Wc.heap.size, 0, none⟩ = some (.int .i64 (x.2.1 + x.1.ld)) := cell_of_heap hs7 rfl
    have e4 : w7.frozen? ⟨Wc.heap.size, 0, none⟩ = false := frozen_of_heap hs7
    have HS7 := Lib.hid hs7
    clear hw7 hs7
    by_cases hd : x.2.2 = 0
    · have hq : (x.2.2 == 0) = true := by rw [hd]; rfl
      have HD := Lib.hid hd
      clear hd
      gi_upto_region 7 with fail
      have hs8 := setCell_heap (i := 0) HS7.out (.int .i64 0)
      have hb8 := hb7.setCell (p := ⟨Wc.heap.size, 0, none⟩) (Nat.le_refl _) (.int .i64 0)
      obtain ⟨fa, hfa⟩ : ∃ fa, fa = (0 : Int) := ⟨_, rfl⟩
      have HFA := Lib.hid (show spotV x = ⟨x.1.sy, x.1.pr, fa, x.2.1 + x.1.bt, x.2.2⟩ by unfold spotV; rw [if_pos HD.out, hfa])
      rw [← hfa] at hs8 hb8 ⊢
      clear hfa e2 e3 e4 HS7 HD hq
      generalize w7.setCell ⟨Wc.heap.size, 0, none⟩ (.int .i64 fa) = W8 at *
      have hb8l := hb8.size
      have hl8 := Nat.lt_of_lt_of_le hl1 hb8.size
      have E1 := Lib.hid ((hb8.block _ hl1).trans H1.out)
      have R2 := Lib.hid (ownsRow_of_block H2.out (w' := W8) (fun k hk => hb8.block k (H2.out.lt k hk).2))
      have EX := Lib.hid ((hb8.block _ (Array.getElem?_eq_some_iff.1 HBX.out).1).trans HBX.out)
      have E3 := Lib.hid (h3.trans (hb8.mono hn1))
      have hlx : bx < W8.heap.size := (Array.getElem?_eq_some_iff.1 EX.out).1
      have hls : Wc.heap.size < W8.heap.size := (Array.getElem?_eq_some_iff.1 hs8).1
      have hlb : x.1.b < W8.heap.size := World.block_lt_of_cell? W8 _ (HXIN.out.below E3.out).cells.c4
      have f0 : W8.cell? ⟨w.heap.size, 0, none⟩ = some (.slice A p.length c) := cell_of_heap E1.out rfl
      have f1 : W8.cell? ⟨bx, 0, none⟩ = some (.pointer (some ⟨x.1.b, 0, none⟩)) := cell_of_heap EX.out rfl
      have f2 : W8.cell? ⟨bx, 2, none⟩ = some (.int .i64 x.2.2) := cell_of_heap EX.out rfl
      have f3 : W8.cell? ⟨x.1.b, 4, none⟩ = some (.int .i64 x.1.sy) := (HXIN.out.below E3.out).cells.c4
      have f4 : W8.cell? ⟨x.1.b, 5, none⟩ = some (.int .i64 x.1.pr) := (HXIN.out.below E3.out).cells.c5
      have f5 : W8.cell? ⟨Wc.heap.size, 0, none⟩ = some (.int .i64 fa) := cell_of_heap hs8 rfl
      have f6 : W8.cell? ⟨Wc.heap.size, 1, none⟩ = some (.int .i64 (x.2.1 + x.1.bt)) := cell_of_heap hs8 rfl
      have HS8 := Lib.hid hs8
      have HX4 := Lib.hid (HXIN.out.below E3.out).cells
      clear hs8
      refine wpIn_region_free (free_round l) (S := fun W => W.cell? ⟨w.heap.size, 0, none⟩ = some (.slice A p.length c) ∧ W.cell? ⟨bx, 0, none⟩ = some (.pointer (some ⟨x.1.b, 0, none⟩)) ∧ W.cell? ⟨bx, 2, none⟩ = some (.int .i64 x.2.2) ∧ W.cell? ⟨x.1.b, 4, none⟩ = some (.int .i64 x.1.sy) ∧ W.cell? ⟨x.1.b, 5, none⟩ = some (.int .i64 x.1.pr) ∧ W.cell? ⟨Wc.heap.size, 0, none⟩ = some (.int .i64 fa) ∧ W.cell? ⟨Wc.heap.size, 1, none⟩ = some (.int .i64 (x.2.1 + x.1.bt))) hm (by rfl) ⟨f0, f1, f2, f3, f4, f5, f6⟩ 18 rfl (fun hH => ?_)
      refine AnyL.take (i := 0) (v := ?_) rfl (by kernel_rfl) (by kernel_rfl) (by kernel_rfl) (fun _ _ _ h => h) (Or.inl ⟨by rfl, ?_⟩) hH ?_
      rotate_left
      · (intro w hSw; (try dsimp only at hSw); go_simp; (try with_reducible rfl))
      (try simp only [List.getElem_toArray, List.getElem_cons_succ, List.getElem_cons_zero, Act.put, List.setIfInBounds_toArray, List.set_cons_zero, List.set_cons_succ])
      refine AnyL.take (i := 1) (v := ?_) rfl (by kernel_rfl) (by kernel_rfl) (by kernel_rfl) (fun _ _ _ h => h) (Or.inl ⟨by rfl, ?_⟩) hH ?_
      rotate_left
      · (intro w hSw; (try dsimp only at hSw); go_simp; (try with_reducible rfl))
      (try simp only [List.getElem_toArray, List.getElem_cons_succ, List.getElem_cons_zero, Act.put, List.setIfInBounds_toArray, List.set_cons_zero, List.set_cons_succ])
      refine AnyL.take (i := 2) (v := ?_) rfl (by kernel_rfl) (by kernel_rfl) (by kernel_rfl) (fun _ _ _ h => h) (Or.inl ⟨by rfl, ?_⟩) hH ?_
      rotate_left
      · (intro w hSw; (try dsimp only at hSw); go_simp; (try with_reducible rfl))
      (try simp only [List.getElem_toArray, List.getElem_cons_succ, List.getElem_cons_zero, Act.put, List.setIfInBounds_toArray, List.set_cons_zero, List.set_cons_succ])
      refine AnyL.take (i := 3) (v := ?_) rfl (by kernel_rfl) (by kernel_rfl) (by kernel_rfl) (fun _ _ _ h => h) (Or.inl ⟨by rfl, ?_⟩) hH ?_
      rotate_left
      · (intro w hSw; (try dsimp only at hSw); go_simp; (try with_reducible rfl))
      (try simp only [List.getElem_toArray, List.getElem_cons_succ, List.getElem_cons_zero, Act.put, List.setIfInBounds_toArray, List.set_cons_zero, List.set_cons_succ])
      refine AnyL.take (i := 4) (v := ?_) rfl (by kernel_rfl) (by kernel_rfl) (by kernel_rfl) (fun _ _ _ h => h) (Or.inl ⟨by rfl, ?_⟩) hH ?_
      rotate_left
      · (intro w hSw; (try dsimp only at hSw); go_simp; (try with_reducible rfl))
      (try simp only [List.getElem_toArray, List.getElem_cons_succ, List.getElem_cons_zero, Act.put, List.setIfInBounds_toArray, List.set_cons_zero, List.set_cons_succ])
      refine AnyL.take (i := 5) (v := ?_) rfl (by kernel_rfl) (by kernel_rfl) (by kernel_rfl) (fun _ _ _ h => h) (Or.inl ⟨by rfl, ?_⟩) hH ?_
      rotate_left
      · (intro w hSw; (try dsimp only at hSw); go_simp; (try with_reducible rfl))
      (try simp only [List.getElem_toArray, List.getElem_cons_succ, List.getElem_cons_zero, Act.put, List.setIfInBounds_toArray, List.set_cons_zero, List.set_cons_succ])
      refine AnyL.take (i := 6) (v := ?_) rfl (by kernel_rfl) (by kernel_rfl) (by kernel_rfl) (fun _ _ _ h => h) (Or.inl ⟨by rfl, ?_⟩) hH ?_
      rotate_left
      · (intro w hSw; (try dsimp only at hSw); go_simp; (try with_reducible rfl))
      (try simp only [List.getElem_toArray, List.getElem_cons_succ, List.getElem_cons_zero, Act.put, List.setIfInBounds_toArray, List.set_cons_zero, List.set_cons_succ])
      refine AnyL.take (i := 7) (v := ?_) rfl (by kernel_rfl) (by kernel_rfl) (by kernel_rfl) (fun _ _ _ h => h) (Or.inl ⟨by rfl, ?_⟩) hH ?_
      rotate_left
      · (intro w hSw; (try dsimp only at hSw); go_simp; (try with_reducible rfl))
      (try simp only [List.getElem_toArray, List.getElem_cons_succ, List.getElem_cons_zero, Act.put, List.setIfInBounds_toArray, List.set_cons_zero, List.set_cons_succ])
      refine AnyL.take (i := 8) (v := ?_) rfl (by kernel_rfl) (by kernel_rfl) (by kernel_rfl) (fun _ _ _ h => h) (Or.inl ⟨by rfl, ?_⟩) hH ?_
      rotate_left
      · (intro w hSw; (try dsimp only at hSw); go_simp; (try with_reducible rfl))
      (try simp only [List.getElem_toArray, List.getElem_cons_succ, List.getElem_cons_zero, Act.put, List.setIfInBounds_toArray, List.set_cons_zero, List.set_cons_succ])
      refine AnyL.take (i := 9) (v := ?_) rfl (by kernel_rfl) (by kernel_rfl) (by kernel_rfl) (fun _ _ _ h => h) (Or.inl ⟨by rfl, ?_⟩) hH ?_
      rotate_left
      · (intro w hSw; (try dsimp only at hSw); go_simp; (try with_reducible rfl))
      (try simp only [List.getElem_toArray, List.getElem_cons_succ, List.getElem_cons_zero, Act.put, List.setIfInBounds_toArray, List.set_cons_zero, List.set_cons_succ])
      refine AnyL.take (i := 10) (v := ?_) rfl (by kernel_rfl) (by kernel_rfl) (by kernel_rfl) (fun _ _ _ h => h) (Or.inl ⟨by rfl, ?_⟩) hH ?_
      rotate_left
      · (intro w hSw; (try dsimp only at hSw); go_simp; (try with_reducible rfl))
      (try simp only [List.getElem_toArray, List.getElem_cons_succ, List.getElem_cons_zero, Act.put, List.setIfInBounds_toArray, List.set_cons_zero, List.set_cons_succ])
      refine AnyL.take (i := 11) (v := ?_) rfl (by kernel_rfl) (by kernel_rfl) (by kernel_rfl) (fun _ _ _ h => h) (Or.inl ⟨by rfl, ?_⟩) hH ?_
      rotate_left
      · (intro w hSw; (try dsimp only at hSw); go_simp; (try with_reducible rfl))
      (try simp only [List.getElem_toArray, List.getElem_cons_succ, List.getElem_cons_zero, Act.put, List.setIfInBounds_toArray, List.set_cons_zero, List.set_cons_succ])
      refine AnyL.take (i := 12) (v := ?_) rfl (by kernel_rfl) (by kernel_rfl) (by kernel_rfl) (fun _ _ _ h => h) (Or.inl ⟨by rfl, ?_⟩) hH ?_
      rotate_left
      · (intro w hSw; (try dsimp only at hSw); go_simp; (try with_reducible rfl))
      (try simp only [List.getElem_toArray, List.getElem_cons_succ, List.getElem_cons_zero, Act.put, List.setIfInBounds_toArray, List.set_cons_zero, List.set_cons_succ])
      refine AnyL.take (i := 13) (v := ?_) rfl (by kernel_rfl) (by kernel_rfl) (by kernel_rfl) (fun _ _ _ h => h) (Or.inl ⟨by rfl, ?_⟩) hH ?_
      rotate_left
      · (intro w hSw; (try dsimp only at hSw); go_simp; (try with_reducible rfl))
      (try simp only [List.getElem_toArray, List.getElem_cons_succ, List.getElem_cons_zero, Act.put, List.setIfInBounds_toArray, List.set_cons_zero, List.set_cons_succ])
      refine AnyL.take (i := 14) (v := ?_) rfl (by kernel_rfl) (by kernel_rfl) (by kernel_rfl) (fun _ _ _ h => h) (Or.inl ⟨by rfl, ?_⟩) hH ?_
      rotate_left
      · (intro w hSw; (try dsimp only at hSw); go_simp; (try with_reducible rfl))
      (try simp only [List.getElem_toArray, List.getElem_cons_succ, List.getElem_cons_zero, Act.put, List.setIfInBounds_toArray, List.set_cons_zero, List.set_cons_succ])
      refine AnyL.step (i := 15) (by kernel_rfl) rfl (fun K hK => ?_)
      (try simp only [List.getElem_toArray, List.getElem_cons_succ, List.getElem_cons_zero])
      go_simp
      refine hK.out _ _ (.inr ⟨Lib.cell?_alloc_some _ f0, Lib.cell?_alloc_some _ f1, Lib.cell?_alloc_some _ f2, Lib.cell?_alloc_some _ f3, Lib.cell?_alloc_some _ f4, Lib.cell?_alloc_some _ f5, Lib.cell?_alloc_some _ f6⟩) ?_
      clear hK K
      (try simp only [List.getElem_toArray, List.getElem_cons_succ, List.getElem_cons_zero, Act.put, List.setIfInBounds_toArray, List.set_cons_zero, List.set_cons_succ])
      refine AnyL.step (i := 16) (by kernel_rfl) rfl (fun K hK => ?_)
      (try simp only [List.getElem_toArray, List.getElem_cons_succ, List.getElem_cons_zero])
      rw [if_pos (by rfl)]
      refine wp_push (.tmp 32) (.tmp 47) 50 rfl 66 _ 5 40 info66 Try.underlying50 rfl (by decide) w.heap.size (.slice A p.length c) p.length (spots (p.map spotV)) (by simp [Act.eval, Act.put]) (R2.out.alloc _) W8.heap.size [.int .i64 x.1.sy, .int .i64 x.1.pr, .int .i64 fa, .int .i64 (x.2.1 + x.1.bt), .int .i64 x.2.2] (by simp [Act.eval, Act.put]) (heap_alloc_new W8 _) rfl (by simp [Value.oneCell']) (by omega) (by omega) (by simp; omega) ?_
      intro g9 c9 W9 hown9 hgr9
      have far : ∀ k, k < W8.heap.size → some k ≠ (Value.slice A p.length c).ownBlock → W9.heap[k]? = W8.heap[k]? := fun k hk hne => (hgr9.far k (by simp; omega) hne).trans (Below.heap_alloc _ _ _ hk)
      have G9 := (far _ hl8 (own_ne R2.out E1.out (by decide))).trans E1.out
      have GX := (far _ hlx (own_ne R2.out EX.out (by decide))).trans EX.out
      have GS := (far _ hls (own_ne R2.out HS8.out (by decide))).trans HS8.out
      have hb89 : Below w.heap.size w W9 := E3.out.trans ((((below_alloc W8 _).mono (by omega)).drew : Below w.heap.size W8 (W8.alloc (.cells #[.int .i64 x.1.sy, .int .i64 x.1.pr, .int .i64 fa, .int .i64 (x.2.1 + x.1.bt), .int .i64 x.2.2] 66)).drew).trans hgr9.below)
      have GN := (HXIN.out.below hb89).cells
      have g0 : W9.cell? ⟨w.heap.size, 0, none⟩ = some (.slice A p.length c) := cell_of_heap G9 rfl
      have z9 : W9.frozen? ⟨w.heap.size, 0, none⟩ = false := frozen_of_heap G9
      have HG9 := Lib.hid G9
      have HOWN9 := Lib.hid hown9
      have HGR9 := Lib.hid hgr9
      have hS9 := Lib.hid (show W9.cell? ⟨bx, 0, none⟩ = some (.pointer (some ⟨x.1.b, 0, none⟩)) ∧ W9.cell? ⟨bx, 2, none⟩ = some (.int .i64 x.2.2) ∧ W9.cell? ⟨x.1.b, 4, none⟩ = some (.int .i64 x.1.sy) ∧ W9.cell? ⟨x.1.b, 5, none⟩ = some (.int .i64 x.1.pr) ∧ W9.cell? ⟨Wc.heap.size, 0, none⟩ = some (.int .i64 fa) ∧ W9.cell? ⟨Wc.heap.size, 1, none⟩ = some (.int .i64 (x.2.1 + x.1.bt)) from ⟨cell_of_heap GX rfl, cell_of_heap GX rfl, GN.c4, GN.c5, cell_of_heap GS rfl, cell_of_heap GS rfl⟩)
      clear G9 hown9 hgr9 GX GS GN far
      refine hK.out _ _ (.inr ⟨g0, hS9.out⟩) ?_
      clear hK K
      (try simp only [List.getElem_toArray, List.getElem_cons_succ, List.getElem_cons_zero, Act.put, List.setIfInBounds_toArray, List.set_cons_zero, List.set_cons_succ])
      refine AnyL.step (i := 17) (by kernel_rfl) rfl (fun K hK => ?_)
      (try simp only [List.getElem_toArray, List.getElem_cons_succ, List.getElem_cons_zero])
      go_simp
      refine hK.out _ _ (.inl (by kernel_rfl)) ?_
      clear hK K
      (try simp only [List.getElem_toArray, List.getElem_cons_succ, List.getElem_cons_zero, Act.put, List.setIfInBounds_toArray, List.set_cons_zero, List.set_cons_succ])
      refine AnyL.done (by kernel_rfl) ?_ _
      dsimp only [OnNormal]
      have kt8 : KT [33, 120, 136, 3, 45] w.heap.size Wc (W8.alloc (.cells #[.int .i64 x.1.sy, .int .i64 x.1.pr, .int .i64 fa, .int .i64 (x.2.1 + x.1.bt), .int .i64 x.2.2] 66)).drew := KT.of_below (hb8.trans ((below_alloc W8 (.cells #[.int .i64 x.1.sy, .int .i64 x.1.pr, .int .i64 fa, .int .i64 (x.2.1 + x.1.bt), .int .i64 x.2.2] 66)).drew.mono hb8l)) hn1
      have kt := (kt8.grew HGR9.out ((R2.out.alloc (.cells #[.int .i64 x.1.sy, .int .i64 x.1.pr, .int .i64 fa, .int .i64 (x.2.1 + x.1.bt), .int .i64 x.2.2] 66)).drew) (by decide)).setCell (p := ⟨w.heap.size, 0, none⟩) (Nat.le_refl _) HG9.out (by decide) (.slice (some ⟨g9, 0, none⟩) (p.length + 1) c9)
      show KT _ _ _ _ ∧ _
      refine ⟨kt, _, setCell_heap (i := 0) HG9.out _, ?_, h3.trans kt.below⟩
      rw [List.map_append, List.length_append]
      have e1 : spots (p.map spotV ++ [x].map spotV) = spots (p.map spotV) ++ [.int .i64 x.1.sy, .int .i64 x.1.pr, .int .i64 fa, .int .i64 (x.2.1 + x.1.bt), .int .i64 x.2.2] := by
        unfold spots
        rw [List.flatMap_append, List.map_singleton, List.flatMap_singleton, HFA.out]
        rfl
      rw [e1]
      exact ownsRow_of_block HOWN9.out (fun k hk => Below.heap_setCell _ _ _ _ (fun e => own_ne HOWN9.out HG9.out (by decide) (by rw [hk]; exact congrArg some e.symm)))
    · have hq : (x.2.2 == 0) = false := beq_eq_false_iff_ne.2 hd
      have HD := Lib.hid hd
      clear hd
      gi_upto_region 7 with fail
      have hs8 := HS7.out
      have hb8 := hb7
      obtain ⟨fa, hfa⟩ : ∃ fa, fa = x.2.1 + x.1.ld := ⟨_, rfl⟩
      have HFA := Lib.hid (show spotV x = ⟨x.1.sy, x.1.pr, fa, x.2.1 + x.1.bt, x.2.2⟩ by unfold spotV; rw [if_neg HD.out, hfa])
      rw [← hfa] at hs8
      clear hfa e2 e3 e4 HS7 HD hq hb7
      obtain ⟨W8, hW8⟩ : ∃ W8, W8 = w7 := ⟨_, rfl⟩
      rw [← hW8] at hs8 hb8 ⊢
      clear hW8
      have hb8l := hb8.size
      have hl8 := Nat.lt_of_lt_of_le hl1 hb8.size
      have E1 := Lib.hid ((hb8.block _ hl1).trans H1.out)
      have R2 := Lib.hid (ownsRow_of_block H2.out (w' := W8) (fun k hk => hb8.block k (H2.out.lt k hk).2))
      have EX := Lib.hid ((hb8.block _ (Array.getElem?_eq_some_iff.1 HBX.out).1).trans HBX.out)
      have E3 := Lib.hid (h3.trans (hb8.mono hn1))
      have hlx : bx < W8.heap.size := (Array.getElem?_eq_some_iff.1 EX.out).1
      have hls : Wc.heap.size < W8.heap.size := (Array.getElem?_eq_some_iff.1 hs8).1
      have hlb : x.1.b < W8.heap.size := World.block_lt_of_cell? W8 _ (HXIN.out.below E3.out).cells.c4
      have f0 : W8.cell? ⟨w.heap.size, 0, none⟩ = some (.slice A p.length c) := cell_of_heap E1.out rfl
      have f1 : W8.cell? ⟨bx, 0, none⟩ = some (.pointer (some ⟨x.1.b, 0, none⟩)) := cell_of_heap EX.out rfl
      have f2 : W8.cell? ⟨bx, 2, none⟩ = some (.int .i64 x.2.2) := cell_of_heap EX.out rfl
      have f3 : W8.cell? ⟨x.1.b, 4, none⟩ = some (.int .i64 x.1.sy) := (HXIN.out.below E3.out).cells.c4
      have f4 : W8.cell? ⟨x.1.b, 5, none⟩ = some (.int .i64 x.1.pr) := (HXIN.out.below E3.out).cells.c5
      have f5 : W8.cell? ⟨Wc.heap.size, 0, none⟩ = some (.int .i64 fa) := cell_of_heap hs8 rfl
      have f6 : W8.cell? ⟨Wc.heap.size, 1, none⟩ = some (.int .i64 (x.2.1 + x.1.bt)) := cell_of_heap hs8 rfl
      have HS8 := Lib.hid hs8
      have HX4 := Lib.hid (HXIN.out.below E3.out).cells
      clear hs8
      refine wpIn_region_free (free_round l) (S := fun W => W.cell? ⟨w.heap.size, 0, none⟩ = some (.slice A p.length c) ∧ W.cell? ⟨bx, 0, none⟩ = some (.pointer (some ⟨x.1.b, 0, none⟩)) ∧ W.cell? ⟨bx, 2, none⟩ = some (.int .i64 x.2.2) ∧ W.cell? ⟨x.1.b, 4, none⟩ = some (.int .i64 x.1.sy) ∧ W.cell? ⟨x.1.b, 5, none⟩ = some (.int .i64 x.1.pr) ∧ W.cell? ⟨Wc.heap.size, 0, none⟩ = some (.int .i64 fa) ∧ W.cell? ⟨Wc.heap.size, 1, none⟩ = some (.int .i64 (x.2.1 + x.1.bt))) hm (by rfl) ⟨f0, f1, f2, f3, f4, f5, f6⟩ 18 rfl (fun hH => ?_)
      refine AnyL.take (i := 0) (v := ?_) rfl (by kernel_rfl) (by kernel_rfl) (by kernel_rfl) (fun _ _ _ h => h) (Or.inl ⟨by rfl, ?_⟩) hH ?_
      rotate_left
      · (intro w hSw; (try dsimp only at hSw); go_simp; (try with_reducible rfl))
      (try simp only [List.getElem_toArray, List.getElem_cons_succ, List.getElem_cons_zero, Act.put, List.setIfInBounds_toArray, List.set_cons_zero, List.set_cons_succ])
      refine AnyL.take (i := 1) (v := ?_) rfl (by kernel_rfl) (by kernel_rfl) (by kernel_rfl) (fun _ _ _ h => h) (Or.inl ⟨by rfl, ?_⟩) hH ?_
      rotate_left
      · (intro w hSw; (try dsimp only at hSw); go_simp; (try with_reducible rfl))
      (try simp only [List.getElem_toArray, List.getElem_cons_succ, List.getElem_cons_zero, Act.put, List.setIfInBounds_toArray, List.set_cons_zero, List.set_cons_succ])
      refine AnyL.take (i := 2) (v := ?_) rfl (by kernel_rfl) (by kernel_rfl) (by kernel_rfl) (fun _ _ _ h => h) (Or.inl ⟨by rfl, ?_⟩) hH ?_
      rotate_left
      · (intro w hSw; (try dsimp only at hSw); go_simp; (try with_reducible rfl))
      (try simp only [List.getElem_toArray, List.getElem_cons_succ, List.getElem_cons_zero, Act.put, List.setIfInBounds_toArray, List.set_cons_zero, List.set_cons_succ])
      refine AnyL.take (i := 3) (v := ?_) rfl (by kernel_rfl) (by kernel_rfl) (by kernel_rfl) (fun _ _ _ h => h) (Or.inl ⟨by rfl, ?_⟩) hH ?_
      rotate_left
      · (intro w hSw; (try dsimp only at hSw); go_simp; (try with_reducible rfl))
      (try simp only [List.getElem_toArray, List.getElem_cons_succ, List.getElem_cons_zero, Act.put, List.setIfInBounds_toArray, List.set_cons_zero, List.set_cons_succ])
      refine AnyL.take (i := 4) (v := ?_) rfl (by kernel_rfl) (by kernel_rfl) (by kernel_rfl) (fun _ _ _ h => h) (Or.inl ⟨by rfl, ?_⟩) hH ?_
      rotate_left
      · (intro w hSw; (try dsimp only at hSw); go_simp; (try with_reducible rfl))
      (try simp only [List.getElem_toArray, List.getElem_cons_succ, List.getElem_cons_zero, Act.put, List.setIfInBounds_toArray, List.set_cons_zero, List.set_cons_succ])
      refine AnyL.take (i := 5) (v := ?_) rfl (by kernel_rfl) (by kernel_rfl) (by kernel_rfl) (fun _ _ _ h => h) (Or.inl ⟨by rfl, ?_⟩) hH ?_
      rotate_left
      · (intro w hSw; (try dsimp only at hSw); go_simp; (try with_reducible rfl))
      (try simp only [List.getElem_toArray, List.getElem_cons_succ, List.getElem_cons_zero, Act.put, List.setIfInBounds_toArray, List.set_cons_zero, List.set_cons_succ])
      refine AnyL.take (i := 6) (v := ?_) rfl (by kernel_rfl) (by kernel_rfl) (by kernel_rfl) (fun _ _ _ h => h) (Or.inl ⟨by rfl, ?_⟩) hH ?_
      rotate_left
      · (intro w hSw; (try dsimp only at hSw); go_simp; (try with_reducible rfl))
      (try simp only [List.getElem_toArray, List.getElem_cons_succ, List.getElem_cons_zero, Act.put, List.setIfInBounds_toArray, List.set_cons_zero, List.set_cons_succ])
      refine AnyL.take (i := 7) (v := ?_) rfl (by kernel_rfl) (by kernel_rfl) (by kernel_rfl) (fun _ _ _ h => h) (Or.inl ⟨by rfl, ?_⟩) hH ?_
      rotate_left
      · (intro w hSw; (try dsimp only at hSw); go_simp; (try with_reducible rfl))
      (try simp only [List.getElem_toArray, List.getElem_cons_succ, List.getElem_cons_zero, Act.put, List.setIfInBounds_toArray, List.set_cons_zero, List.set_cons_succ])
      refine AnyL.take (i := 8) (v := ?_) rfl (by kernel_rfl) (by kernel_rfl) (by kernel_rfl) (fun _ _ _ h => h) (Or.inl ⟨by rfl, ?_⟩) hH ?_
      rotate_left
      · (intro w hSw; (try dsimp only at hSw); go_simp; (try with_reducible rfl))
      (try simp only [List.getElem_toArray, List.getElem_cons_succ, List.getElem_cons_zero, Act.put, List.setIfInBounds_toArray, List.set_cons_zero, List.set_cons_succ])
      refine AnyL.take (i := 9) (v := ?_) rfl (by kernel_rfl) (by kernel_rfl) (by kernel_rfl) (fun _ _ _ h => h) (Or.inl ⟨by rfl, ?_⟩) hH ?_
      rotate_left
      · (intro w hSw; (try dsimp only at hSw); go_simp; (try with_reducible rfl))
      (try simp only [List.getElem_toArray, List.getElem_cons_succ, List.getElem_cons_zero, Act.put, List.setIfInBounds_toArray, List.set_cons_zero, List.set_cons_succ])
      refine AnyL.take (i := 10) (v := ?_) rfl (by kernel_rfl) (by kernel_rfl) (by kernel_rfl) (fun _ _ _ h => h) (Or.inl ⟨by rfl, ?_⟩) hH ?_
      rotate_left
      · (intro w hSw; (try dsimp only at hSw); go_simp; (try with_reducible rfl))
      (try simp only [List.getElem_toArray, List.getElem_cons_succ, List.getElem_cons_zero, Act.put, List.setIfInBounds_toArray, List.set_cons_zero, List.set_cons_succ])
      refine AnyL.take (i := 11) (v := ?_) rfl (by kernel_rfl) (by kernel_rfl) (by kernel_rfl) (fun _ _ _ h => h) (Or.inl ⟨by rfl, ?_⟩) hH ?_
      rotate_left
      · (intro w hSw; (try dsimp only at hSw); go_simp; (try with_reducible rfl))
      (try simp only [List.getElem_toArray, List.getElem_cons_succ, List.getElem_cons_zero, Act.put, List.setIfInBounds_toArray, List.set_cons_zero, List.set_cons_succ])
      refine AnyL.take (i := 12) (v := ?_) rfl (by kernel_rfl) (by kernel_rfl) (by kernel_rfl) (fun _ _ _ h => h) (Or.inl ⟨by rfl, ?_⟩) hH ?_
      rotate_left
      · (intro w hSw; (try dsimp only at hSw); go_simp; (try with_reducible rfl))
      (try simp only [List.getElem_toArray, List.getElem_cons_succ, List.getElem_cons_zero, Act.put, List.setIfInBounds_toArray, List.set_cons_zero, List.set_cons_succ])
      refine AnyL.take (i := 13) (v := ?_) rfl (by kernel_rfl) (by kernel_rfl) (by kernel_rfl) (fun _ _ _ h => h) (Or.inl ⟨by rfl, ?_⟩) hH ?_
      rotate_left
      · (intro w hSw; (try dsimp only at hSw); go_simp; (try with_reducible rfl))
      (try simp only [List.getElem_toArray, List.getElem_cons_succ, List.getElem_cons_zero, Act.put, List.setIfInBounds_toArray, List.set_cons_zero, List.set_cons_succ])
      refine AnyL.take (i := 14) (v := ?_) rfl (by kernel_rfl) (by kernel_rfl) (by kernel_rfl) (fun _ _ _ h => h) (Or.inl ⟨by rfl, ?_⟩) hH ?_
      rotate_left
      · (intro w hSw; (try dsimp only at hSw); go_simp; (try with_reducible rfl))
      (try simp only [List.getElem_toArray, List.getElem_cons_succ, List.getElem_cons_zero, Act.put, List.setIfInBounds_toArray, List.set_cons_zero, List.set_cons_succ])
      refine AnyL.step (i := 15) (by kernel_rfl) rfl (fun K hK => ?_)
      (try simp only [List.getElem_toArray, List.getElem_cons_succ, List.getElem_cons_zero])
      go_simp
      refine hK.out _ _ (.inr ⟨Lib.cell?_alloc_some _ f0, Lib.cell?_alloc_some _ f1, Lib.cell?_alloc_some _ f2, Lib.cell?_alloc_some _ f3, Lib.cell?_alloc_some _ f4, Lib.cell?_alloc_some _ f5, Lib.cell?_alloc_some _ f6⟩) ?_
      clear hK K
      (try simp only [List.getElem_toArray, List.getElem_cons_succ, List.getElem_cons_zero, Act.put, List.setIfInBounds_toArray, List.set_cons_zero, List.set_cons_succ])
      refine AnyL.step (i := 16) (by kernel_rfl) rfl (fun K hK => ?_)
      (try simp only [List.getElem_toArray, List.getElem_cons_succ, List.getElem_cons_zero])
      rw [if_pos (by rfl)]
      refine wp_push (.tmp 32) (.tmp 47) 50 rfl 66 _ 5 40 info66 Try.underlying50 rfl (by decide) w.heap.size (.slice A p.length c) p.length (spots (p.map spotV)) (by simp [Act.eval, Act.put]) (R2.out.alloc _) W8.heap.size [.int .i64 x.1.sy, .int .i64 x.1.pr, .int .i64 fa, .int .i64 (x.2.1 + x.1.bt), .int .i64 x.2.2] (by simp [Act.eval, Act.put]) (heap_alloc_new W8 _) rfl (by simp [Value.oneCell']) (by omega) (by omega) (by simp; omega) ?_
      intro g9 c9 W9 hown9 hgr9
      have far : ∀ k, k < W8.heap.size → some k ≠ (Value.slice A p.length c).ownBlock → W9.heap[k]? = W8.heap[k]? := fun k hk hne => (hgr9.far k (by simp; omega) hne).trans (Below.heap_alloc _ _ _ hk)
      have G9 := (far _ hl8 (own_ne R2.out E1.out (by decide))).trans E1.out
      have GX := (far _ hlx (own_ne R2.out EX.out (by decide))).trans EX.out
      have GS := (far _ hls (own_ne R2.out HS8.out (by decide))).trans HS8.out
      have hb89 : Below w.heap.size w W9 := E3.out.trans ((((below_alloc W8 _).mono (by omega)).drew : Below w.heap.size W8 (W8.alloc (.cells #[.int .i64 x.1.sy, .int .i64 x.1.pr, .int .i64 fa, .int .i64 (x.2.1 + x.1.bt), .int .i64 x.2.2] 66)).drew).trans hgr9.below)
      have GN := (HXIN.out.below hb89).cells
      have g0 : W9.cell? ⟨w.heap.size, 0, none⟩ = some (.slice A p.length c) := cell_of_heap G9 rfl
      have z9 : W9.frozen? ⟨w.heap.size, 0, none⟩ = false := frozen_of_heap G9
      have HG9 := Lib.hid G9
      have HOWN9 := Lib.hid hown9
      have HGR9 := Lib.hid hgr9
      have hS9 := Lib.hid (show W9.cell? ⟨bx, 0, none⟩ = some (.pointer (some ⟨x.1.b, 0, none⟩)) ∧ W9.cell? ⟨bx, 2, none⟩ = some (.int .i64 x.2.2) ∧ W9.cell? ⟨x.1.b, 4, none⟩ = some (.int .i64 x.1.sy) ∧ W9.cell? ⟨x.1.b, 5, none⟩ = some (.int .i64 x.1.pr) ∧ W9.cell? ⟨Wc.heap.size, 0, none⟩ = some (.int .i64 fa) ∧ W9.cell? ⟨Wc.heap.size, 1, none⟩ = some (.int .i64 (x.2.1 + x.1.bt)) from ⟨cell_of_heap GX rfl, cell_of_heap GX rfl, GN.c4, GN.c5, cell_of_heap GS rfl, cell_of_heap GS rfl⟩)
      clear G9 hown9 hgr9 GX GS GN far
      refine hK.out _ _ (.inr ⟨g0, hS9.out⟩) ?_
      clear hK K
      (try simp only [List.getElem_toArray, List.getElem_cons_succ, List.getElem_cons_zero, Act.put, List.setIfInBounds_toArray, List.set_cons_zero, List.set_cons_succ])
      refine AnyL.step (i := 17) (by kernel_rfl) rfl (fun K hK => ?_)
      (try simp only [List.getElem_toArray, List.getElem_cons_succ, List.getElem_cons_zero])
      go_simp
      refine hK.out _ _ (.inl (by kernel_rfl)) ?_
      clear hK K
      (try simp only [List.getElem_toArray, List.getElem_cons_succ, List.getElem_cons_zero, Act.put, List.setIfInBounds_toArray, List.set_cons_zero, List.set_cons_succ])
      refine AnyL.done (by kernel_rfl) ?_ _
      dsimp only [OnNormal]
      have kt8 : KT [33, 120, 136, 3, 45] w.heap.size Wc (W8.alloc (.cells #[.int .i64 x.1.sy, .int .i64 x.1.pr, .int .i64 fa, .int .i64 (x.2.1 + x.1.bt), .int .i64 x.2.2] 66)).drew := KT.of_below (hb8.trans ((below_alloc W8 (.cells #[.int .i64 x.1.sy, .int .i64 x.1.pr, .int .i64 fa, .int .i64 (x.2.1 + x.1.bt), .int .i64 x.2.2] 66)).drew.mono hb8l)) hn1
      have kt := (kt8.grew HGR9.out ((R2.out.alloc (.cells #[.int .i64 x.1.sy, .int .i64 x.1.pr, .int .i64 fa, .int .i64 (x.2.1 + x.1.bt), .int .i64 x.2.2] 66)).drew) (by decide)).setCell (p := ⟨w.heap.size, 0, none⟩) (Nat.le_refl _) HG9.out (by decide) (.slice (some ⟨g9, 0, none⟩) (p.length + 1) c9)
      show KT _ _ _ _ ∧ _
      refine ⟨kt, _, setCell_heap (i := 0) HG9.out _, ?_, h3.trans kt.below⟩
      rw [List.map_append, List.length_append]
      have e1 : spots (p.map spotV ++ [x].map spotV) = spots (p.map spotV) ++ [.int .i64 x.1.sy, .int .i64 x.1.pr, .int .i64 fa, .int .i64 (x.2.1 + x.1.bt), .int .i64 x.2.2] := by
        unfold spots
        rw [List.flatMap_append, List.map_singleton, List.flatMap_singleton, HFA.out]
        rfl
      rw [e1]
      exact ownsRow_of_block HOWN9.out (fun k hk => Below.heap_setCell _ _ _ _ (fun e => own_ne HOWN9.out HG9.out (by decide) (by rw [hk]; exact congrArg some e.symm)))
  case done =>
    rintro D Wc hD ⟨tv, h1, h2, h3⟩ hDW
    obtain ⟨L, hL⟩ : ∃ L, (preN 0 0 n).length = L := ⟨_, rfl⟩
    have HL := Lib.hid hL
    rw [hL] at h2
    clear hL
    obtain ⟨A, c, htv⟩ := row_any h2
    subst htv
    have c0 : Wc.cell? ⟨w.heap.size, 0, none⟩ = some (.slice A L c) := cell_of_heap h1 rfl
    have H2 := Lib.hid h2
    have HDW := Lib.hid hDW
    clear h1 h2 hDW hlen
    gi_wp2_with fail
    refine leaves_marks (T := []) (n₀ := w.heap.size) (m := w.heap.size) [D] Wc (by simp) (fun D' hD' => ?_) (fun W' hat => ⟨.slice A L c, (by simp [results, Try.results31, go_sem]), .slice A L c, rfl, (by rw [HL.out]; exact row_at H2.out hat (by simp)), h3.trans hat.below⟩)
    obtain rfl := List.mem_singleton.1 hD'
    exact ⟨by omega, by omega, HDW.out⟩

end Go.Proofs.Ytcjpmgfobnaoeaa


/- Two lists of spots; the document's way down. -/
namespace Go.Proofs.Ytcjpmgfobnaoeaa
set_option linter.unusedVariables false
set_option linter.unusedSimpArgs false
open Go.RowKit

/-- The slice holds these spots. -/
def SpotsAt (w : World) (v : Value) (l : List Sp) : Prop := ∃ A c, v = .slice A l.length c ∧ ∀ i (hi : i < l.length), ∃ g, A = some ⟨g, 0, none⟩ ∧ g < w.heap.size ∧
    w.cell? ⟨g, i * 5, none⟩ = some (.int .i64 l[i].sy) ∧ w.cell? ⟨g, i * 5 + 1, none⟩ = some (.int .i64 l[i].pr) ∧ w.cell? ⟨g, i * 5 + 2, none⟩ = some (.int .i64 l[i].fa) ∧ w.cell? ⟨g, i * 5 + 3, none⟩ = some (.int .i64 l[i].fz) ∧ w.cell? ⟨g, i * 5 + 4, none⟩ = some (.int .i64 l[i].dp)

theorem SpotsAt.of_row {w : World} {base n : Nat} {v : Value} {l : List Sp} (h : w.ownsRow base 66 5 v n (spots l)) : SpotsAt w v l := by
  obtain ⟨_, A, c, h1, h2⟩ := spots_row h
  exact ⟨A, c, h1, fun i hi => by obtain ⟨g, k1, _, k2, k3⟩ := h2 i hi; exact ⟨g, k1, k2, k3⟩⟩
theorem SpotsAt.keep {w w' : World} {v : Value} {l : List Sp} (h : SpotsAt w v l) (hb : Below w.heap.size w w') : SpotsAt w' v l := by
  obtain ⟨A, c, h1, h2⟩ := h
  refine ⟨A, c, h1, fun i hi => ?_⟩
  obtain ⟨g, k1, k2, q0, q1, q2, q3, q4⟩ := h2 i hi
  exact ⟨g, k1, Nat.lt_of_lt_of_le k2 hb.size, (hb.cell (p := ⟨g, _, none⟩) k2).trans q0, (hb.cell (p := ⟨g, _, none⟩) k2).trans q1, (hb.cell (p := ⟨g, _, none⟩) k2).trans q2, (hb.cell (p := ⟨g, _, none⟩) k2).trans q3, (hb.cell (p := ⟨g, _, none⟩) k2).trans q4⟩
attribute [local irreducible] Calls
set_option maxRecDepth 100000 in
set_option maxHeartbeats 4000000 in
/-- SameSpots of lists that are the same. -/
theorem sameSpots_call (v u : Value) (l : List Sp) (w : World) (h1 : SpotsAt w v l) (h2 : SpotsAt w u l) (hl : l.length ≤ 1000000) : Calls Try.prog 35 #[v, u] w fun e w' => e = .returned (.bool true) ∧ Below w.heap.size w w' := by
  obtain ⟨A, c, rfl, h1⟩ := h1
  obtain ⟨B, d, rfl, h2⟩ := h2
  have H1 := Lib.hid h1
  have H2 := Lib.hid h2
  clear h1 h2
  have hq : ((l.length : Int) != (l.length : Int)) = false := by simp
  go_enter Try.func35, Try.ntmps35
  go_wp2_with fail
  go_loopw [5] (fun iv wx => ∃ i : Nat, iv = .int .i64 i ∧ i ≤ l.length ∧ Below w.heap.size w wx) (fun iv _ => l.length - (intOf iv).toNat)
  case atStart => exact ⟨0, rfl, by omega, Below.refl _ _⟩
  case round =>
    obtain ⟨i, rfl, hi, hbr⟩ := hrel
    by_cases hlt : i < l.length
    · obtain ⟨g, rfl, lg, q0, q1, q2, q3, q4⟩ := H1.out i hlt
      obtain ⟨k, rfl, lk, r0, r1, r2, r3, r4⟩ := H2.out i hlt
      generalize l[i] = s at q0 q1 q2 q3 q4 r0 r1 r2 r3 r4
      replace q0 := (hbr.cell (p := ⟨g, _, none⟩) lg).trans q0
      replace q1 := (hbr.cell (p := ⟨g, _, none⟩) lg).trans q1
      replace q2 := (hbr.cell (p := ⟨g, _, none⟩) lg).trans q2
      replace q3 := (hbr.cell (p := ⟨g, _, none⟩) lg).trans q3
      replace q4 := (hbr.cell (p := ⟨g, _, none⟩) lg).trans q4
      replace r0 := (hbr.cell (p := ⟨k, _, none⟩) lk).trans r0
      replace r1 := (hbr.cell (p := ⟨k, _, none⟩) lk).trans r1
      replace r2 := (hbr.cell (p := ⟨k, _, none⟩) lk).trans r2
      replace r3 := (hbr.cell (p := ⟨k, _, none⟩) lk).trans r3
      replace r4 := (hbr.cell (p := ⟨k, _, none⟩) lk).trans r4
      have e0 : (s.sy == s.sy) = true := beq_self_eq_true _
      have e1 : (s.pr == s.pr) = true := beq_self_eq_true _
      have e2 : (s.fa == s.fa) = true := beq_self_eq_true _
      have e3 : (s.fz == s.fz) = true := beq_self_eq_true _
      have e4 : (s.dp == s.dp) = true := beq_self_eq_true _
      have hltI : (i : Int) < (l.length : Int) := by omega
      have hi0 : (0 : Int) ≤ (i : Int) := Int.natCast_nonneg _
      go_wp2_with fail
      go_quiet (fail)
      go_wp2_with fail
      go_roundw
      case rel => exact ⟨i + 1, by go_num, by omega, ⟨hbr.os, hbr.tape, hbr.output, hbr.size, hbr.block⟩⟩
      case measure => simp [intOf]; omega
    · have hge : ¬ ((i : Int) < (l.length : Int)) := by omega
      go_wp2_with fail
      go_ret
      exact ⟨rfl, hbr⟩

end Go.Proofs.Ytcjpmgfobnaoeaa

/- The chapter's node: lives of layer 20. -/
namespace Go.Proofs.Ytcjpmgfobnaoeaa
set_option linter.unusedVariables false
set_option linter.unusedSimpArgs false
open Go.RowKit

/-- The chapter's node. -/
def chNd (g : Nat) (ks : Value) (g1 g2 : Nat) : Nd := makeNd g ks 5 7 0 0 false [leafNd g1 0 2 3 0 true, leafNd g2 1 0 1 0 true]
theorem chNd_e0 (g1 g2 : Nat) : makeE 5 [0, 1] 7 0 0 [leafNd g1 0 2 3 0 true, leafNd g2 1 0 1 0 true] = 0 := by rfl
theorem chNd_e1 (g1 g2 : Nat) : makeE 5 [1, 0] 7 0 0 [leafNd g1 0 2 3 0 true, leafNd g2 1 0 1 0 true] = 200 := by rfl
theorem chNd_spots (g : Nat) (ks : Value) (g1 g2 : Nat) : spotsN (chNd g ks g1 g2) = [⟨5, 7, 0, 6, 0⟩, ⟨0, -1, 2, 5, 1⟩, ⟨1, -1, 5, 6, 1⟩] := by rfl
theorem chNd_lit (w : World) (b : Nat) (h : w.heap[b]? = some (.cells #[.int .i64 5, .int .i64 7, .int .i64 0, .int .i64 6, .int .i64 0, .int .i64 0, .int .i64 (-1), .int .i64 2, .int .i64 5, .int .i64 1, .int .i64 1, .int .i64 (-1), .int .i64 5, .int .i64 6, .int .i64 1] 66 (0, 0))) : SpotsAt w (.slice (some ⟨b, 0, none⟩) 3 3) [⟨5, 7, 0, 6, 0⟩, ⟨0, -1, 2, 5, 1⟩, ⟨1, -1, 5, 6, 1⟩] := by
  have hl := (Array.getElem?_eq_some_iff.1 h).1
  refine ⟨_, 3, rfl, fun i hi => ⟨b, rfl, hl, ?_⟩⟩
  rcases i with _ | _ | _ | i
  · exact ⟨cell_of_heap h rfl, cell_of_heap h rfl, cell_of_heap h rfl, cell_of_heap h rfl, cell_of_heap h rfl⟩
  · exact ⟨cell_of_heap h rfl, cell_of_heap h rfl, cell_of_heap h rfl, cell_of_heap h rfl, cell_of_heap h rfl⟩
  · exact ⟨cell_of_heap h rfl, cell_of_heap h rfl, cell_of_heap h rfl, cell_of_heap h rfl, cell_of_heap h rfl⟩
  · simp at hi; omega

attribute [local irreducible] Calls
set_option maxRecDepth 100000 in
set_option maxHeartbeats 8000000 in
theorem lives20 (w : World) : Calls Try.prog 30 #[] w fun e w' => e = .returned (.bool true) ∧ Below w.heap.size w w' := by
  have l1 := fun W => leaf_ok 0 2 3 0 true W (by decide)
  have l2 := fun W => leaf_ok 1 0 1 0 true W (by decide)
  have l3 : ∀ W, Calls Try.prog 45 #[.agg #[.int .i64 32, .int .i64 0, .int .i64 0], .int .i64 0, .bool true] W fun e w' => e = .returned (.tuple #[.pointer none, .int .i64 2]) ∧ Below W.heap.size W w' := fun W => leaf_bad 32 0 0 0 true W (by decide)
  have hints : ∀ (W : World) (x y : Int), (W.alloc (.cells #[.int .i64 x, .int .i64 y] 3)).heap[W.heap.size]? = some (.cells #[.int .i64 x, .int .i64 y] 3 (0, 0)) := fun W x y => heap_alloc_new W _
  have hmk : ∀ (W : World) (g1 g2 : Nat) (x y : Int) (p q : Value), W.heap[g1]? = some (.cells (leafNd g1 0 2 3 0 true).cs 87 (0, 0)) → W.heap[g2]? = some (.cells (leafNd g2 1 0 1 0 true).cs 87 (0, 0)) → p = .pointer (some ⟨g1, 0, none⟩) → q = .pointer (some ⟨g2, 0, none⟩) →
      Calls Try.prog 33 #[.agg #[.int .i64 5, .slice (some ⟨W.heap.size, 0, none⟩) 2 2, .bool false], .int .i64 7, .agg #[.int .i64 0, .int .i64 0, .bool false], .slice (some ⟨W.heap.size + 1, 0, none⟩) 2 2] ((W.alloc (.cells #[.int .i64 x, .int .i64 y] 3)).alloc (.cells #[p, q] 33))
        (MakeSays ((W.alloc (.cells #[.int .i64 x, .int .i64 y] 3)).alloc (.cells #[p, q] 33)) 5 [x, y] 7 0 0 false [leafNd g1 0 2 3 0 true, leafNd g2 1 0 1 0 true]) := by
    rintro W g1 g2 x y p q h1 h2 rfl rfl
    have hb : Below W.heap.size W ((W.alloc (.cells #[.int .i64 x, .int .i64 y] 3)).alloc (.cells #[.pointer (some ⟨g1, 0, none⟩), .pointer (some ⟨g2, 0, none⟩)] 33)) := ((Below.refl _ _).alloc (Nat.le_refl _) _).alloc (by simp) _
    have e0 : ((W.alloc (.cells #[.int .i64 x, .int .i64 y] 3)).alloc (.cells #[.pointer (some ⟨g1, 0, none⟩), .pointer (some ⟨g2, 0, none⟩)] 33)).heap[W.heap.size]? = some (.cells #[.int .i64 x, .int .i64 y] 3 (0, 0)) := by
      rw [Below.heap_alloc _ _ _ (by simp)]; exact heap_alloc_new _ _
    have e1 : ((W.alloc (.cells #[.int .i64 x, .int .i64 y] 3)).alloc (.cells #[.pointer (some ⟨g1, 0, none⟩), .pointer (some ⟨g2, 0, none⟩)] 33)).heap[W.heap.size + 1]? = some (.cells #[.pointer (some ⟨g1, 0, none⟩), .pointer (some ⟨g2, 0, none⟩)] 33 (0, 0)) := heap_new2 _ _ _
    refine make_any 5 _ [x, y] false 7 0 0 false _ [leafNd g1 0 2 3 0 true, leafNd g2 1 0 1 0 true] _ ⟨_, _, rfl, fun j hj => ?_⟩ ⟨_, _, rfl, fun j hj => ?_⟩ ?_ ?_ ?_ (by simp) (by simp)
    · rcases j with _ | _ | j
      · exact ⟨_, _, rfl, cell_of_heap e0 rfl⟩
      · exact ⟨_, _, rfl, cell_of_heap e0 rfl⟩
      · simp at hj; omega
    · rcases j with _ | _ | j
      · exact ⟨_, _, rfl, cell_of_heap e1 rfl⟩
      · exact ⟨_, _, rfl, cell_of_heap e1 rfl⟩
      · simp at hj; omega
    · intro m hm
      simp only [List.mem_cons, List.not_mem_nil, or_false] at hm
      rcases hm with rfl | rfl
      · exact (leafNd_in h1).below hb
      · exact (leafNd_in h2).below hb
    · intro m hm
      simp only [List.mem_cons, List.not_mem_nil, or_false] at hm
      rcases hm with rfl | rfl
      · exact leafNd_wf (by decide)
      · exact leafNd_wf (by decide)
    · intro m hm
      simp only [List.mem_cons, List.not_mem_nil, or_false] at hm
      rcases hm with rfl | rfl
      · show (1 : Int) ≤ 1000000; omega
      · show (1 : Int) ≤ 1000000; omega
  have HM := Lib.hid hmk
  have HL1 := Lib.hid l1
  have HL2 := Lib.hid l2
  have HL3 := Lib.hid l3
  clear l1 l2 l3 hmk hints
  have hcur := Below.refl w.heap.size w
  go_enter Try.func30, Try.ntmps30
  have al2 : ∀ (W : World) (a b : Obj), Below W.heap.size W ((W.alloc a).alloc b) := fun W a b => ((Below.refl _ _).alloc (Nat.le_refl _) _).alloc (by simp) _
  have AL2 := Lib.hid al2
  clear al2
  go_upto_region 6 with (first
    | (go_at_call 45; refine (HL1.out _).mono ?_; rintro e w1 ⟨g1, rfl, hg1, hl1, hb1⟩; replace hcur := hcur.trans (hb1.mono hcur.size); have G1 := Lib.hid hg1; clear hg1 HL1)
    | (go_at_call 45; refine (HL2.out _).mono ?_; rintro e w2 ⟨g2, rfl, hg2, hl2, hb2⟩; replace hcur := hcur.trans (hb2.mono hcur.size); have G2 := Lib.hid hg2; have H1 := Lib.hid ((hb2.block _ (Array.getElem?_eq_some_iff.1 G1.out).1).trans G1.out); clear hg2 HL2)
    | (go_at_call 33; refine (HM.out _ g1 g2 0 1 _ _ H1.out G2.out rfl rfl).mono ?_; rintro e w3 hsay; obtain ⟨hb3, g, ks, rfl, hgl, hgh, hrow⟩ := hsay.ok (chNd_e0 g1 g2); have h23 := (AL2.out w2 _ _).trans (hb3.mono (AL2.out w2 _ _).size); replace hcur := hcur.trans (h23.mono hcur.size); have J1 := Lib.hid ((h23.block _ (Array.getElem?_eq_some_iff.1 H1.out).1).trans H1.out); have J2 := Lib.hid ((h23.block _ (Array.getElem?_eq_some_iff.1 G2.out).1).trans G2.out); have GH := Lib.hid hgh; have GR := Lib.hid hrow; clear hgh hrow)
    | (go_at_call 33; refine (HM.out _ g1 g2 1 0 _ _ J1.out J2.out rfl rfl).mono ?_; rintro e w4 hsay; obtain ⟨hb4, he4⟩ := hsay.bad (by rw [chNd_e1]; decide); rw [chNd_e1] at he4; subst he4; have h34 := (AL2.out w3 _ _).trans (hb4.mono (AL2.out w3 _ _).size); replace hcur := hcur.trans (h34.mono hcur.size))
    | (go_at_call 45; refine (HL3.out _).mono ?_; rintro e w5 ⟨rfl, hb5⟩; replace hcur := hcur.trans (hb5.mono hcur.size); have h35 := h34.trans (hb5.mono h34.size)))
  have hin : (chNd g ks g1 g2).In w3 := makeNd_in GH.out GR.out (by
    intro m hm
    simp only [List.mem_cons, List.not_mem_nil, or_false] at hm
    rcases hm with rfl | rfl
    · exact leafNd_in J1.out
    · exact leafNd_in J2.out)
  have hwf : (chNd g ks g1 g2).WF := makeNd_wf (body := [0, 1]) (by
    intro m hm
    simp only [List.mem_cons, List.not_mem_nil, or_false] at hm
    rcases hm with rfl | rfl
    · exact leafNd_wf (by decide)
    · exact leafNd_wf (by decide)) (chNd_e0 g1 g2)
  have hby : ∀ W, Below w3.heap.size w3 W → Calls Try.prog 36 #[.pointer (some ⟨g, 0, none⟩)] W fun e w' => e = .returned (.int .i64 6) ∧ Below W.heap.size W w' := fun W hW => bytes_some (chNd g ks g1 g2) W (hin.below hW)
  have htk : ∀ W, Below w3.heap.size w3 W → Calls Try.prog 24 #[.pointer (some ⟨g, 0, none⟩)] W fun e w' => e = .returned (.int .i64 2) ∧ Below W.heap.size W w' := fun W hW => tokens_some (chNd g ks g1 g2) W (hin.below hW)
  have hld : ∀ W, Below w3.heap.size w3 W → Calls Try.prog 37 #[.pointer (some ⟨g, 0, none⟩)] W fun e w' => e = .returned (.int .i64 2) ∧ Below W.heap.size W w' := fun W hW => lead_some (chNd g ks g1 g2) W (hin.below hW)
  have hht : ∀ W, Below w3.heap.size w3 W → Calls Try.prog 62 #[.pointer (some ⟨g, 0, none⟩)] W fun e w' => e = .returned (.int .i64 2) ∧ Below W.heap.size W w' := fun W hW => height_some (chNd g ks g1 g2) W (hin.below hW)
  have hsp : ∀ W, Below w3.heap.size w3 W → Calls Try.prog 31 #[.pointer (some ⟨g, 0, none⟩)] W fun e w' => ∃ v, e = .returned v ∧ SpotsAt w' v [⟨5, 7, 0, 6, 0⟩, ⟨0, -1, 2, 5, 1⟩, ⟨1, -1, 5, 6, 1⟩] ∧ Below W.heap.size W w' := fun W hW => by
    refine (spots_call (chNd g ks g1 g2) W (hin.below hW) hwf (show 3 ≤ 1000 by decide)).mono ?_
    rintro e w' ⟨v, rfl, hr, hb⟩
    rw [chNd_spots] at hr
    exact ⟨v, rfl, SpotsAt.of_row hr, hb⟩
  have hss : ∀ W u v, SpotsAt W u [⟨5, 7, 0, 6, 0⟩, ⟨0, -1, 2, 5, 1⟩, ⟨1, -1, 5, 6, 1⟩] → SpotsAt W v [⟨5, 7, 0, 6, 0⟩, ⟨0, -1, 2, 5, 1⟩, ⟨1, -1, 5, 6, 1⟩] → Calls Try.prog 35 #[u, v] W fun e w' => e = .returned (.bool true) ∧ Below W.heap.size W w' := fun W u v h h' => sameSpots_call u v _ W h h' (by simp)
  have HBY := Lib.hid hby
  have HTK := Lib.hid htk
  have HLD := Lib.hid hld
  have HHT := Lib.hid hht
  have HSP := Lib.hid hsp
  have HSS := Lib.hid hss
  clear hby htk hld hht hsp hss hin hwf
  go_wp2_with (first
    | (go_at_call 36; refine (HBY.out _ h35).mono ?_; rintro e w6 ⟨rfl, hb6⟩; replace hcur := hcur.trans (hb6.mono hcur.size); replace h35 := h35.trans (hb6.mono h35.size))
    | (go_at_call 24; refine (HTK.out _ h35).mono ?_; rintro e w7 ⟨rfl, hb7⟩; replace hcur := hcur.trans (hb7.mono hcur.size); replace h35 := h35.trans (hb7.mono h35.size))
    | (go_at_call 37; refine (HLD.out _ h35).mono ?_; rintro e w8 ⟨rfl, hb8⟩; replace hcur := hcur.trans (hb8.mono hcur.size); replace h35 := h35.trans (hb8.mono h35.size))
    | (go_at_call 62; refine (HHT.out _ h35).mono ?_; rintro e w9 ⟨rfl, hb9⟩; replace hcur := hcur.trans (hb9.mono hcur.size); replace h35 := h35.trans (hb9.mono h35.size))
    | (go_at_call 31; refine (HSP.out _ h35).mono ?_; rintro e w10 ⟨v10, rfl, hs10, hb10⟩; replace hcur := hcur.trans (hb10.mono hcur.size); have S10 := Lib.hid hs10; clear hs10)
    | (go_at_call 35; refine (HSS.out _ _ _ (S10.out.keep (below_alloc _ _)) (chNd_lit _ _ (heap_alloc_new _ _))).mono ?_; rintro e w11 ⟨rfl, hb11⟩; replace hcur := (hcur.alloc hcur.size _).trans (hb11.mono (hcur.alloc hcur.size _).size)))
  go_ret
  exact ⟨rfl, hcur⟩

end Go.Proofs.Ytcjpmgfobnaoeaa




/- Nodes of the reference as data: how they are read; what its functions answer on them. -/
namespace Go.Proofs.Ytcjpmgfobnaoeaa
set_option linter.unusedVariables false
set_option linter.unusedSimpArgs false
open PNodesTell (S79 S72 S57 S66 S64 S24 rd_T79 rd_T72 k79 k72 k66 k24 k57)
open Go.RowKit Go.Proofs.YtcjpmgfobnaoeaaW.PrintWords Go.Proofs.YtcjpmgfobnaoeaaW.PrintMore

/-- A node as a value. -/
def nodeV (s : S79) (kv : Value) : Value := .agg #[.int .i64 s.f0, .int .i64 s.f1, .int .i64 s.f2.f0, .int .i64 s.f2.f1, .int .i64 s.f2.f2, .int .i64 s.f3.f0, .int .i64 s.f3.f1, .bool s.f3.f2, kv]

theorem spot_none {w : World} {ad : Addr} {v : Value} (h : w.cell? ad = some v) : ∃ b o, ad = ⟨b, o, none⟩ ∧ b < w.heap.size := by
  obtain ⟨b, o, sp⟩ := ad
  have hb := World.block_lt_of_cell? w _ h
  cases sp with
  | none => exact ⟨b, o, rfl, hb⟩
  | some x =>
    unfold World.cell? at h
    simp at h
    split at h <;> simp at h

/-- The cells of a kid, and what it has for kids. -/
theorem at79 {w : World} {A : Option Addr} {l : List S79} (h : k79.C w A l.length l) {i : Nat} (hi : i < l.length) : ∃ b o A8 c8, A = some ⟨b, o, none⟩ ∧ b < w.heap.size ∧
    w.cell? ⟨b, o + i * 9, none⟩ = some (.int .i64 (l[i]).f0) ∧ w.cell? ⟨b, o + i * 9 + 1, none⟩ = some (.int .i64 (l[i]).f1) ∧ w.cell? ⟨b, o + i * 9 + 2, none⟩ = some (.int .i64 (l[i]).f2.f0) ∧
    w.cell? ⟨b, o + i * 9 + 3, none⟩ = some (.int .i64 (l[i]).f2.f1) ∧ w.cell? ⟨b, o + i * 9 + 4, none⟩ = some (.int .i64 (l[i]).f2.f2) ∧ w.cell? ⟨b, o + i * 9 + 5, none⟩ = some (.int .i64 (l[i]).f3.f0) ∧
    w.cell? ⟨b, o + i * 9 + 6, none⟩ = some (.int .i64 (l[i]).f3.f1) ∧ w.cell? ⟨b, o + i * 9 + 7, none⟩ = some (.bool (l[i]).f3.f2) ∧ w.cell? ⟨b, o + i * 9 + 8, none⟩ = some (.slice A8 (l[i]).f4.length c8) ∧
    (l[i]).f4.length ≤ c8 ∧ k79.C w A8 (l[i]).f4.length (l[i]).f4 := by
  obtain ⟨ad0, A0, c0, e0, h00, _⟩ := PNodesTell.at_T79 h 0 (by omega) (by omega)
  have h00' : w.cell? ad0 = some (.int .i64 (rd_T79 l 0).f0) := by simpa [Addr.add] using h00
  obtain ⟨b, o, rfl, hb⟩ := spot_none h00'
  obtain ⟨ad, A8, c8, e, h0, h1, h2, h3, h4, h5, h6, h7, h8, h9, h10⟩ := PNodesTell.at_T79 h (i : Int) (by omega) (by omega)
  rw [e0] at e
  injection e with e
  subst e
  have hr : rd_T79 l (i : Int) = l[i] := by simp [rd_T79, List.getD_eq_getElem?_getD, hi]
  rw [hr] at h0 h1 h2 h3 h4 h5 h6 h7 h8 h9 h10
  simp only [Int.toNat_natCast, Addr.add_lit] at h0 h1 h2 h3 h4 h5 h6 h7 h8
  exact ⟨b, o, A8, c8, e0, hb, h0, h1, h2, h3, h4, h5, h6, h7, h8, h9, h10⟩

/-! ### The reference's functions -/
theorem refBytes_call {n : Pn} (h : n.Ok) {s : S79} (hs : n.s79 = s) {A : Option Addr} {c : Nat} {w : World} (hC : k79.C w A s.f4.length s.f4) (hc : s.f4.length ≤ c) :
    Calls Try.prog 77 #[nodeV s (.slice A s.f4.length c)] w fun e w' => e = .returned (.int .i64 n.bytes) ∧ Below w.heap.size w w' := by
  obtain ⟨k, hk⟩ := (bytes_ev h).rounds
  subst hs
  exact PNodesTell.rootstockref20_Bytes.calls k _ _ _ _ _ _ _ _ _ c _ _ w hC hc hk
theorem refLead_call {n : Pn} (h : n.Ok) {s : S79} (hs : n.s79 = s) {A : Option Addr} {c : Nat} {w : World} (hC : k79.C w A s.f4.length s.f4) (hc : s.f4.length ≤ c) :
    Calls Try.prog 78 #[nodeV s (.slice A s.f4.length c)] w fun e w' => e = .returned (.int .i64 n.lead) ∧ Below w.heap.size w w' := by
  obtain ⟨k, hk⟩ := (lead_ev h).rounds
  subst hs
  exact PNodesTell.rootstockref20_Lead.calls k _ _ _ _ _ _ _ _ _ c _ _ w hC hc hk
theorem refHeight_call {n : Pn} (h : n.Ok) (hh : n.height ≤ 1000000) {s : S79} (hs : n.s79 = s) {A : Option Addr} {c : Nat} {w : World} (hC : k79.C w A s.f4.length s.f4) (hc : s.f4.length ≤ c) :
    Calls Try.prog 79 #[nodeV s (.slice A s.f4.length c)] w fun e w' => e = .returned (.int .i64 n.height) ∧ Below w.heap.size w w' := by
  obtain ⟨k, hk⟩ := (height_ev n h hh).rounds
  subst hs
  exact PNodesTell.rootstockref20_Height.calls k _ _ _ _ _ _ _ _ _ c _ _ w hC hc hk
theorem refLeaves_call {n : Pn} (h : n.Ok) {s : S79} (hs : n.s79 = s) {A : Option Addr} {c : Nat} {w : World} (hC : k79.C w A s.f4.length s.f4) (hc : s.f4.length ≤ c) :
    Calls Try.prog 51 #[nodeV s (.slice A s.f4.length c)] w fun e w' => ∃ v, e = .returned v ∧ k72.R 72 w' w.heap.size (fun _ => True) v (n.leaves.map t72) ∧ Below w.heap.size w w' := by
  obtain ⟨k, hk⟩ := (leaves_ev h).rounds
  subst hs
  exact PNodesTell.rootstockref20_Leaves.calls k _ _ _ _ _ _ _ _ _ c _ _ w hC hc hk
/-! ### From the printed rows to those of the walks -/
end Go.Proofs.Ytcjpmgfobnaoeaa

/- The reference's Make: the walk. -/
namespace Go.Proofs.Ytcjpmgfobnaoeaa
set_option linter.unusedVariables false
set_option linter.unusedSimpArgs false
open PNodesTell (S79 S72 S57 S66 S64 S24 k79 k72)
open Go.RowKit Go.Proofs.YtcjpmgfobnaoeaaW.PrintWords
attribute [local irreducible] Calls

/-- The node that is none. -/
def zs79 : Array Value := #[.int .i64 0, .int .i64 0, .int .i64 0, .int .i64 0, .int .i64 0, .int .i64 0, .int .i64 0, .bool false, .slice none 0 0]
def zero79 : Value := .agg zs79

/-- What the reference's Make says. -/
def RefMakeSays (w : World) (head : Int) (body : List Int) (prod st lk : Int) (fm : Bool) (kids : List Pn) (kv : Value) (e : Ending) (w' : World) : Prop :=
  Below w.heap.size w w' ∧
  ((∃ x, makeP head body prod st lk fm kids = .error x ∧ x ≠ 0 ∧ e = .returned (.tuple #[zero79, .int .i64 x])) ∨
   (makeP head body prod st lk fm kids = .ok (.mk head prod 0 0 st lk fm kids) ∧
      e = .returned (.tuple #[.agg #[.int .i64 head, .int .i64 prod, .int .i64 0, .int .i64 0, .int .i64 0, .int .i64 st, .int .i64 lk, .bool fm, kv], .int .i64 0])))

/-- Nine cells stored. -/
def put9 (W : World) (g : Nat) (v0 v1 v2 v3 v4 v5 v6 v7 v8 : Value) : World :=
  ((((((((W.setCell ⟨g, 0, none⟩ v0).setCell ⟨g, 1, none⟩ v1).setCell ⟨g, 2, none⟩ v2).setCell ⟨g, 3, none⟩ v3).setCell ⟨g, 4, none⟩ v4).setCell ⟨g, 5, none⟩ v5).setCell ⟨g, 6, none⟩ v6).setCell ⟨g, 7, none⟩ v7).setCell ⟨g, 8, none⟩ v8
theorem put9_heap {W : World} {g : Nat} {a0 a1 a2 a3 a4 a5 a6 a7 a8 : Value} (h : W.heap[g]? = some (.cells #[a0, a1, a2, a3, a4, a5, a6, a7, a8] 79 (0, 0))) (v0 v1 v2 v3 v4 v5 v6 v7 v8 : Value) :
    (put9 W g v0 v1 v2 v3 v4 v5 v6 v7 v8).heap[g]? = some (.cells #[v0, v1, v2, v3, v4, v5, v6, v7, v8] 79 (0, 0)) := by
  have h0 := setCell_heap (i := 0) h v0
  simp only [List.setIfInBounds_toArray, List.set_cons_zero, List.set_cons_succ] at h0
  have h1 := setCell_heap (i := 1) h0 v1
  simp only [List.setIfInBounds_toArray, List.set_cons_zero, List.set_cons_succ] at h1
  have h2 := setCell_heap (i := 2) h1 v2
  simp only [List.setIfInBounds_toArray, List.set_cons_zero, List.set_cons_succ] at h2
  have h3 := setCell_heap (i := 3) h2 v3
  simp only [List.setIfInBounds_toArray, List.set_cons_zero, List.set_cons_succ] at h3
  have h4 := setCell_heap (i := 4) h3 v4
  simp only [List.setIfInBounds_toArray, List.set_cons_zero, List.set_cons_succ] at h4
  have h5 := setCell_heap (i := 5) h4 v5
  simp only [List.setIfInBounds_toArray, List.set_cons_zero, List.set_cons_succ] at h5
  have h6 := setCell_heap (i := 6) h5 v6
  simp only [List.setIfInBounds_toArray, List.set_cons_zero, List.set_cons_succ] at h6
  have h7 := setCell_heap (i := 7) h6 v7
  simp only [List.setIfInBounds_toArray, List.set_cons_zero, List.set_cons_succ] at h7
  have h8 := setCell_heap (i := 8) h7 v8
  simp only [List.setIfInBounds_toArray, List.set_cons_zero, List.set_cons_succ] at h8
  exact h8
theorem put9_below {W w : World} {g B : Nat} (hb : Below B w W) (hB : B ≤ g) (v0 v1 v2 v3 v4 v5 v6 v7 v8 : Value) : Below B w (put9 W g v0 v1 v2 v3 v4 v5 v6 v7 v8) :=
  ((((((((hb.setCell (p := ⟨g, 0, none⟩) hB _).setCell (p := ⟨g, 1, none⟩) hB _).setCell (p := ⟨g, 2, none⟩) hB _).setCell (p := ⟨g, 3, none⟩) hB _).setCell (p := ⟨g, 4, none⟩) hB _).setCell (p := ⟨g, 5, none⟩) hB _).setCell (p := ⟨g, 6, none⟩) hB _).setCell (p := ⟨g, 7, none⟩) hB _).setCell (p := ⟨g, 8, none⟩) hB _
/-- The end of a call whose result is a node and a number. -/
theorem end79 {fn : Func} {p u : Tmp} (hres : fn.results = #[.cell p 79, .tmp u]) {R : Ending → World → Prop} {a : Act} {X : World} {g : Nat} {cs : Array Value} {x : Value} (hp : a.tmps.getD p undef = .pointer (some ⟨g, 0, none⟩))
    (hg : X.heap[g]? = some (.cells cs 79 (0, 0))) (hs : cs.size = 9) (hu : a.tmps.getD u undef = x) (hd : a.defers = []) (hR : R (.returned (.tuple #[.agg cs, x])) X) : bodyPost Try.prog fn R .ret a X := by
  subst hu
  exact bodyPost_ret (results_ct hres _ _ g 79 cs (0, 0) _ hp hg Try.underlying79 rfl (by rw [hs]; kernel_rfl)) hd hR

/-- The nine cells, for the walk. -/
structure Nine (W : World) (g : Nat) (v0 v1 v2 v3 v4 v5 v6 v7 v8 : Value) : Prop where
  c0 : W.cell? ⟨g, 0, none⟩ = some v0
  c1 : W.cell? ⟨g, 1, none⟩ = some v1
  c2 : W.cell? ⟨g, 2, none⟩ = some v2
  c3 : W.cell? ⟨g, 3, none⟩ = some v3
  c4 : W.cell? ⟨g, 4, none⟩ = some v4
  c5 : W.cell? ⟨g, 5, none⟩ = some v5
  c6 : W.cell? ⟨g, 6, none⟩ = some v6
  c7 : W.cell? ⟨g, 7, none⟩ = some v7
  c8 : W.cell? ⟨g, 8, none⟩ = some v8
theorem nine_of {W : World} {g : Nat} {v0 v1 v2 v3 v4 v5 v6 v7 v8 : Value} (h : W.heap[g]? = some (.cells #[v0, v1, v2, v3, v4, v5, v6, v7, v8] 79 (0, 0))) : Nine W g v0 v1 v2 v3 v4 v5 v6 v7 v8 :=
  ⟨cell_of_heap h rfl, cell_of_heap h rfl, cell_of_heap h rfl, cell_of_heap h rfl, cell_of_heap h rfl, cell_of_heap h rfl, cell_of_heap h rfl, cell_of_heap h rfl, cell_of_heap h rfl⟩

theorem below_dn {B : Nat} {w W : World} (h : Below B w W) (n : Nat) : Below B w (W.drewN n) := ⟨h.os, h.tape, h.output, h.size, h.block⟩

theorem pnsLeaves_take {l : List Pn} {i : Nat} (h : i < l.length) : PnsLeaves (l.take (i + 1)) = PnsLeaves (l.take i) ++ (l[i]).leaves := by
  rw [PnsLeaves_eq, PnsLeaves_eq, List.take_succ_eq_append_getElem h, List.flatMap_append, List.flatMap_singleton]
theorem bytesLeaves_take {l : List Pn} {i : Nat} (h : i < l.length) : bytesOf (PnsLeaves (l.take (i + 1))) = bytesOf (PnsLeaves (l.take i)) + (l[i]).bytes := by
  rw [pnsLeaves_take h, bytesOf_append]; rfl
theorem pnsLeaves_split (l : List Pn) (i : Nat) (hok : ∀ k ∈ l, k.Ok) : bytesOf (PnsLeaves (l.take i)) ≤ bytesOf (PnsLeaves l) ∧ (PnsLeaves (l.take i)).length ≤ (PnsLeaves l).length := by
  have e : PnsLeaves l = PnsLeaves (l.take i) ++ PnsLeaves (l.drop i) := by
    rw [PnsLeaves_eq, PnsLeaves_eq, PnsLeaves_eq, ← List.flatMap_append, List.take_append_drop]
  rw [e, bytesOf_append, List.length_append]
  have : 0 ≤ bytesOf (PnsLeaves (l.drop i)) := by
    refine bytesOf_nn fun t ht => ?_
    rw [PnsLeaves_eq] at ht
    obtain ⟨k, hk, ht⟩ := List.mem_flatMap.1 ht
    exact (Pn.Ok.toks k (hok k (List.mem_of_mem_drop hk))).lo t ht
  omega

set_option maxRecDepth 100000 in
set_option maxHeartbeats 8000000 in
theorem refMake_call (head : Int) (bv : Value) (body : List Int) (right : Bool) (prod st lk : Int) (fm : Bool) (ka : Option Addr) (kc : Nat) (kids : List Pn) (w : World) (hb : IntsAt w bv body) (hk : k79.C w ka kids.length (kids.map Pn.s79))
    (hok : ∀ n ∈ kids, n.Ok) (hbl : body.length ≤ 1000000) (hkl : kids.length ≤ 1000000) :
    Calls Try.prog 47 #[.agg #[.int .i64 head, bv, .bool right], .int .i64 prod, .agg #[.int .i64 st, .int .i64 lk, .bool fm], .slice ka kids.length kc] w (RefMakeSays w head body prod st lk fm kids (.slice ka kids.length kc)) := by
  obtain ⟨ba, bc, rfl, hbx⟩ := hb
  have HBX := Lib.hid hbx
  have HK := Lib.hid hk
  have HOK := Lib.hid hok
  have hbox : ∀ W, W = ((w.alloc (.cells #[.int .i64 head, .slice ba body.length bc, .bool right] 54)).alloc (.cells #[.int .i64 st, .int .i64 lk, .bool fm] 57)).alloc (.cells #[.int .i64 0, .int .i64 0, .int .i64 0, .int .i64 0, .int .i64 0, .int .i64 0, .int .i64 0, .bool false, .slice none 0 0] 79) → Below w.heap.size w W ∧
      W.heap[w.heap.size]? = some (.cells #[.int .i64 head, .slice ba body.length bc, .bool right] 54 (0, 0)) ∧ W.heap[w.heap.size + 1]? = some (.cells #[.int .i64 st, .int .i64 lk, .bool fm] 57 (0, 0)) ∧ W.heap[w.heap.size + 1 + 1]? = some (.cells zs79 79 (0, 0)) := by
    rintro W rfl
    refine ⟨(((Below.refl _ _).alloc (Nat.le_refl _) _).alloc (by simp) _).alloc (by simp; omega) _, ?_, ?_, ?_⟩
    · rw [Below.heap_alloc _ _ _ (by simp; omega), Below.heap_alloc _ _ _ (by simp)]; exact heap_alloc_new _ _
    · rw [Below.heap_alloc _ _ _ (by simp)]
      have := heap_alloc_new (w.alloc (.cells #[.int .i64 head, .slice ba body.length bc, .bool right] 54)) (.cells #[.int .i64 st, .int .i64 lk, .bool fm] 57)
      simpa using this
    · have := heap_alloc_new ((w.alloc (.cells #[.int .i64 head, .slice ba body.length bc, .bool right] 54)).alloc (.cells #[.int .i64 st, .int .i64 lk, .bool fm] 57)) (.cells #[.int .i64 0, .int .i64 0, .int .i64 0, .int .i64 0, .int .i64 0, .int .i64 0, .int .i64 0, .bool false, .slice none 0 0] 79)
      simpa [zs79] using this
  have HBOX := Lib.hid hbox
  clear hbx hk hok hbox
  go_enter Try.func47, Try.ntmps47
  apply wp_seq_k
  intro K1 h1
  have H1 := Lib.hid h1
  clear h1
  go_wp2_with fail
  refine H1.out _ _ ?_
  clear H1 K1
  obtain ⟨hB1, hq1, hq2, hq3⟩ := HBOX.out _ rfl
  generalize ((w.alloc (.cells #[.int .i64 head, .slice ba body.length bc, .bool right] 54)).alloc (.cells #[.int .i64 st, .int .i64 lk, .bool fm] 57)).alloc (.cells #[.int .i64 0, .int .i64 0, .int .i64 0, .int .i64 0, .int .i64 0, .int .i64 0, .int .i64 0, .bool false, .slice none 0 0] 79) = W at *
  have HQ := Lib.hid (And.intro hq1 (And.intro hq2 hq3))
  have hl1 := (Array.getElem?_eq_some_iff.1 hq1).1
  clear HBOX
  have p0 : W.cell? ⟨w.heap.size, 0, none⟩ = some (.int .i64 head) := cell_of_heap hq1 rfl
  have p1 : W.cell? ⟨w.heap.size, 1, none⟩ = some (.slice ba body.length bc) := cell_of_heap hq1 rfl
  have s0 : W.cell? ⟨w.heap.size + 1, 0, none⟩ = some (.int .i64 st) := cell_of_heap hq2 rfl
  have s1 : W.cell? ⟨w.heap.size + 1, 1, none⟩ = some (.int .i64 lk) := cell_of_heap hq2 rfl
  clear hq1 hq2 hq3
  by_cases hE2 : prod < 0 ∨ head < 0 ∨ st < 0 ∨ lk < 0 ∨ body = []
  · have hres : makeP head body prod st lk fm kids = .error 2 := by unfold makeP; rw [if_pos hE2]
    have HE := Lib.hid (show prod < 0 ∨ head < 0 ∨ st < 0 ∨ lk < 0 ∨ body.length = 0 by rcases hE2 with h | h | h | h | h <;> simp [h])
    have HR := Lib.hid hres
    have h9 := nine_of HQ.out.2.2
    obtain ⟨r0, r1, r2, r3, r4, r5, r6, r7, r8⟩ := h9
    have hz : ∀ i, W.frozen? ⟨w.heap.size + 1 + 1, i, none⟩ = false := fun i => frozen_of_heap HQ.out.2.2
    clear hE2 hres
    go_wp2_with fail
    all_goals first
      | (refine end79 (X := put9 W (w.heap.size + 1 + 1) (.int .i64 0) (.int .i64 0) (.int .i64 0) (.int .i64 0) (.int .i64 0) (.int .i64 0) (.int .i64 0) (.bool false) (.slice none 0 0)) rfl rfl (put9_heap HQ.out.2.2 _ _ _ _ _ _ _ _ _) rfl rfl rfl ⟨put9_below hB1 (by omega) _ _ _ _ _ _ _ _ _, .inl ⟨2, HR.out, by decide, rfl⟩⟩)
      | (exfalso; have h5 := HE.out; simp only [beq_eq_false_iff_ne, ne_eq] at *; omega)
  · have hE2' : 0 ≤ prod ∧ 0 ≤ head ∧ 0 ≤ st ∧ 0 ≤ lk ∧ 0 < body.length := by
      refine ⟨by omega, by omega, by omega, by omega, ?_⟩
      cases body with
      | nil => simp at hE2
      | cons x xs => simp
    obtain ⟨hp, hh, hst, hlk, hbn⟩ := hE2'
    have hbq : ((body.length : Int) == 0) = false := beq_eq_false_iff_ne.2 (by omega)
    have HE2 := Lib.hid hE2
    clear hE2
    by_cases hlen : body.length = kids.length
    case neg =>
      have hq : ((body.length : Int) != (kids.length : Int)) = true := bne_iff_ne.2 (by omega)
      have HR := Lib.hid (show makeP head body prod st lk fm kids = .error 200 by
        unfold makeP
        rw [if_neg HE2.out, if_pos (fun e => hlen (by rw [e]; simp))])
      have h9 := nine_of HQ.out.2.2
      obtain ⟨r0, r1, r2, r3, r4, r5, r6, r7, r8⟩ := h9
      have hz : ∀ i, W.frozen? ⟨w.heap.size + 1 + 1, i, none⟩ = false := fun i => frozen_of_heap HQ.out.2.2
      clear hlen
      go_wp2_with fail
      exact end79 (X := put9 W (w.heap.size + 1 + 1) (.int .i64 0) (.int .i64 0) (.int .i64 0) (.int .i64 0) (.int .i64 0) (.int .i64 0) (.int .i64 0) (.bool false) (.slice none 0 0)) rfl rfl (put9_heap HQ.out.2.2 _ _ _ _ _ _ _ _ _) rfl rfl rfl ⟨put9_below hB1 (by omega) _ _ _ _ _ _ _ _ _, .inl ⟨200, HR.out, by decide, rfl⟩⟩
    case pos =>
    have hq : ((body.length : Int) != (kids.length : Int)) = false := by rw [show (body.length : Int) = (kids.length : Int) by omega]; exact bne_self_eq_false _
    have HLEN := Lib.hid hlen
    have HK2 := Lib.hid (show k79.C w ka (kids.map Pn.s79).length (kids.map Pn.s79) by rw [List.length_map]; exact HK.out)
    clear hlen HK
    go_wp2_with fail
    clear p0 p1 s0 s1 hq hbq
    go_loopw [12] (fun iv wx => ∃ i : Nat, iv = .int .i64 i ∧ i ≤ kids.length ∧ Below W.heap.size W wx ∧ Hid (body.take i = (kids.take i).map Pn.sy)) (fun iv _ => kids.length - (intOf iv).toNat)
    case atStart => exact ⟨0, rfl, by omega, Below.refl _ _, by show _ = _; simp⟩
    case round =>
      obtain ⟨i, rfl, hi, hbr, HI⟩ := hrel
      have hwr := hB1.trans (hbr.mono hB1.size)
      have hl2 := (Array.getElem?_eq_some_iff.1 HQ.out.2.2).1
      have hx1 := (hbr.block _ hl1).trans HQ.out.1
      have hx2 := (hbr.block _ (by omega)).trans HQ.out.2.1
      have hx3 := (hbr.block _ hl2).trans HQ.out.2.2
      by_cases hlt : i < kids.length
      · have hltm : i < (kids.map Pn.s79).length := by rw [List.length_map]; exact hlt
        obtain ⟨kb, ko, A8, c8, rfl, hkb, q0, hrest⟩ := at79 HK2.out hltm
        clear hrest
        have hltb : i < body.length := by have := HLEN.out; omega
        obtain ⟨bb, bo, rfl, hbc⟩ := HBX.out i hltb
        have hs0 : ((kids.map Pn.s79)[i]'hltm).f0 = (kids[i]).sy := by rw [List.getElem_map, Pn.s79_eq]
        rw [hs0] at q0
        obtain ⟨x, hx⟩ : ∃ x, (kids[i]).sy = x := ⟨_, rfl⟩
        obtain ⟨y, hy⟩ : ∃ y, body[i] = y := ⟨_, rfl⟩
        rw [hx] at q0
        rw [hy] at hbc
        have hlbb := World.block_lt_of_cell? w _ hbc
        have d0 : wr.cell? ⟨kb, ko + i * 9, none⟩ = some (.int .i64 x) := (hwr.cell (p := ⟨kb, _, none⟩) hkb).trans q0
        have d1 : wr.cell? ⟨bb, bo + i, none⟩ = some (.int .i64 y) := (hwr.cell (p := ⟨bb, _, none⟩) hlbb).trans hbc
        have p1 : wr.cell? ⟨w.heap.size, 1, none⟩ = some (.slice (some ⟨bb, bo, none⟩) body.length bc) := cell_of_heap hx1 rfl
        have hltI : (i : Int) < (kids.length : Int) := by omega
        have hltI2 : (i : Int) < (body.length : Int) := by omega
        have hi0 : (0 : Int) ≤ (i : Int) := Int.natCast_nonneg _
        have hwi : IntKind.i64.wrap ((i : Int) + 1) = ((i + 1 : Nat) : Int) := by rw [IntKind.wrap_i64]; omega
        have HX3 := Lib.hid hx3
        have HXY := Lib.hid (And.intro hx hy)
        clear q0 hbc hs0 hx hy hx1 hx2 hx3 hltm
        by_cases hxy : x = y
        · have hn : (x != y) = false := by rw [hxy]; exact bne_self_eq_false _
          have HN := Lib.hid (show body.take (i + 1) = (kids.take (i + 1)).map Pn.sy by
            rw [List.take_succ_eq_append_getElem hltb, List.take_succ_eq_append_getElem hlt, List.map_append, List.map_singleton, HI.out, HXY.out.1, HXY.out.2, hxy])
          clear hxy HXY
          go_wp2_with fail
          go_quiet (fail)
          go_wp2_with fail
          go_roundw
          case rel => exact ⟨i + 1, by go_num, by omega, ⟨hbr.os, hbr.tape, hbr.output, hbr.size, hbr.block⟩, HN.out⟩
          case measure => simp [intOf]; omega
        · have hn : (x != y) = true := bne_iff_ne.2 hxy
          have HR := Lib.hid (show makeP head body prod st lk fm kids = .error 200 by
            unfold makeP
            rw [if_neg HE2.out, if_pos (fun e => hxy (by rw [← HXY.out.1, ← HXY.out.2]; subst e; simp))])
          clear hxy HXY
          go_wp2_with fail
          go_quiet (fail)
          have h9 := nine_of HX3.out
          obtain ⟨r0, r1, r2, r3, r4, r5, r6, r7, r8⟩ := h9
          have hz : ∀ i, wr.frozen? ⟨w.heap.size + 1 + 1, i, none⟩ = false := fun i => frozen_of_heap HX3.out
          go_wp2_with fail
          exact end79 (X := put9 (wr.drewN nq) (w.heap.size + 1 + 1) (.int .i64 0) (.int .i64 0) (.int .i64 0) (.int .i64 0) (.int .i64 0) (.int .i64 0) (.int .i64 0) (.bool false) (.slice none 0 0)) rfl rfl (put9_heap HX3.out _ _ _ _ _ _ _ _ _) rfl rfl rfl ⟨put9_below (below_dn hwr _) (by omega) _ _ _ _ _ _ _ _ _, .inl ⟨200, HR.out, by decide, rfl⟩⟩
      · have hge : ¬ ((i : Int) < (kids.length : Int)) := by omega
        have HBODY := Lib.hid (show body = kids.map Pn.sy by
          have h := HI.out
          have := HLEN.out
          rwa [List.take_of_length_le (by omega), List.take_of_length_le (by omega)] at h)
        clear HI hx1 hx2 hx3
        go_wp2_with fail
        clear hge hi
        go_loopw [10, 11, 13] (fun b10 t11 jv wx => ∃ j : Nat, jv = .int .i64 j ∧ j ≤ kids.length ∧ b10 = .int .i64 (bytesOf (PnsLeaves (kids.take j))) ∧ t11 = .int .i64 ((PnsLeaves (kids.take j)).length : Nat) ∧ Below W.heap.size W wx ∧ Hid (bytesOf (PnsLeaves (kids.take j)) ≤ 65536 ∧ (PnsLeaves (kids.take j)).length ≤ 262144)) (fun _ _ jv _ => kids.length - (intOf jv).toNat)
        case atStart => exact ⟨0, rfl, by omega, by simp [PnsLeaves, bytesOf], by simp [PnsLeaves], hbr, by show _ ∧ _; simp [PnsLeaves, bytesOf]⟩
        case round =>
          clear hbr hwr
          rename World => wq
          obtain ⟨j, rfl, hj, rfl, rfl, hbq, HS⟩ := hrel
          have hwq := hB1.trans (hbq.mono hB1.size)
          have hx1 := (hbq.block _ hl1).trans HQ.out.1
          have hx2 := (hbq.block _ (by omega)).trans HQ.out.2.1
          have hx3 := (hbq.block _ hl2).trans HQ.out.2.2
          by_cases hlt : j < kids.length
          · have hltm : j < (kids.map Pn.s79).length := by rw [List.length_map]; exact hlt
            obtain ⟨kb, ko, A8, c8, rfl, hkb, q0, q1, q2, q3, q4, q5, q6, q7, q8, hc8, hC8⟩ := at79 HK2.out hltm
            have hks : (kids.map Pn.s79)[j]'hltm = (kids[j]).s79 := by rw [List.getElem_map]
            have hkok := HOK.out _ (List.getElem_mem hlt)
            obtain ⟨s, hs⟩ : ∃ s, (kids[j]).s79 = s := ⟨_, rfl⟩
            rw [hks, hs] at q0 q1 q2 q3 q4 q5 q6 q7 q8 hc8 hC8
            have hc77 := Lib.hid (fun X (hX : Below wq.heap.size wq X) => refBytes_call hkok hs (Kd.C_below hC8 (hwq.trans (hX.mono hwq.size))) hc8)
            have hc51 := Lib.hid (fun X (hX : Below wq.heap.size wq X) => refLeaves_call hkok hs (Kd.C_below hC8 (hwq.trans (hX.mono hwq.size))) hc8)
            have ht := Pn.Ok.toks _ hkok
            obtain ⟨a1, ha1⟩ : ∃ a, a = bytesOf (PnsLeaves (kids.take j)) := ⟨_, rfl⟩
            obtain ⟨a2, ha2⟩ : ∃ a, a = (kids[j]).bytes := ⟨_, rfl⟩
            obtain ⟨a3, ha3⟩ : ∃ a, a = bytesOf (PnsLeaves (kids.take (j + 1))) := ⟨_, rfl⟩
            obtain ⟨b1, hb1⟩ : ∃ a, a = (PnsLeaves (kids.take j)).length := ⟨_, rfl⟩
            obtain ⟨b2, hb2⟩ : ∃ a, a = (kids[j]).leaves.length := ⟨_, rfl⟩
            obtain ⟨b3, hb3⟩ : ∃ a, a = (PnsLeaves (kids.take (j + 1))).length := ⟨_, rfl⟩
            have hsum : a3 = a1 + a2 := by rw [ha1, ha2, ha3]; exact bytesLeaves_take hlt
            have hlen3 : b3 = b1 + b2 := by rw [hb1, hb2, hb3, pnsLeaves_take hlt, List.length_append]
            have hle := pnsLeaves_split kids (j + 1) HOK.out
            rw [← ha3, ← hb3] at hle
            have hS := HS.out
            rw [← ha1, ← hb1] at hS
            have h20 := ht.by0
            have h21 := ht.by1
            have h22 := ht.max
            rw [← ha2] at h20 h21
            rw [← hb2] at h22
            have ha10 : 0 ≤ a1 := by
              rw [ha1]
              refine bytesOf_nn fun t ht => ?_
              rw [PnsLeaves_eq] at ht
              obtain ⟨k, hk, ht⟩ := List.mem_flatMap.1 ht
              exact (Pn.Ok.toks k (HOK.out k (List.mem_of_mem_take hk))).lo t ht
            have hwa : IntKind.i64.wrap (a1 + a2) = a3 := by rw [IntKind.wrap_i64]; omega
            have hwb : IntKind.i64.wrap ((b1 : Int) + (b2 : Int)) = (b3 : Int) := by rw [IntKind.wrap_i64]; omega
            have hwj : IntKind.i64.wrap ((j : Int) + 1) = ((j + 1 : Nat) : Int) := by rw [IntKind.wrap_i64]; omega
            rw [← ha1, ← hb1]
            rw [← ha2] at hc77
            have d0 := (hwq.cell (p := ⟨kb, _, none⟩) hkb).trans q0
            have d1 := (hwq.cell (p := ⟨kb, _, none⟩) hkb).trans q1
            have d2 := (hwq.cell (p := ⟨kb, _, none⟩) hkb).trans q2
            have d3 := (hwq.cell (p := ⟨kb, _, none⟩) hkb).trans q3
            have d4 := (hwq.cell (p := ⟨kb, _, none⟩) hkb).trans q4
            have d5 := (hwq.cell (p := ⟨kb, _, none⟩) hkb).trans q5
            have d6 := (hwq.cell (p := ⟨kb, _, none⟩) hkb).trans q6
            have d7 := (hwq.cell (p := ⟨kb, _, none⟩) hkb).trans q7
            have d8 := (hwq.cell (p := ⟨kb, _, none⟩) hkb).trans q8
            have hkbq : kb < wq.heap.size := Nat.lt_of_lt_of_le hkb hwq.size
            have HA := Lib.hid (And.intro ha3 hb3)
            have HB2 := Lib.hid hb2
            have HX3 := Lib.hid hx3
            have HD := Lib.hid (fun X (hX : Below wq.heap.size wq X) => And.intro ((hX.cell (p := ⟨kb, ko + j * 9, none⟩) hkbq).trans d0) (And.intro ((hX.cell (p := ⟨kb, ko + j * 9 + 1, none⟩) hkbq).trans d1) (And.intro ((hX.cell (p := ⟨kb, ko + j * 9 + 2, none⟩) hkbq).trans d2) (And.intro ((hX.cell (p := ⟨kb, ko + j * 9 + 3, none⟩) hkbq).trans d3) (And.intro ((hX.cell (p := ⟨kb, ko + j * 9 + 4, none⟩) hkbq).trans d4) (And.intro ((hX.cell (p := ⟨kb, ko + j * 9 + 5, none⟩) hkbq).trans d5) (And.intro ((hX.cell (p := ⟨kb, ko + j * 9 + 6, none⟩) hkbq).trans d6) (And.intro ((hX.cell (p := ⟨kb, ko + j * 9 + 7, none⟩) hkbq).trans d7) ((hX.cell (p := ⟨kb, ko + j * 9 + 8, none⟩) hkbq).trans d8)))))))))
            have hltI : (j : Int) < (kids.length : Int) := by omega
            have hj0 : (0 : Int) ≤ (j : Int) := Int.natCast_nonneg _
            clear q0 q1 q2 q3 q4 q5 q6 q7 q8 hks hs hC8 hx1 hx2 hx3 hltm HS ha1 ha2 ha3 hb1 hb2 hb3 hsum hlen3 ht
            unfold nodeV at hc77 hc51
            by_cases hbig : 65536 < a3 ∨ 262144 < b3
            · have HR := Lib.hid (show makeP head body prod st lk fm kids = .error 3 by
                unfold makeP
                rw [if_neg HE2.out, if_neg (by rw [HBODY.out]; simp), if_pos (by omega)])
              have HBIG := Lib.hid hbig
              clear hbig
              go_wp2_with (first
                | (go_at_call 77; refine (hc77.out _ (Below.refl _ _)).mono ?_; rintro e w1 ⟨rfl, hb1⟩; obtain ⟨d0, d1, d2, d3, d4, d5, d6, d7, d8⟩ := HD.out _ hb1)
                | (go_at_call 51; refine (hc51.out _ hb1).mono ?_; rintro e w2 ⟨v2, rfl, hr2, hb2⟩; obtain ⟨A2, c2, e2⟩ := Kd.R_slice hr2; rw [List.length_map, ← HB2.out] at e2; subst e2; have hb12 := hb1.trans (hb2.mono hb1.size); have hx4 := (hb12.block _ (Array.getElem?_eq_some_iff.1 HX3.out).1).trans HX3.out; obtain ⟨r0, r1, r2, r3, r4, r5, r6, r7, r8⟩ := nine_of hx4; have hz : ∀ i, w2.frozen? ⟨w.heap.size + 1 + 1, i, none⟩ = false := fun i => frozen_of_heap hx4))
              all_goals first
                | (exfalso; have := HBIG.out; omega)
                | exact end79 (X := put9 w2 (w.heap.size + 1 + 1) (.int .i64 0) (.int .i64 0) (.int .i64 0) (.int .i64 0) (.int .i64 0) (.int .i64 0) (.int .i64 0) (.bool false) (.slice none 0 0)) rfl rfl (put9_heap hx4 _ _ _ _ _ _ _ _ _) rfl rfl rfl ⟨put9_below (hwq.trans (hb12.mono hwq.size)) (by omega) _ _ _ _ _ _ _ _ _, .inl ⟨3, HR.out, by decide, rfl⟩⟩
            · have hs1 : a3 ≤ 65536 := by omega
              have hs2 : (b3 : Int) ≤ 262144 := by omega
              clear hbig
              go_wp2_with (first
                | (go_at_call 77; refine (hc77.out _ (Below.refl _ _)).mono ?_; rintro e w1 ⟨rfl, hb1⟩; obtain ⟨d0, d1, d2, d3, d4, d5, d6, d7, d8⟩ := HD.out _ hb1)
                | (go_at_call 51; refine (hc51.out _ hb1).mono ?_; rintro e w2 ⟨v2, rfl, hr2, hb2⟩; obtain ⟨A2, c2, e2⟩ := Kd.R_slice hr2; rw [List.length_map, ← HB2.out] at e2; subst e2; have hb12 := hb1.trans (hb2.mono hb1.size)))
              go_roundw
              case rel => exact ⟨j + 1, by go_num, by omega, by rw [HA.out.1], by rw [HA.out.2], hbq.trans (hb12.mono hbq.size), by show _ ∧ _; rw [← HA.out.1, ← HA.out.2]; omega⟩
              case measure => simp [intOf]; omega
          · have hge : ¬ ((j : Int) < (kids.length : Int)) := by omega
            have hfull : PnsLeaves (kids.take j) = PnsLeaves kids := by rw [List.take_of_length_le (by omega)]
            have HR := Lib.hid (show makeP head body prod st lk fm kids = .ok (.mk head prod 0 0 st lk fm kids) by
              have h := HS.out
              rw [hfull] at h
              unfold makeP
              rw [if_neg HE2.out, if_neg (by rw [HBODY.out]; simp), if_neg (by omega)])
            have p0 : wq.cell? ⟨w.heap.size, 0, none⟩ = some (.int .i64 head) := cell_of_heap hx1 rfl
            have s0 : wq.cell? ⟨w.heap.size + 1, 0, none⟩ = some (.int .i64 st) := cell_of_heap hx2 rfl
            have s1 : wq.cell? ⟨w.heap.size + 1, 1, none⟩ = some (.int .i64 lk) := cell_of_heap hx2 rfl
            have s2 : wq.cell? ⟨w.heap.size + 1, 2, none⟩ = some (.bool fm) := cell_of_heap hx2 rfl
            obtain ⟨r0, r1, r2, r3, r4, r5, r6, r7, r8⟩ := nine_of hx3
            have hz : ∀ i, wq.frozen? ⟨w.heap.size + 1 + 1, i, none⟩ = false := fun i => frozen_of_heap hx3
            have HX3 := Lib.hid hx3
            clear hfull HS hx1 hx2 hx3
            go_wp2_with fail
            exact end79 (X := put9 wq (w.heap.size + 1 + 1) (.int .i64 head) (.int .i64 prod) (.int .i64 0) (.int .i64 0) (.int .i64 0) (.int .i64 st) (.int .i64 lk) (.bool fm) (.slice ka kids.length kc)) rfl rfl (put9_heap HX3.out _ _ _ _ _ _ _ _ _) rfl rfl rfl ⟨put9_below hwq (by omega) _ _ _ _ _ _ _ _ _, .inr ⟨HR.out, rfl⟩⟩

end Go.Proofs.Ytcjpmgfobnaoeaa



/- nodes.Tree: the walk. -/
namespace Go.Proofs.Ytcjpmgfobnaoeaa
set_option linter.unusedVariables false
set_option linter.unusedSimpArgs false
open Go.RowKit
attribute [local irreducible] Calls

/-- A region that draws its order, its last operation free of S. -/
theorem wp_region_last {P : Program} {id : Nat} {l : List Oper} {Q : Exit → Act → World → Prop} {a : Act} {w : World} {S : World → Prop} (hm : P.follows .mixedOrders = true) (hS : S w.drew) (N : Nat) (hN : l.length = N)
    (h : S w.drew → AnyL P .any l.toArray Q S N (List.replicate N false).toArray a w.drew) : (Code.region id l.toArray true).wp P Q a w := by
  refine wp_region_any hm ?_
  subst hN
  exact AnyL.any _ _ _ _ (by simpa using h hS)

end Go.Proofs.Ytcjpmgfobnaoeaa

/- builder.plain: the leaf. -/
namespace Go.Proofs.Ytcjpmgfobnaoeaa
set_option linter.unusedVariables false
set_option linter.unusedSimpArgs false
open PNodesTell (S79 S72 S57 S66 S64 S24 k79 k72)
open Go.RowKit Go.Proofs.YtcjpmgfobnaoeaaW.PrintWords
attribute [local irreducible] Calls

/-- A node that is none, its kids' value open. -/
def zeroV (kv : Value) : Value := .agg #[.int .i64 0, .int .i64 0, .int .i64 0, .int .i64 0, .int .i64 0, .int .i64 0, .int .i64 0, .bool false, kv]
/-- A leaf of the reference. -/
def leafV (k l wd st : Int) (fm : Bool) (kv : Value) : Value := .agg #[.int .i64 k, .int .i64 (-1), .int .i64 k, .int .i64 l, .int .i64 wd, .int .i64 st, .int .i64 (-1), .bool fm, kv]

/-- What the reference's Leaf says. -/
theorem refLeaf_ok {k l wd st : Int} {fm : Bool} {n : Pn} (h : leafP k l wd st fm = .ok n) (w : World) : Calls Try.prog 46 #[.agg #[.int .i64 k, .int .i64 l, .int .i64 wd], .int .i64 st, .bool fm] w fun e w' =>
    ∃ A c, e = .returned (.tuple #[leafV k l wd st fm (.slice A 0 c), .int .i64 0]) ∧ Below w.heap.size w w' := by
  unfold leafP at h
  split at h
  · simp at h
  · rename_i h1
    split at h
    · simp at h
    · rename_i h2
      have hf : PNodesTell.rootstockref20_Leaf.f 1 k l wd st fm = some (k, -1, k, l, wd, st, -1, fm, [], 0) := by
        have e1 : wrap64 (65536 - l) = 65536 - l := by unfold wrap64; omega
        have e2 : decide (wd < 0) = false := decide_eq_false (by omega)
        unfold PNodesTell.rootstockref20_Leaf.f
        rw [if_neg (by omega), if_neg (by omega), if_neg (by omega), if_neg (by omega), e2]
        simp only [PNodesTell.rootstockref20_Leaf.j0]
        rw [if_neg (by simp), if_neg (by omega), e1, if_neg (by omega)]
      refine (PNodesTell.rootstockref20_Leaf.calls 1 _ _ _ _ _ _ _ _ _ _ _ _ _ _ _ w hf).mono fun e w' => ?_
      rintro ⟨v, rfl, hR, hb⟩
      obtain ⟨A, c, rfl⟩ := Kd.R_slice hR
      exact ⟨A, c, rfl, hb⟩
theorem refLeaf_bad {k l wd st : Int} {fm : Bool} {x : Int} (h : leafP k l wd st fm = .error x) (w : World) : Calls Try.prog 46 #[.agg #[.int .i64 k, .int .i64 l, .int .i64 wd], .int .i64 st, .bool fm] w fun e w' =>
    ∃ A c, e = .returned (.tuple #[zeroV (.slice A 0 c), .int .i64 x]) ∧ Below w.heap.size w w' := by
  have hf : PNodesTell.rootstockref20_Leaf.f 1 k l wd st fm = some (0, 0, 0, 0, 0, 0, 0, false, [], x) := by
    unfold leafP at h
    unfold PNodesTell.rootstockref20_Leaf.f
    by_cases h1 : k < 0 ∨ 32 ≤ k ∨ st < 0 ∨ l < 0 ∨ wd < 0
    · rw [if_pos h1] at h
      injection h with h
      subst h
      have hj : ∀ b, b = true → PNodesTell.rootstockref20_Leaf.j0 1 st fm b k l wd = some (0, 0, 0, 0, 0, 0, 0, false, [], 2) := by
        rintro b rfl
        simp only [PNodesTell.rootstockref20_Leaf.j0, if_true]
      by_cases c1 : k < 0
      · rw [if_pos c1]; exact hj _ rfl
      · rw [if_neg c1]
        by_cases c2 : k ≥ 32
        · rw [if_pos c2]; exact hj _ rfl
        · rw [if_neg c2]
          by_cases c3 : st < 0
          · rw [if_pos c3]; exact hj _ rfl
          · rw [if_neg c3]
            by_cases c4 : l < 0
            · rw [if_pos c4]; exact hj _ rfl
            · rw [if_neg c4]; exact hj _ (decide_eq_true (by omega))
    · rw [if_neg h1] at h
      split at h
      · rename_i h2
        injection h with h
        subst h
        have e1 : wrap64 (65536 - l) = 65536 - l ∨ 65536 < l := by unfold wrap64; omega
        have e2 : decide (wd < 0) = false := decide_eq_false (by omega)
        rw [if_neg (by omega), if_neg (by omega), if_neg (by omega), if_neg (by omega), e2]
        simp only [PNodesTell.rootstockref20_Leaf.j0]
        rw [if_neg (by simp)]
        by_cases c1 : l > 65536
        · rw [if_pos c1]
        · rw [if_neg c1, if_pos (by omega)]
      · simp at h
  refine (PNodesTell.rootstockref20_Leaf.calls 1 _ _ _ _ _ _ _ _ _ _ _ _ _ _ _ w hf).mono fun e w' => ?_
  rintro ⟨v, rfl, hR, hb⟩
  obtain ⟨A, c, rfl⟩ := Kd.R_slice hR
  exact ⟨A, c, rfl, hb⟩

theorem V_empty (W : World) (ok : Nat → Prop) (A : Option Addr) (c : Nat) : Kd.V k79 79 W 0 ok (.slice A 0 c) [] :=
  ⟨A, c, rfl, Nat.zero_le _, fun _ _ => ⟨rfl, by simp, fun h => by simp at h⟩⟩

end Go.Proofs.Ytcjpmgfobnaoeaa

/- builder.plain: its loop over the kids; plain parts. -/
namespace Go.Proofs.Ytcjpmgfobnaoeaa
set_option linter.unusedVariables false
set_option linter.unusedSimpArgs false
open PNodesTell (S79 S72 S57 S66 S64 S24 k79 k72)
open Go.RowKit Go.Proofs.YtcjpmgfobnaoeaaW.PrintWords

theorem info79 : (Try.prog.info? 79).map (fun i => (i.zero, i.size, i.bytes)) = some (some (.agg #[.int .i64 0, .int .i64 0, .int .i64 0, .int .i64 0, .int .i64 0, .int .i64 0, .int .i64 0, .bool false, .slice none 0 0]), 9, 88) := by kernel_rfl

/-- A kid that is done: its cells. -/
def nodeC (s : S79) (kv : Value) : List Value := [.int .i64 s.f0, .int .i64 s.f1, .int .i64 s.f2.f0, .int .i64 s.f2.f1, .int .i64 s.f2.f2, .int .i64 s.f3.f0, .int .i64 s.f3.f1, .bool s.f3.f2, kv]
def kidN (p : Pn × Value) : List Value := nodeC p.1.s79 p.2
theorem kidN_get : ∀ (l : List (Pn × Value)) (i : Nat) (h : i < l.length) (j : Nat), j < 9 → (l.flatMap kidN)[i * 9 + j]? = (kidN l[i])[j]?
  | s :: l, 0, _, j, hj => by
    rw [List.flatMap_cons, Nat.zero_mul, Nat.zero_add, List.getElem?_append_left (by simp [kidN, nodeC]; omega)]
    rfl
  | s :: l, i + 1, h, j, hj => by
    rw [List.flatMap_cons, List.getElem?_append_right (by simp [kidN, nodeC]; omega)]
    have := kidN_get l i (by simpa using h) j hj
    simp only [List.getElem_cons_succ]
    rw [← this]
    congr 1
    simp only [kidN, nodeC, List.length_cons, List.length_nil]
    omega
theorem kidN_len (l : List (Pn × Value)) : (l.flatMap kidN).length = l.length * 9 := by
  induction l with
  | nil => rfl
  | cons s l ih => rw [List.flatMap_cons, List.length_append, ih]; simp [kidN, nodeC]; omega

/-- A row of kids, as the printed functions read it. -/
theorem V_row {w : World} {base n : Nat} {v : Value} {l : List (Pn × Value)} {ok : Nat → Prop} (h : w.ownsRow base 79 9 v n (l.flatMap kidN)) (hv : ∀ k, v.ownBlock = some k → ok k) (hk : ∀ p ∈ l, Kd.V k79 79 w 0 ok p.2 (p.1.kids.map Pn.s79)) :
    Kd.V k79 79 w 0 ok v (l.map fun p => p.1.s79) := by
  have hn : n = l.length := by have := h.1; rw [kidN_len] at this; omega
  subst hn
  rcases h.2 with ⟨rfl, h0⟩ | ⟨g, c, cur, rfl, hb, hg, h3, h4, h5, h6⟩
  · obtain rfl : l = [] := List.eq_nil_of_length_eq_zero (by omega)
    exact Kd.V_nil _ _ _ _ _
  · refine ⟨some ⟨g, 0, none⟩, c, by simp, by simp; exact h3, ?_⟩
    intro W' hW
    have hg' : W'.heap[g]? = some (.cells cur 79 (0, 0)) := (hW g (hv g rfl) (Array.getElem?_eq_some_iff.1 hg).1).trans hg
    refine ⟨rfl, by simp; unfold maxLen at h4; omega, fun _ => ⟨⟨g, 0, none⟩, rfl, fun j s hj => ?_⟩⟩
    have hjl : j < l.length := by have := (List.getElem?_eq_some_iff.1 hj).1; simpa using this
    obtain rfl : (l[j]).1.s79 = s := by
      rw [List.getElem?_map, List.getElem?_eq_getElem hjl] at hj
      simpa using hj
    obtain ⟨A8, c8, hkv, hl8, hF⟩ := hk l[j] (List.getElem_mem hjl)
    have hC := hF W' hW
    have hkids : ((l[j]).1.kids.map Pn.s79) = (l[j]).1.s79.f4 := by rw [Pn.s79_eq]
    rw [hkids] at hC hl8 hkv
    refine ⟨kidN l[j], rfl, ?_, fun i u hi => ?_⟩
    · unfold kidN nodeC
      rw [hkv]
      exact PNodesTell.k79_mk W' _ hl8 hC
    · have hi9 : i < 9 := by have := (List.getElem?_eq_some_iff.1 hi).1; simpa [kidN, nodeC] using this
      show W'.cell? ((⟨g, 0, none⟩ : Addr).add (j * 9 + i)) = some u
      rw [show (⟨g, 0, none⟩ : Addr).add (j * 9 + i) = ⟨g, j * 9 + i, none⟩ by rw [Addr.add_lit, Nat.zero_add]]
      refine cell_of_heap hg' ?_
      have := kidN_get l j hjl i hi9
      rw [hi, ← h6, List.getElem?_take] at this
      split at this
      · simpa using this
      · simp at this

end Go.Proofs.Ytcjpmgfobnaoeaa

/- builder.plain: the walk. -/
namespace Go.Proofs.Ytcjpmgfobnaoeaa
set_option linter.unusedVariables false
set_option linter.unusedSimpArgs false
open PNodesTell (S79 S72 S57 S66 S64 S24 k79 k72)
open Go.RowKit Go.Proofs.YtcjpmgfobnaoeaaW.PrintWords
attribute [local irreducible] Calls

theorem RefMakeSays.err {w w' : World} {head : Int} {body : List Int} {prod st lk : Int} {fm : Bool} {kids : List Pn} {kv : Value} {x : Int} {e : Ending} (h : RefMakeSays w head body prod st lk fm kids kv e w') (hm : makeP head body prod st lk fm kids = .error x) :
    Below w.heap.size w w' ∧ e = .returned (.tuple #[zero79, .int .i64 x]) := by
  rcases h.2 with ⟨y, h1, h2, h3⟩ | ⟨h1, _⟩
  · rw [hm] at h1
    injection h1 with h1
    subst h1
    exact ⟨h.1, h3⟩
  · rw [hm] at h1; simp at h1
theorem RefMakeSays.ok {w w' : World} {head : Int} {body : List Int} {prod st lk : Int} {fm : Bool} {kids : List Pn} {kv : Value} {n : Pn} {e : Ending} (h : RefMakeSays w head body prod st lk fm kids kv e w') (hm : makeP head body prod st lk fm kids = .ok n) :
    Below w.heap.size w w' ∧ e = .returned (.tuple #[.agg #[.int .i64 head, .int .i64 prod, .int .i64 0, .int .i64 0, .int .i64 0, .int .i64 st, .int .i64 lk, .bool fm, kv], .int .i64 0]) := by
  rcases h.2 with ⟨y, h1, _⟩ | ⟨_, h1⟩
  · rw [hm] at h1; simp at h1
  · exact ⟨h.1, h1⟩

end Go.Proofs.Ytcjpmgfobnaoeaa



/- tells, and the reference's Spots. -/
namespace Go.Proofs.Ytcjpmgfobnaoeaa
set_option linter.unusedVariables false
set_option linter.unusedSimpArgs false
open PNodesTell (S79 S72 S57 S66 S64 S24 k79 k72)
open Go.RowKit Go.Proofs.YtcjpmgfobnaoeaaW.PrintWords
attribute [local irreducible] Calls

theorem plain_ok : ∀ n : Nd, n.WF → n.plain.Ok := by
  refine Nd.ind ?_
  intro n ih h
  obtain ⟨a1, a2, _, _⟩ := Nd.WF.adds n h
  refine Pn.Ok.mk' ⟨?_⟩ ?_
  · rw [n.plain_eq]
    simp only [Pn.pr, Pn.kids, Pn.tl, Pn.tw]
    rcases h.cases with ⟨h1, h2, h3, h4, h5, h6, h7, h8, _⟩ | ⟨h1, h2, h3, h4, h5, h6, h7, h8, h9, _⟩
    · refine .inl ⟨by omega, by rw [h2]; rfl, h1, ?_, h7, ?_⟩ <;> (rw [if_pos (by omega)]; omega)
    · have hl := leaves_node (n := n) h1
      refine .inr ⟨h1, by simpa using h2, by rw [if_neg (by omega)], h7, ?_, ?_⟩
      · have : n.plain.bytes = bytesOf (PnsLeaves (n.kids.map Nd.plain)) := by unfold Pn.bytes; rw [hl]
        omega
      · rw [← hl]; omega
  · intro k hk
    rw [n.plain_eq] at hk
    obtain ⟨m, hm, rfl⟩ := List.mem_map.1 hk
    exact ih m hm (h.kid m hm)

/-- The token of a node, as the document has it. -/
def tok79 (n : Nd) : S72 := if n.pr < 0 then ⟨n.sy, n.ld, n.wd⟩ else ⟨0, 0, 0⟩
theorem plain_s79 {n : Nd} (h : n.WF) : n.plain.s79 = ⟨n.sy, n.pr, tok79 n, ⟨n.st, n.lk, n.fm⟩, n.plain.kids.map Pn.s79⟩ := by
  have e : ∀ ld : Int, (Pn.mk n.sy n.pr ld n.wd n.st n.lk n.fm (n.kids.map Nd.plain)).s79 = ⟨n.sy, n.pr, if n.pr < 0 then ⟨n.sy, ld, n.wd⟩ else ⟨0, 0, 0⟩, ⟨n.st, n.lk, n.fm⟩, (n.kids.map Nd.plain).map Pn.s79⟩ := fun ld => Pn.s79_eq _
  rw [n.plain_eq, e]
  unfold tok79
  by_cases hp : n.pr < 0
  · rw [if_pos hp, if_pos hp, if_pos hp]; rfl
  · rw [if_neg hp, if_neg hp]; rfl
theorem plain_kids (n : Nd) : n.plain.kids = n.kids.map Nd.plain := by rw [n.plain_eq]; rfl

theorem below_drew1' {B : Nat} {w W : World} (h : Below B w W) : Below B w W.drew := ⟨h.os, h.tape, h.output, h.size, h.block⟩

set_option maxRecDepth 100000 in
set_option maxHeartbeats 8000000 in
theorem tells_call (n : Nd) : ∀ (A : Option Addr) (c : Nat) (w : World), n.In w → n.WF → n.ht ≤ 1000000 → k79.C w A n.plain.s79.f4.length n.plain.s79.f4 → n.plain.s79.f4.length ≤ c →
    Calls Try.prog 48 #[n.ptr, nodeV n.plain.s79 (.slice A n.plain.s79.f4.length c)] w fun e w' => e = .returned (.bool true) ∧ Below w.heap.size w w' := by
  revert n
  refine Nd.ind ?_
  intro n ih A c w hin hwf hht hC hc
  have hok := Nd.WF.ok n hwf
  have hpok := plain_ok n hwf
  obtain ⟨a1, a2, a3, a4⟩ := Nd.WF.adds n hwf
  have hl4 : n.plain.s79.f4 = n.plain.kids.map Pn.s79 := by rw [plain_s79 hwf]
  have hl5 : n.plain.s79.f4.length = n.kids.length := by rw [hl4, List.length_map, plain_kids, List.length_map]
  obtain ⟨t0, ht0⟩ : ∃ x, x = (tok79 n).f0 := ⟨_, rfl⟩
  obtain ⟨t1, ht1⟩ : ∃ x, x = (tok79 n).f1 := ⟨_, rfl⟩
  obtain ⟨t2, ht2⟩ : ∃ x, x = (tok79 n).f2 := ⟨_, rfl⟩
  obtain ⟨b, hb⟩ : ∃ x, x = decide (n.pr < 0) := ⟨_, rfl⟩
  have hnv : ∀ kv, nodeV n.plain.s79 kv = .agg #[.int .i64 n.sy, .int .i64 n.pr, .int .i64 t0, .int .i64 t1, .int .i64 t2, .int .i64 n.st, .int .i64 n.lk, .bool n.fm, kv] := fun kv => by rw [plain_s79 hwf, ht0, ht1, ht2]; rfl
  have htok : ∀ W, Below w.heap.size w W → Calls Try.prog 60 #[n.ptr] W fun e w' => e = .returned (.tuple #[.agg #[.int .i64 t0, .int .i64 t1, .int .i64 t2], .bool b]) ∧ Below W.heap.size W w' := fun W hW => by
    rw [ht0, ht1, ht2, hb]
    unfold tok79
    by_cases hp : n.pr < 0
    · rw [if_pos hp, decide_eq_true hp]; exact token_leaf n W (hin.below hW) (by have := hok.ht1; omega) hp
    · rw [if_neg hp, decide_eq_false hp]; exact token_node n W (hin.below hW) (by have := hok.ht1; omega) (by omega)
  have hb77 : ∀ W, Below w.heap.size w W → Calls Try.prog 77 #[nodeV n.plain.s79 (.slice A n.plain.s79.f4.length c)] W fun e w' => e = .returned (.int .i64 n.bt) ∧ Below W.heap.size W w' := fun W hW => by rw [a2]; exact refBytes_call hpok rfl (Kd.C_below hC hW) hc
  have hb78 : ∀ W, Below w.heap.size w W → Calls Try.prog 78 #[nodeV n.plain.s79 (.slice A n.plain.s79.f4.length c)] W fun e w' => e = .returned (.int .i64 n.ld) ∧ Below W.heap.size W w' := fun W hW => by rw [a3]; exact refLead_call hpok rfl (Kd.C_below hC hW) hc
  have hb79 : ∀ W, Below w.heap.size w W → Calls Try.prog 79 #[nodeV n.plain.s79 (.slice A n.plain.s79.f4.length c)] W fun e w' => e = .returned (.int .i64 n.ht) ∧ Below W.heap.size W w' := fun W hW => by rw [a4]; exact refHeight_call hpok (by omega) rfl (Kd.C_below hC hW) hc
  have hb51 : ∀ W, Below w.heap.size w W → Calls Try.prog 51 #[nodeV n.plain.s79 (.slice A n.plain.s79.f4.length c)] W fun e w' => ∃ v, e = .returned v ∧ k72.R 72 w' W.heap.size (fun _ => True) v (n.plain.leaves.map t72) ∧ Below W.heap.size W w' := fun W hW => refLeaves_call hpok rfl (Kd.C_below hC hW) hc
  rw [hnv] at hb77 hb78 hb79 hb51 ⊢
  rw [hl5] at hb77 hb78 hb79 hb51 ⊢
  have HTOK := Lib.hid htok
  have HRB := Lib.hid hb77
  have HRL := Lib.hid hb78
  have HRH := Lib.hid hb79
  have HLV := Lib.hid hb51
  have HKD := Lib.hid (fun W (hW : Below w.heap.size w W) => kids_some n W (hin.below hW) (by have := hok.ht1; omega) (by have := hok.klen; omega))
  have HSY := Lib.hid (fun W (hW : Below w.heap.size w W) => sym_some n W (hin.below hW) (by have := hok.ht1; omega))
  have HPR := Lib.hid (fun W (hW : Below w.heap.size w W) => prod_some n W (hin.below hW) (by have := hok.ht1; omega))
  have HST := Lib.hid (fun W (hW : Below w.heap.size w W) => stamp_some n W (hin.below hW) (by have := hok.ht1; omega))
  have HTK := Lib.hid (fun W (hW : Below w.heap.size w W) => tokens_some n W (hin.below hW))
  have HBT := Lib.hid (fun W (hW : Below w.heap.size w W) => bytes_some n W (hin.below hW))
  have HLD := Lib.hid (fun W (hW : Below w.heap.size w W) => lead_some n W (hin.below hW))
  have HHT := Lib.hid (fun W (hW : Below w.heap.size w W) => height_some n W (hin.below hW))
  have HBOX := Lib.hid (heap_alloc_new w (.cells #[.int .i64 n.sy, .int .i64 n.pr, .int .i64 t0, .int .i64 t1, .int .i64 t2, .int .i64 n.st, .int .i64 n.lk, .bool n.fm, .slice A n.kids.length c] 79))
  have hbl := below_alloc w (.cells #[.int .i64 n.sy, .int .i64 n.pr, .int .i64 t0, .int .i64 t1, .int .i64 t2, .int .i64 n.st, .int .i64 n.lk, .bool n.fm, .slice A n.kids.length c] 79)
  have hlt0 : w.heap.size < (w.alloc (.cells #[.int .i64 n.sy, .int .i64 n.pr, .int .i64 t0, .int .i64 t1, .int .i64 t2, .int .i64 n.st, .int .i64 n.lk, .bool n.fm, .slice A n.kids.length c] 79)).heap.size := by simp
  have HIH := Lib.hid ih
  have HIN := Lib.hid (And.intro hin hwf)
  have HC := Lib.hid (And.intro hC hc)
  have HL := Lib.hid (And.intro hl4 hl5)
  have HLEN := Lib.hid a1
  have HB := Lib.hid hb
  have hkl := hok.klen
  clear htok hb77 hb78 hb79 hb51 hnv ih hin hwf hC hc hl4 hl5 a1 a2 a3 a4 hpok hok ht0 ht1 ht2 hb
  unfold Nd.ptr at *
  go_enter Try.func48, Try.ntmps48
  apply wp_seq_k
  intro K1 h1
  have H1 := Lib.hid h1
  clear h1
  go_wp2_with fail
  refine H1.out _ _ ?_
  clear H1 K1
  generalize w.alloc (.cells #[.int .i64 n.sy, .int .i64 n.pr, .int .i64 t0, .int .i64 t1, .int .i64 t2, .int .i64 n.st, .int .i64 n.lk, .bool n.fm, .slice A n.kids.length c] 79) = W at *
  go_upto_region 3 with (first
    | (go_at_call 60; refine (HTOK.out _ hbl).mono ?_; rintro e w1 ⟨rfl, hs1⟩; have hb1 := hbl.trans (hs1.mono hbl.size); have hb1' := hb1.trans ((below_alloc w1 (.cells #[.int .i64 t0, .int .i64 t1, .int .i64 t2] 72)).mono hb1.size))
    | (go_at_call 34; refine (HKD.out _ hb1').mono ?_; rintro e w2 ⟨v2, rfl, hr2, hs2⟩; obtain ⟨A2, c2, rfl, hc2⟩ := ownsRow_any hr2; have HKC := Lib.hid hc2; clear hr2 hc2))
  have hs12 := (below_alloc w1 (.cells #[.int .i64 t0, .int .i64 t1, .int .i64 t2] 72)).trans (hs2.mono (by simp))
  have hb2 := hb1.trans (hs12.mono hb1.size)
  have htb : w2.heap[w1.heap.size]? = some (.cells #[.int .i64 t0, .int .i64 t1, .int .i64 t2] 72 (0, 0)) := (hs2.block _ (by simp)).trans (heap_alloc_new w1 _)
  have hbx : w2.heap[w.heap.size]? = some (.cells #[.int .i64 n.sy, .int .i64 n.pr, .int .i64 t0, .int .i64 t1, .int .i64 t2, .int .i64 n.st, .int .i64 n.lk, .bool n.fm, .slice A n.kids.length c] 79 (0, 0)) := (hs12.block _ (by have := hs1.size; omega)).trans ((hs1.block _ hlt0).trans HBOX.out)
  have HBX := Lib.hid hbx
  have hsb : Below W.heap.size W w2 := hs1.trans (hs12.mono hs1.size)
  clear hb1'
  obtain ⟨r0, r1, r2, r3, r4, r5, r6, r7, r8⟩ := nine_of hbx
  have q0 : w2.cell? ⟨w1.heap.size, 0, none⟩ = some (.int .i64 t0) := cell_of_heap htb rfl
  have q1 : w2.cell? ⟨w1.heap.size, 1, none⟩ = some (.int .i64 t1) := cell_of_heap htb rfl
  have q2 : w2.cell? ⟨w1.heap.size, 2, none⟩ = some (.int .i64 t2) := cell_of_heap htb rfl
  have f0 : ∀ s : Sb w2, s.w.cell? ⟨w.heap.size, 0, none⟩ = some (.int .i64 n.sy) := fun s => s.cell r0
  have f1 : ∀ s : Sb w2, s.w.cell? ⟨w.heap.size, 1, none⟩ = some (.int .i64 n.pr) := fun s => s.cell r1
  have f2 : ∀ s : Sb w2, s.w.cell? ⟨w.heap.size, 2, none⟩ = some (.int .i64 t0) := fun s => s.cell r2
  have f3 : ∀ s : Sb w2, s.w.cell? ⟨w.heap.size, 3, none⟩ = some (.int .i64 t1) := fun s => s.cell r3
  have f4 : ∀ s : Sb w2, s.w.cell? ⟨w.heap.size, 4, none⟩ = some (.int .i64 t2) := fun s => s.cell r4
  have f5 : ∀ s : Sb w2, s.w.cell? ⟨w.heap.size, 5, none⟩ = some (.int .i64 n.st) := fun s => s.cell r5
  have f6 : ∀ s : Sb w2, s.w.cell? ⟨w.heap.size, 6, none⟩ = some (.int .i64 n.lk) := fun s => s.cell r6
  have f7 : ∀ s : Sb w2, s.w.cell? ⟨w.heap.size, 7, none⟩ = some (.bool n.fm) := fun s => s.cell r7
  have f8 : ∀ s : Sb w2, s.w.cell? ⟨w.heap.size, 8, none⟩ = some (.slice A n.kids.length c) := fun s => s.cell r8
  have g0 : ∀ s : Sb w2, s.w.cell? ⟨w1.heap.size, 0, none⟩ = some (.int .i64 t0) := fun s => s.cell q0
  have g1 : ∀ s : Sb w2, s.w.cell? ⟨w1.heap.size, 1, none⟩ = some (.int .i64 t1) := fun s => s.cell q1
  have g2 : ∀ s : Sb w2, s.w.cell? ⟨w1.heap.size, 2, none⟩ = some (.int .i64 t2) := fun s => s.cell q2
  have k32 : ∀ s : Sb w2, Calls Try.prog 32 #[.pointer (some ⟨n.b, 0, none⟩)] s.w fun e w' => e = .returned (.int .i64 n.sy) ∧ ∃ s' : Sb w2, w' = s'.w := fun s => Calls.sb_same (HSY.out _ (hb2.trans (s.below.mono hb2.size)))
  have k44 : ∀ s : Sb w2, Calls Try.prog 44 #[.pointer (some ⟨n.b, 0, none⟩)] s.w fun e w' => e = .returned (.int .i64 n.pr) ∧ ∃ s' : Sb w2, w' = s'.w := fun s => Calls.sb_same (HPR.out _ (hb2.trans (s.below.mono hb2.size)))
  have k61 : ∀ s : Sb w2, Calls Try.prog 61 #[.pointer (some ⟨n.b, 0, none⟩)] s.w fun e w' => e = .returned (.agg #[.int .i64 n.st, .int .i64 n.lk, .bool n.fm]) ∧ ∃ s' : Sb w2, w' = s'.w := fun s => Calls.sb (HST.out _ (hb2.trans (s.below.mono hb2.size)))
  have K32 := Lib.hid k32
  have K44 := Lib.hid k44
  have K61 := Lib.hid k61
  have e0 : (n.sy != n.sy) = false := bne_self_eq_false _
  have e1 : (n.pr != n.pr) = false := bne_self_eq_false _
  have e2 : (binOp .neq 57 (.agg #[.int .i64 n.st, .int .i64 n.lk, .bool n.fm]) (.agg #[.int .i64 n.st, .int .i64 n.lk, .bool n.fm])) = (binOp .neq 57 (.agg #[.int .i64 n.st, .int .i64 n.lk, .bool n.fm]) (.agg #[.int .i64 n.st, .int .i64 n.lk, .bool n.fm])) := rfl
  have e5 : ((n.kids.length : Int) != (n.kids.length : Int)) = false := bne_self_eq_false _
  have eb : decide (n.pr < 0) = b := HB.out.symm
  have ebb : (b != b) = false := bne_self_eq_false _
  have e57 : ∀ X : World, (binOp .neq 57 (.agg #[.int .i64 n.st, .int .i64 n.lk, .bool n.fm]) (.agg #[.int .i64 n.st, .int .i64 n.lk, .bool n.fm])).run Try.prog X = .ok (.bool false) X := fun X => by rw [neq57]; simp
  have e72 : ∀ X : World, (binOp .neq 72 (.agg #[.int .i64 t0, .int .i64 t1, .int .i64 t2]) (.agg #[.int .i64 t0, .int .i64 t1, .int .i64 t2])).run Try.prog X = .ok (.bool false) X := fun X => by rw [neq72]; simp
  clear k32 k44 k61 e2 r0 r1 r2 r3 r4 r5 r6 r7 r8 q0 q1 q2 hbx htb
  refine wp_region_sb (by kernel_rfl) (by kernel_rfl) ?_
  repeat (go_big_quiet_step (first | (go_at_call 32; exact K32.out _) | (go_at_call 44; exact K44.out _) | (go_at_call 61; exact K61.out _)))
  refine wpQuiet_nil ?_
  intro s3
  clear f0 f1 f2 f3 f4 f5 f6 f7 f8 g0 g1 g2 e0 e1 e5 eb ebb e57 e72
  have hb3 := hb2.trans (s3.below.mono hb2.size)
  have hbx3 := (s3.below.block _ (Array.getElem?_eq_some_iff.1 HBX.out).1).trans HBX.out
  have hsW := s3.below
  clear HBX
  generalize s3.w = w0 at *
  clear s3
  go_upto_region 5 with fail
  have hlt3 := (Array.getElem?_eq_some_iff.1 hbx3).1
  have SK := Lib.hid (fun X (hX : Below w0.heap.size w0 X) => And.intro ((hX.cell (p := ⟨w.heap.size, 0, none⟩) hlt3).trans (cell_of_heap hbx3 rfl)) (And.intro ((hX.cell (p := ⟨w.heap.size, 1, none⟩) hlt3).trans (cell_of_heap hbx3 rfl)) (And.intro ((hX.cell (p := ⟨w.heap.size, 2, none⟩) hlt3).trans (cell_of_heap hbx3 rfl)) (And.intro ((hX.cell (p := ⟨w.heap.size, 3, none⟩) hlt3).trans (cell_of_heap hbx3 rfl)) (And.intro ((hX.cell (p := ⟨w.heap.size, 4, none⟩) hlt3).trans (cell_of_heap hbx3 rfl)) (And.intro ((hX.cell (p := ⟨w.heap.size, 5, none⟩) hlt3).trans (cell_of_heap hbx3 rfl)) (And.intro ((hX.cell (p := ⟨w.heap.size, 6, none⟩) hlt3).trans (cell_of_heap hbx3 rfl)) (And.intro ((hX.cell (p := ⟨w.heap.size, 7, none⟩) hlt3).trans (cell_of_heap hbx3 rfl)) ((hX.cell (p := ⟨w.heap.size, 8, none⟩) hlt3).trans (cell_of_heap hbx3 rfl))))))))))
  have SK : Hid (∀ X, Below w0.heap.size w0 X → (fun X => X.cell? ⟨w.heap.size, 0, none⟩ = some (.int .i64 n.sy) ∧ X.cell? ⟨w.heap.size, 1, none⟩ = some (.int .i64 n.pr) ∧ X.cell? ⟨w.heap.size, 2, none⟩ = some (.int .i64 t0) ∧ X.cell? ⟨w.heap.size, 3, none⟩ = some (.int .i64 t1) ∧ X.cell? ⟨w.heap.size, 4, none⟩ = some (.int .i64 t2) ∧ X.cell? ⟨w.heap.size, 5, none⟩ = some (.int .i64 n.st) ∧ X.cell? ⟨w.heap.size, 6, none⟩ = some (.int .i64 n.lk) ∧ X.cell? ⟨w.heap.size, 7, none⟩ = some (.bool n.fm) ∧ X.cell? ⟨w.heap.size, 8, none⟩ = some (.slice A n.kids.length c)) X) := Lib.hid SK.out
  have eL : (n.tk != ((n.plain.leaves.length : Nat) : Int)) = false := by rw [HLEN.out]; exact bne_self_eq_false _
  have eb1 : (n.bt != n.bt) = false := bne_self_eq_false _
  have eb2 : (n.ld != n.ld) = false := bne_self_eq_false _
  have eb3 : (n.ht != n.ht) = false := bne_self_eq_false _
  refine wp_region_last (S := fun X => X.cell? ⟨w.heap.size, 0, none⟩ = some (.int .i64 n.sy) ∧ X.cell? ⟨w.heap.size, 1, none⟩ = some (.int .i64 n.pr) ∧ X.cell? ⟨w.heap.size, 2, none⟩ = some (.int .i64 t0) ∧ X.cell? ⟨w.heap.size, 3, none⟩ = some (.int .i64 t1) ∧ X.cell? ⟨w.heap.size, 4, none⟩ = some (.int .i64 t2) ∧ X.cell? ⟨w.heap.size, 5, none⟩ = some (.int .i64 n.st) ∧ X.cell? ⟨w.heap.size, 6, none⟩ = some (.int .i64 n.lk) ∧ X.cell? ⟨w.heap.size, 7, none⟩ = some (.bool n.fm) ∧ X.cell? ⟨w.heap.size, 8, none⟩ = some (.slice A n.kids.length c)) (by kernel_rfl) (SK.out _ (below_drew1' (Below.refl _ _))) 27 rfl (fun hH => ?_)
  (try simp only [List.getElem_toArray, List.getElem_cons_succ, List.getElem_cons_zero, Act.put, List.setIfInBounds_toArray, List.set_cons_zero, List.set_cons_succ])
  have hz1 := below_drew1' (Below.refl w0.heap.size w0)
  have S1 := hH
  refine AnyL.take (i := 0) (v := ?_) rfl (by kernel_rfl) (by kernel_rfl) (by kernel_rfl) (fun _ _ _ h => h) (Or.inl ⟨by rfl, ?_⟩) S1 ?_
  rotate_left
  · (intro w hSw; (try dsimp only at hSw); go_simp; (try with_reducible rfl))
  (try simp only [List.getElem_toArray, List.getElem_cons_succ, List.getElem_cons_zero, Act.put, List.setIfInBounds_toArray, List.set_cons_zero, List.set_cons_succ])
  refine AnyL.take (i := 2) (v := ?_) rfl (by kernel_rfl) (by kernel_rfl) (by kernel_rfl) (fun _ _ _ h => h) (Or.inl ⟨by rfl, ?_⟩) S1 ?_
  rotate_left
  · (intro w hSw; (try dsimp only at hSw); go_simp; (try with_reducible rfl))
  (try simp only [List.getElem_toArray, List.getElem_cons_succ, List.getElem_cons_zero, Act.put, List.setIfInBounds_toArray, List.set_cons_zero, List.set_cons_succ])
  refine AnyL.step (i := 1) (by kernel_rfl) rfl (fun K hK => ?_)
  (try simp only [List.getElem_toArray, List.getElem_cons_succ, List.getElem_cons_zero])
  go_simp
  go_at_call 24
  refine (HTK.out _ (hb3.trans (hz1.mono hb3.size))).mono ?_
  rintro e x2 ⟨rfl, hs2⟩
  have hz2 := hz1.trans (hs2.mono hz1.size)
  have S2 := SK.out _ hz2
  refine hK.out _ _ (.inr S2) ?_
  clear hK K
  (try simp only [List.getElem_toArray, List.getElem_cons_succ, List.getElem_cons_zero, Act.put, List.setIfInBounds_toArray, List.set_cons_zero, List.set_cons_succ])
  refine AnyL.step (i := 3) (by kernel_rfl) rfl (fun K hK => ?_)
  (try simp only [List.getElem_toArray, List.getElem_cons_succ, List.getElem_cons_zero])
  go_simp
  go_at_call 51
  refine (HLV.out _ (hb3.trans (hz2.mono hb3.size))).mono ?_
  rintro e x3 ⟨v3, rfl, hR3, hs3⟩
  obtain ⟨AA3, cc3, ee3⟩ := Kd.R_slice hR3
  rw [List.length_map] at ee3
  subst ee3
  have hz3 := hz2.trans (hs3.mono hz2.size)
  have S3 := SK.out _ hz3
  refine hK.out _ _ (.inr S3) ?_
  clear hK K
  (try simp only [List.getElem_toArray, List.getElem_cons_succ, List.getElem_cons_zero, Act.put, List.setIfInBounds_toArray, List.set_cons_zero, List.set_cons_succ])
  refine AnyL.take (i := 4) (v := ?_) rfl (by kernel_rfl) (by kernel_rfl) (by kernel_rfl) (fun _ _ _ h => h) (Or.inl ⟨by rfl, ?_⟩) S3 ?_
  rotate_left
  · (intro w hSw; (try dsimp only at hSw); go_simp; (try with_reducible rfl))
  (try simp only [List.getElem_toArray, List.getElem_cons_succ, List.getElem_cons_zero, Act.put, List.setIfInBounds_toArray, List.set_cons_zero, List.set_cons_succ])
  refine AnyL.take (i := 5) (v := ?_) rfl (by kernel_rfl) (by kernel_rfl) (by kernel_rfl) (fun _ _ _ h => h) (Or.inl ⟨by rfl, ?_⟩) S3 ?_
  rotate_left
  · (intro w hSw; (try dsimp only at hSw); go_simp; (try with_reducible rfl))
  (try simp only [List.getElem_toArray, List.getElem_cons_succ, List.getElem_cons_zero, Act.put, List.setIfInBounds_toArray, List.set_cons_zero, List.set_cons_succ])
  refine AnyL.take (i := 6) (v := ?_) rfl (by kernel_rfl) (by kernel_rfl) (by kernel_rfl) (fun _ _ _ h => h) (Or.inl ⟨by rfl, ?_⟩) S3 ?_
  rotate_left
  · (intro w hSw; (try dsimp only at hSw); go_simp; (try with_reducible rfl))
  (try simp only [List.getElem_toArray, List.getElem_cons_succ, List.getElem_cons_zero, Act.put, List.setIfInBounds_toArray, List.set_cons_zero, List.set_cons_succ])
  refine AnyL.take (i := 7) (v := ?_) rfl (by kernel_rfl) (by kernel_rfl) (by kernel_rfl) (fun _ _ _ h => h) (Or.inl ⟨by rfl, ?_⟩) S3 ?_
  rotate_left
  · (intro w hSw; (try dsimp only at hSw); go_simp; (try with_reducible rfl))
  (try simp only [List.getElem_toArray, List.getElem_cons_succ, List.getElem_cons_zero, Act.put, List.setIfInBounds_toArray, List.set_cons_zero, List.set_cons_succ])
  refine AnyL.take (i := 9) (v := ?_) rfl (by kernel_rfl) (by kernel_rfl) (by kernel_rfl) (fun _ _ _ h => h) (Or.inl ⟨by rfl, ?_⟩) S3 ?_
  rotate_left
  · (intro w hSw; (try dsimp only at hSw); go_simp; (try with_reducible rfl))
  (try simp only [List.getElem_toArray, List.getElem_cons_succ, List.getElem_cons_zero, Act.put, List.setIfInBounds_toArray, List.set_cons_zero, List.set_cons_succ])
  refine AnyL.step (i := 8) (by kernel_rfl) rfl (fun K hK => ?_)
  (try simp only [List.getElem_toArray, List.getElem_cons_succ, List.getElem_cons_zero])
  go_simp
  go_at_call 36
  refine (HBT.out _ (hb3.trans (hz3.mono hb3.size))).mono ?_
  rintro e x4 ⟨rfl, hs4⟩
  have hz4 := hz3.trans (hs4.mono hz3.size)
  have S4 := SK.out _ hz4
  refine hK.out _ _ (.inr S4) ?_
  clear hK K
  (try simp only [List.getElem_toArray, List.getElem_cons_succ, List.getElem_cons_zero, Act.put, List.setIfInBounds_toArray, List.set_cons_zero, List.set_cons_succ])
  refine AnyL.step (i := 10) (by kernel_rfl) rfl (fun K hK => ?_)
  (try simp only [List.getElem_toArray, List.getElem_cons_succ, List.getElem_cons_zero])
  go_simp
  go_at_call 77
  refine (HRB.out _ (hb3.trans (hz4.mono hb3.size))).mono ?_
  rintro e x5 ⟨rfl, hs5⟩
  have hz5 := hz4.trans (hs5.mono hz4.size)
  have S5 := SK.out _ hz5
  refine hK.out _ _ (.inr S5) ?_
  clear hK K
  (try simp only [List.getElem_toArray, List.getElem_cons_succ, List.getElem_cons_zero, Act.put, List.setIfInBounds_toArray, List.set_cons_zero, List.set_cons_succ])
  refine AnyL.take (i := 11) (v := ?_) rfl (by kernel_rfl) (by kernel_rfl) (by kernel_rfl) (fun _ _ _ h => h) (Or.inl ⟨by rfl, ?_⟩) S5 ?_
  rotate_left
  · (intro w hSw; (try dsimp only at hSw); go_simp; (try with_reducible rfl))
  (try simp only [List.getElem_toArray, List.getElem_cons_succ, List.getElem_cons_zero, Act.put, List.setIfInBounds_toArray, List.set_cons_zero, List.set_cons_succ])
  refine AnyL.take (i := 12) (v := ?_) rfl (by kernel_rfl) (by kernel_rfl) (by kernel_rfl) (fun _ _ _ h => h) (Or.inl ⟨by rfl, ?_⟩) S5 ?_
  rotate_left
  · (intro w hSw; (try dsimp only at hSw); go_simp; (try with_reducible rfl))
  (try simp only [List.getElem_toArray, List.getElem_cons_succ, List.getElem_cons_zero, Act.put, List.setIfInBounds_toArray, List.set_cons_zero, List.set_cons_succ])
  refine AnyL.take (i := 13) (v := ?_) rfl (by kernel_rfl) (by kernel_rfl) (by kernel_rfl) (fun _ _ _ h => h) (Or.inl ⟨by rfl, ?_⟩) S5 ?_
  rotate_left
  · (intro w hSw; (try dsimp only at hSw); go_simp; (try with_reducible rfl))
  (try simp only [List.getElem_toArray, List.getElem_cons_succ, List.getElem_cons_zero, Act.put, List.setIfInBounds_toArray, List.set_cons_zero, List.set_cons_succ])
  refine AnyL.take (i := 14) (v := ?_) rfl (by kernel_rfl) (by kernel_rfl) (by kernel_rfl) (fun _ _ _ h => h) (Or.inl ⟨by rfl, ?_⟩) S5 ?_
  rotate_left
  · (intro w hSw; (try dsimp only at hSw); go_simp; (try with_reducible rfl))
  (try simp only [List.getElem_toArray, List.getElem_cons_succ, List.getElem_cons_zero, Act.put, List.setIfInBounds_toArray, List.set_cons_zero, List.set_cons_succ])
  refine AnyL.take (i := 16) (v := ?_) rfl (by kernel_rfl) (by kernel_rfl) (by kernel_rfl) (fun _ _ _ h => h) (Or.inl ⟨by rfl, ?_⟩) S5 ?_
  rotate_left
  · (intro w hSw; (try dsimp only at hSw); go_simp; (try with_reducible rfl))
  (try simp only [List.getElem_toArray, List.getElem_cons_succ, List.getElem_cons_zero, Act.put, List.setIfInBounds_toArray, List.set_cons_zero, List.set_cons_succ])
  refine AnyL.step (i := 15) (by kernel_rfl) rfl (fun K hK => ?_)
  (try simp only [List.getElem_toArray, List.getElem_cons_succ, List.getElem_cons_zero])
  go_simp
  go_at_call 37
  refine (HLD.out _ (hb3.trans (hz5.mono hb3.size))).mono ?_
  rintro e x6 ⟨rfl, hs6⟩
  have hz6 := hz5.trans (hs6.mono hz5.size)
  have S6 := SK.out _ hz6
  refine hK.out _ _ (.inr S6) ?_
  clear hK K
  (try simp only [List.getElem_toArray, List.getElem_cons_succ, List.getElem_cons_zero, Act.put, List.setIfInBounds_toArray, List.set_cons_zero, List.set_cons_succ])
  refine AnyL.step (i := 17) (by kernel_rfl) rfl (fun K hK => ?_)
  (try simp only [List.getElem_toArray, List.getElem_cons_succ, List.getElem_cons_zero])
  go_simp
  go_at_call 78
  refine (HRL.out _ (hb3.trans (hz6.mono hb3.size))).mono ?_
  rintro e x7 ⟨rfl, hs7⟩
  have hz7 := hz6.trans (hs7.mono hz6.size)
  have S7 := SK.out _ hz7
  refine hK.out _ _ (.inr S7) ?_
  clear hK K
  (try simp only [List.getElem_toArray, List.getElem_cons_succ, List.getElem_cons_zero, Act.put, List.setIfInBounds_toArray, List.set_cons_zero, List.set_cons_succ])
  refine AnyL.take (i := 18) (v := ?_) rfl (by kernel_rfl) (by kernel_rfl) (by kernel_rfl) (fun _ _ _ h => h) (Or.inl ⟨by rfl, ?_⟩) S7 ?_
  rotate_left
  · (intro w hSw; (try dsimp only at hSw); go_simp; (try with_reducible rfl))
  (try simp only [List.getElem_toArray, List.getElem_cons_succ, List.getElem_cons_zero, Act.put, List.setIfInBounds_toArray, List.set_cons_zero, List.set_cons_succ])
  refine AnyL.take (i := 19) (v := ?_) rfl (by kernel_rfl) (by kernel_rfl) (by kernel_rfl) (fun _ _ _ h => h) (Or.inl ⟨by rfl, ?_⟩) S7 ?_
  rotate_left
  · (intro w hSw; (try dsimp only at hSw); go_simp; (try with_reducible rfl))
  (try simp only [List.getElem_toArray, List.getElem_cons_succ, List.getElem_cons_zero, Act.put, List.setIfInBounds_toArray, List.set_cons_zero, List.set_cons_succ])
  refine AnyL.take (i := 20) (v := ?_) rfl (by kernel_rfl) (by kernel_rfl) (by kernel_rfl) (fun _ _ _ h => h) (Or.inl ⟨by rfl, ?_⟩) S7 ?_
  rotate_left
  · (intro w hSw; (try dsimp only at hSw); go_simp; (try with_reducible rfl))
  (try simp only [List.getElem_toArray, List.getElem_cons_succ, List.getElem_cons_zero, Act.put, List.setIfInBounds_toArray, List.set_cons_zero, List.set_cons_succ])
  refine AnyL.take (i := 21) (v := ?_) rfl (by kernel_rfl) (by kernel_rfl) (by kernel_rfl) (fun _ _ _ h => h) (Or.inl ⟨by rfl, ?_⟩) S7 ?_
  rotate_left
  · (intro w hSw; (try dsimp only at hSw); go_simp; (try with_reducible rfl))
  (try simp only [List.getElem_toArray, List.getElem_cons_succ, List.getElem_cons_zero, Act.put, List.setIfInBounds_toArray, List.set_cons_zero, List.set_cons_succ])
  refine AnyL.take (i := 23) (v := ?_) rfl (by kernel_rfl) (by kernel_rfl) (by kernel_rfl) (fun _ _ _ h => h) (Or.inl ⟨by rfl, ?_⟩) S7 ?_
  rotate_left
  · (intro w hSw; (try dsimp only at hSw); go_simp; (try with_reducible rfl))
  (try simp only [List.getElem_toArray, List.getElem_cons_succ, List.getElem_cons_zero, Act.put, List.setIfInBounds_toArray, List.set_cons_zero, List.set_cons_succ])
  refine AnyL.step (i := 22) (by kernel_rfl) rfl (fun K hK => ?_)
  (try simp only [List.getElem_toArray, List.getElem_cons_succ, List.getElem_cons_zero])
  go_simp
  go_at_call 62
  refine (HHT.out _ (hb3.trans (hz7.mono hb3.size))).mono ?_
  rintro e x8 ⟨rfl, hs8⟩
  have hz8 := hz7.trans (hs8.mono hz7.size)
  have S8 := SK.out _ hz8
  refine hK.out _ _ (.inr S8) ?_
  clear hK K
  (try simp only [List.getElem_toArray, List.getElem_cons_succ, List.getElem_cons_zero, Act.put, List.setIfInBounds_toArray, List.set_cons_zero, List.set_cons_succ])
  refine AnyL.step (i := 24) (by kernel_rfl) rfl (fun K hK => ?_)
  (try simp only [List.getElem_toArray, List.getElem_cons_succ, List.getElem_cons_zero])
  go_simp
  go_at_call 79
  refine (HRH.out _ (hb3.trans (hz8.mono hb3.size))).mono ?_
  rintro e x9 ⟨rfl, hs9⟩
  have hz9 := hz8.trans (hs9.mono hz8.size)
  have S9 := SK.out _ hz9
  refine hK.out _ _ (.inr S9) ?_
  clear hK K
  (try simp only [List.getElem_toArray, List.getElem_cons_succ, List.getElem_cons_zero, Act.put, List.setIfInBounds_toArray, List.set_cons_zero, List.set_cons_succ])
  refine AnyL.take (i := 25) (v := ?_) rfl (by kernel_rfl) (by kernel_rfl) (by kernel_rfl) (fun _ _ _ h => h) (Or.inl ⟨by rfl, ?_⟩) S9 ?_
  rotate_left
  · (intro w hSw; (try dsimp only at hSw); go_simp; (try with_reducible rfl))
  (try simp only [List.getElem_toArray, List.getElem_cons_succ, List.getElem_cons_zero, Act.put, List.setIfInBounds_toArray, List.set_cons_zero, List.set_cons_succ])
  refine AnyL.take (i := 26) (v := ?_) rfl (by kernel_rfl) (by kernel_rfl) (by kernel_rfl) (fun _ _ _ h => h) (Or.inl ⟨by rfl, ?_⟩) S9 ?_
  rotate_left
  · (intro w hSw; (try dsimp only at hSw); go_simp; (try with_reducible rfl))
  (try simp only [List.getElem_toArray, List.getElem_cons_succ, List.getElem_cons_zero, Act.put, List.setIfInBounds_toArray, List.set_cons_zero, List.set_cons_succ])
  refine AnyL.done (by kernel_rfl) ?_ _
  clear eL eb1 eb2 eb3 S1 S2 S3 S4 S5 S6 S7 S8 S9 hH hR3 HTK HBT HLD HHT HRB HRL HRH HLV K32 K44 K61 HSY HPR HST HKD HTOK
  have hbase := hsW.trans (hz9.mono hsW.size)
  have hb9 := hb3.trans (hz9.mono hb3.size)
  have hx9 := (hz9.block _ hlt3).trans hbx3
  have HX9 := Lib.hid hx9
  clear hz1 hz2 hz3 hz4 hz5 hz6 hz7 hz8 hz9 hs2 hs3 hsW hbx3 SK hx9
  go_wp2_with fail
  go_loopw [8] (fun iv wx => ∃ i : Nat, iv = .int .i64 i ∧ i ≤ n.kids.length ∧ Below x9.heap.size x9 wx) (fun iv _ => n.kids.length - (intOf iv).toNat)
  case atStart => exact ⟨0, rfl, by omega, Below.refl _ _⟩
  case round =>
    obtain ⟨i, rfl, hi, hbr⟩ := hrel
    have hwr := hb9.trans (hbr.mono hb9.size)
    have hx9r := (hbr.block _ (Array.getElem?_eq_some_iff.1 HX9.out).1).trans HX9.out
    by_cases hlt : i < n.kids.length
    · obtain ⟨gk, rfl, _, lk, kc⟩ := HKC.out i n.kids[i].ptr (by rw [List.getElem?_map, List.getElem?_eq_getElem hlt]; rfl)
      have hlt4 : i < n.plain.s79.f4.length := by rw [HL.out.2]; exact hlt
      obtain ⟨kb, ko, A8, c8, rfl, hkb, d0, d1, d2, d3, d4, d5, d6, d7, d8, hc8, hC8⟩ := at79 HC.out.1 hlt4
      have hel : (n.plain.s79.f4[i]'hlt4) = (n.kids[i]).plain.s79 := by
        have h := HL.out.1
        simp only [h, plain_kids, List.getElem_map]
      rw [hel] at d0 d1 d2 d3 d4 d5 d6 d7 d8 hc8 hC8
      have hmem : n.kids[i] ∈ n.kids := List.getElem_mem hlt
      obtain ⟨kd, hkd⟩ : ∃ kd, kd = n.kids[i] := ⟨_, rfl⟩
      rw [← hkd] at d0 d1 d2 d3 d4 d5 d6 d7 d8 hc8 hC8 hmem kc
      have hkh : kd.ht ≤ 1000000 := by have := (Nd.WF.ok n HIN.out.2).kht kd hmem; omega
      have hcall : ∀ s : Sb wr, Calls Try.prog 48 #[kd.ptr, nodeV kd.plain.s79 (.slice A8 kd.plain.s79.f4.length c8)] s.w fun e w' => e = .returned (.bool true) ∧ ∃ s' : Sb wr, w' = s'.w := fun s =>
        Calls.sb (HIH.out kd hmem A8 c8 s.w ((HIN.out.1.head.2.2 kd hmem).below (hwr.trans (s.below.mono hwr.size))) (HIN.out.2.kid kd hmem) hkh (Kd.C_below hC8 (hwr.trans (s.below.mono hwr.size))) hc8)
      have hnn := (hbase.trans (hbr.mono hbase.size))
      unfold Nd.ptr nodeV at hcall
      unfold Nd.ptr at kc
      obtain ⟨s, hs⟩ : ∃ s, kd.plain.s79 = s := ⟨_, rfl⟩
      rw [hs] at hcall d0 d1 d2 d3 d4 d5 d6 d7 d8
      have HCALL := Lib.hid hcall
      have f0 : ∀ s' : Sb wr, s'.w.cell? ⟨kb, ko + i * 9, none⟩ = some (.int .i64 s.f0) := fun s' => s'.cell ((hwr.cell (p := ⟨kb, _, none⟩) hkb).trans d0)
      have f1 : ∀ s' : Sb wr, s'.w.cell? ⟨kb, ko + i * 9 + 1, none⟩ = some (.int .i64 s.f1) := fun s' => s'.cell ((hwr.cell (p := ⟨kb, _, none⟩) hkb).trans d1)
      have f2 : ∀ s' : Sb wr, s'.w.cell? ⟨kb, ko + i * 9 + 2, none⟩ = some (.int .i64 s.f2.f0) := fun s' => s'.cell ((hwr.cell (p := ⟨kb, _, none⟩) hkb).trans d2)
      have f3 : ∀ s' : Sb wr, s'.w.cell? ⟨kb, ko + i * 9 + 3, none⟩ = some (.int .i64 s.f2.f1) := fun s' => s'.cell ((hwr.cell (p := ⟨kb, _, none⟩) hkb).trans d3)
      have f4 : ∀ s' : Sb wr, s'.w.cell? ⟨kb, ko + i * 9 + 4, none⟩ = some (.int .i64 s.f2.f2) := fun s' => s'.cell ((hwr.cell (p := ⟨kb, _, none⟩) hkb).trans d4)
      have f5 : ∀ s' : Sb wr, s'.w.cell? ⟨kb, ko + i * 9 + 5, none⟩ = some (.int .i64 s.f3.f0) := fun s' => s'.cell ((hwr.cell (p := ⟨kb, _, none⟩) hkb).trans d5)
      have f6 : ∀ s' : Sb wr, s'.w.cell? ⟨kb, ko + i * 9 + 6, none⟩ = some (.int .i64 s.f3.f1) := fun s' => s'.cell ((hwr.cell (p := ⟨kb, _, none⟩) hkb).trans d6)
      have f7 : ∀ s' : Sb wr, s'.w.cell? ⟨kb, ko + i * 9 + 7, none⟩ = some (.bool s.f3.f2) := fun s' => s'.cell ((hwr.cell (p := ⟨kb, _, none⟩) hkb).trans d7)
      have f8 : ∀ s' : Sb wr, s'.w.cell? ⟨kb, ko + i * 9 + 8, none⟩ = some (.slice A8 s.f4.length c8) := fun s' => s'.cell ((hwr.cell (p := ⟨kb, _, none⟩) hkb).trans d8)
      have f9 : ∀ s' : Sb wr, s'.w.cell? ⟨gk, i, none⟩ = some (.pointer (some ⟨kd.b, 0, none⟩)) := fun s' => s'.cell ((hnn.cell (p := ⟨gk, _, none⟩) lk).trans kc)
      have fA : ∀ s' : Sb wr, s'.w.cell? ⟨w.heap.size, 8, none⟩ = some (.slice (some ⟨kb, ko, none⟩) n.kids.length c) := fun s' => s'.cell (cell_of_heap hx9r rfl)
      have hltI : (i : Int) < (n.kids.length : Int) := by omega
      have hi0 : (0 : Int) ≤ (i : Int) := Int.natCast_nonneg _
      clear hcall d0 d1 d2 d3 d4 d5 d6 d7 d8 hel hkd hmem hc8 hC8 hs hkh kc hnn hx9r hlt4
      go_upto_region 10 with (fail)
      refine wp_region_sb (by kernel_rfl) (by kernel_rfl) ?_
      repeat (go_big_quiet_step (first | (go_at_call 48; exact HCALL.out _)))
      refine wpQuiet_nil ?_
      intro s4
      clear f0 f1 f2 f3 f4 f5 f6 f7 f8 f9 fA
      have hbs := hbr.trans (s4.below.mono hbr.size)
      have hwi : IntKind.i64.wrap ((i : Int) + 1) = ((i + 1 : Nat) : Int) := by rw [IntKind.wrap_i64]; omega
      go_wp2_with fail
      go_roundw
      case rel => exact ⟨i + 1, by go_num, by omega, hbs⟩
      case measure => simp [intOf]; omega
    · have hge : ¬ ((i : Int) < (n.kids.length : Int)) := by omega
      go_wp2_with fail
      go_ret
      exact ⟨rfl, hwr⟩

end Go.Proofs.Ytcjpmgfobnaoeaa

/- NodesRefuse: what came in; the leaves that were made, by the program and as data. -/
namespace Go.Proofs.Ytcjpmgfobnaoeaa
set_option linter.unusedVariables false
set_option linter.unusedSimpArgs false
open PNodesTell (S79 k79)
open Go.RowKit Go.ChangeShapes Go.WideShapes Go.ChangeAt Go.Proofs.YtcjpmgfobnaoeaaW.PrintWords

theorem fields75 : fieldsOf (Try.prog.underlying 75) = some [(54, 0), (3, 3), (57, 4), (25, 7), (3, 8)] := by kernel_rfl
theorem fields54 : fieldsOf (Try.prog.underlying 54) = some [(3, 0), (52, 1), (4, 2)] := by kernel_rfl
theorem und52 : Try.prog.underlying 52 = some (.slice 3) := by kernel_rfl
theorem cells75 : Try.prog.cellsOf 75 = 9 := by kernel_rfl
theorem cells54 : Try.prog.cellsOf 54 = 3 := by kernel_rfl
theorem cells52 : Try.prog.cellsOf 52 = 1 := by kernel_rfl
theorem len9 {α : Type} {l : List α} (h : l.length = 9) : ∃ a b c d e f g i j, l = [a, b, c, d, e, f, g, i, j] := by
  match l, h with
  | [a, b, c, d, e, f, g, i, j], _ => exact ⟨a, b, c, d, e, f, g, i, j, rfl⟩

section
variable {H : Type} {enc : TypeId × Value → H} {w : World} {sp : Nat → Bool} {held : Bool} {r : Reach} {b0 : Nat}

set_option maxRecDepth 100000 in
/-- What is handed to Make. -/
theorem refused_in {v : Value} {d : DataW H} {ps : List MemPlace} (hv : Value.okWide Try.prog w r b0 75 v) (h : DataW.Trod enc Try.prog w 0 sp held 75 v d ps) :
    ∃ (head prod st lk none_ : Int) (right fm : Bool) (bv tv : Value) (body : List Int) (tks : List (Int × Int × Int)), v = .agg #[.int .i64 head, bv, .bool right, .int .i64 prod, .int .i64 st, .int .i64 lk, .bool fm, tv, .int .i64 none_] ∧
      IntsAt w bv body ∧ SlcAt w.heap.size w 3 tv (tks.map tkCells) ∧ (Lit.int .i64 none_).wf = true := by
  obtain ⟨fs, hfs⟩ := is_struct fields75
  obtain ⟨cs, rfl, _⟩ := okWide_struct hfs hv
  obtain ⟨fuel, h⟩ := h
  obtain ⟨n, rfl, hl, hf⟩ := open_struct fields75 h
  rw [cells75] at hl
  obtain ⟨l⟩ := cs
  simp only [Value.cells] at hl hf
  obtain ⟨c0, c1, c2, c3, c4, c5, c6, c7, c8, rfl⟩ := len9 hl
  obtain ⟨y0, h0⟩ := hf 54 0 (by simp)
  obtain ⟨y1, h1⟩ := hf 3 3 (by simp)
  obtain ⟨y2, h2⟩ := hf 57 4 (by simp)
  obtain ⟨y3, h3⟩ := hf 25 7 (by simp)
  obtain ⟨y4, h4⟩ := hf 3 8 (by simp)
  rw [cells54] at h0
  rw [cells3] at h1 h4
  rw [cells57] at h2
  rw [cells25] at h3
  simp only [List.drop_zero, List.drop_succ_cons, List.take_succ_cons, List.take_zero] at h0 h1 h2 h3 h4
  obtain ⟨n0, rfl, _, hf0⟩ := open_struct fields54 h0
  obtain ⟨z0, g0⟩ := hf0 3 0 (by simp)
  obtain ⟨z1, g1⟩ := hf0 52 1 (by simp)
  obtain ⟨z2, g2⟩ := hf0 4 2 (by simp)
  rw [cells3] at g0
  rw [cells52] at g1
  rw [cells4] at g2
  simp only [List.drop_zero, List.drop_succ_cons, List.take_succ_cons, List.take_zero] at g0 g1 g2
  obtain ⟨head, e0, _, _⟩ := DataW.trod_int und3 g0
  obtain ⟨a, c, es, e1, hc, hm, hel⟩ := open_slc und52 cells3 (by decide) (fun cs (y : Int) => cs = [.int .i64 y]) (fun m hm cs x hx => by obtain ⟨t, k1, _, _⟩ := DataW.trod_int und3 hx; exact ⟨t, k1⟩) g1
  obtain ⟨right, e2, _⟩ := DataW.trod_bool und4 g2
  obtain ⟨prod, e3, _, _⟩ := DataW.trod_int und3 h1
  obtain ⟨s, e4⟩ := open_stamp _ _ _ h2
  obtain ⟨tv, tks, e5, ht⟩ := slc_at tkCells und25 cells72 open_tok h3
  obtain ⟨no, e6, _, w6⟩ := DataW.trod_int und3 h4
  unfold stCells at e4
  simp only [List.cons.injEq, and_true] at e0 e1 e2 e3 e4 e5 e6
  obtain ⟨e4a, e4b, e4c⟩ := e4
  subst e0 e1 e2 e3 e4a e4b e4c e5 e6
  refine ⟨head, prod, s.1, s.2.1, no, right, s.2.2, _, _, es, tks, rfl, ⟨a, c, rfl, fun j hj => ?_⟩, ht, w6⟩
  obtain ⟨b, o, cs, k1, _, _, k4, k5⟩ := hel j hj
  subst k5
  have := k4 0 _ rfl
  rw [Nat.mul_one] at this
  exact ⟨b, o, k1, this⟩
end

/-- The leaves that were made. -/
structure RefLoop (B i : Nat) (v8 v9 : Value) (kids : List Nd) (pl : List (Pn × Value)) (wx : World) : Prop where
  row8 : wx.ownsRow B 33 1 v8 kids.length (kids.map Nd.ptr)
  row9 : wx.ownsRow B 79 9 v9 kids.length (pl.flatMap kidN)
  inw : ∀ n ∈ kids, n.In wx
  leaf : ∀ n ∈ kids, ∃ g k l wd st fm, n = leafNd g k l wd st fm ∧ n.WF
  pls : pl.map Prod.fst = kids.map Nd.plain
  kv : ∀ p ∈ pl, p.1.kids = [] ∧ ∃ A c, p.2 = .slice A 0 c
  len : kids.length ≤ i

theorem RefLoop.keep {B i : Nat} {v8 v9 : Value} {kids : List Nd} {pl : List (Pn × Value)} {wx w' : World} (h : RefLoop B i v8 v9 kids pl wx) (hb : Below wx.heap.size wx w') : RefLoop B i v8 v9 kids pl w' :=
  ⟨ownsRow_of_block h.row8 fun k hk => hb.block k (h.row8.lt k hk).2, ownsRow_of_block h.row9 fun k hk => hb.block k (h.row9.lt k hk).2, fun n hn => (h.inw n hn).below hb, h.leaf, h.pls, h.kv, h.len⟩
theorem RefLoop.more {B i : Nat} {v8 v9 : Value} {kids : List Nd} {pl : List (Pn × Value)} {wx : World} (h : RefLoop B i v8 v9 kids pl wx) : RefLoop B (i + 1) v8 v9 kids pl wx :=
  ⟨h.row8, h.row9, h.inw, h.leaf, h.pls, h.kv, by have := h.len; omega⟩

theorem leaf_blocks {n : Nd} (h : ∃ g k l wd st fm, n = leafNd g k l wd st fm ∧ n.WF) : n.blocks = [n.b] := by
  obtain ⟨g, k, l, wd, st, fm, rfl, _⟩ := h
  rw [leafNd_blocks]
  rfl

theorem RefLoop.step {B i : Nat} {v8 v9 : Value} {kids : List Nd} {pl : List (Pn × Value)} {wx w3 w4 w5 w6 : World} {n : Nd} {A : Option Addr} {c g8 c8 g9 c9 : Nat} (h : RefLoop B i v8 v9 kids pl wx) (hb : Below wx.heap.size wx w3)
    (hn : n.In w3) (hl : ∃ g k l wd st fm, n = leafNd g k l wd st fm ∧ n.WF) (hnew : wx.heap.size ≤ n.b)
    (hown8 : w4.ownsRow B 33 1 (.slice (some ⟨g8, 0, none⟩) (kids.length + 1) c8) (kids.length + 1) (kids.map Nd.ptr ++ [n.ptr])) (hgr8 : Grew B v8 w3 w4 g8) (hb45 : Below w4.heap.size w4 w5)
    (hown9 : w6.ownsRow B 79 9 (.slice (some ⟨g9, 0, none⟩) (kids.length + 1) c9) (kids.length + 1) (pl.flatMap kidN ++ nodeC n.plain.s79 (.slice A 0 c))) (hgr9 : Grew B v9 w5 w6 g9) :
    RefLoop B (i + 1) (.slice (some ⟨g8, 0, none⟩) (kids.length + 1) c8) (.slice (some ⟨g9, 0, none⟩) (kids.length + 1) c9) (kids ++ [n]) (pl ++ [(n.plain, .slice A 0 c)]) w6 := by
  have hs3 := hb.size
  have hs4 := hgr8.below.size
  have hs5 := hb45.size
  have h3 := h.keep hb
  -- a node's block stays
  have hnode : ∀ m : Nd, m.In w3 → (∃ g k l wd st fm, m = leafNd g k l wd st fm ∧ m.WF) → m.In w6 := by
    intro m hm hlf
    have hbk := leaf_blocks hlf
    have hmb := hm.head.1
    have lmb := (Array.getElem?_eq_some_iff.1 hmb).1
    have e4 : w4.heap[m.b]? = w3.heap[m.b]? := hgr8.far _ lmb (own_ne h3.row8 hmb (by decide))
    have lm4 : m.b < w4.heap.size := by omega
    have e5 : w5.heap[m.b]? = w4.heap[m.b]? := hb45.block _ lm4
    have h9at5 : w5.ownsRow B 79 9 v9 kids.length (pl.flatMap kidN) := by
      refine ownsRow_of_block h3.row9 fun k hk => ?_
      obtain ⟨cs, hcs⟩ := own_typed h3.row9 k hk
      have lk := (h3.row9.lt k hk).2
      exact (hb45.block k (by omega)).trans (hgr8.far k lk (own_ne h3.row8 hcs (by decide)))
    have e6 : w6.heap[m.b]? = w5.heap[m.b]? := hgr9.far _ (by omega) (own_ne h9at5 (e5.trans (e4.trans hmb)) (by decide))
    refine hm.frame fun k hk => ?_
    rw [hbk] at hk
    obtain rfl := List.mem_singleton.1 hk
    exact e6.trans (e5.trans e4)
  refine ⟨?_, ?_, ?_, ?_, ?_, ?_, ?_⟩
  · rw [List.length_append, List.map_append]
    have h85 : w5.ownsRow B 33 1 (.slice (some ⟨g8, 0, none⟩) (kids.length + 1) c8) (kids.length + 1) (kids.map Nd.ptr ++ [n.ptr]) := ownsRow_of_block hown8 fun k hk => hb45.block k (hown8.lt k hk).2
    have h9at5 : w5.ownsRow B 79 9 v9 kids.length (pl.flatMap kidN) := by
      refine ownsRow_of_block h3.row9 fun k hk => ?_
      obtain ⟨cs, hcs⟩ := own_typed h3.row9 k hk
      have lk := (h3.row9.lt k hk).2
      exact (hb45.block k (by omega)).trans (hgr8.far k lk (own_ne h3.row8 hcs (by decide)))
    refine ownsRow_of_block h85 fun k hk => ?_
    obtain ⟨cs, hcs⟩ := own_typed h85 k hk
    exact hgr9.far k (h85.lt k hk).2 (own_ne h9at5 hcs (by decide))
  · rw [List.length_append, List.flatMap_append, List.flatMap_singleton]
    exact hown9
  · intro m hm
    rcases List.mem_append.1 hm with hm | hm
    · exact hnode m (h3.inw m hm) (h.leaf m hm)
    · obtain rfl := List.mem_singleton.1 hm
      exact hnode m hn hl
  · intro m hm
    rcases List.mem_append.1 hm with hm | hm
    · exact h.leaf m hm
    · obtain rfl := List.mem_singleton.1 hm; exact hl
  · rw [List.map_append, List.map_append, h.pls]; rfl
  · intro p hp
    rcases List.mem_append.1 hp with hp | hp
    · exact h.kv p hp
    · obtain rfl := List.mem_singleton.1 hp
      obtain ⟨g, k, l, wd, st, fm, rfl, _⟩ := hl
      exact ⟨by rw [plain_kids]; rfl, _, _, rfl⟩
  · rw [List.length_append]; have := h.len; simp; omega

end Go.Proofs.Ytcjpmgfobnaoeaa

/- NodesRefuse: a row of pointers, one of which is set. -/
namespace Go.Proofs.Ytcjpmgfobnaoeaa
set_option linter.unusedVariables false
set_option linter.unusedSimpArgs false
open Go.RowKit

/-- The row of the kids' pointers lies in block g; the one at j may be another. -/
structure RowBut (w : World) (g j : Nat) (kids : List Nd) : Prop where
  row : ∃ cs : Array Value, w.heap[g]? = some (.cells cs 33 (0, 0)) ∧ j < cs.size ∧ ∀ i (h : i < kids.length), i ≠ j → cs[i]? = some (kids[i]).ptr
  inw : ∀ n ∈ kids, n.In w
  leaf : ∀ n ∈ kids, n.blocks = [n.b]

theorem RowBut.start {B i vc j : Nat} {va : Option Addr} {v9 : Value} {kids : List Nd} {pl : List (Pn × Value)} {w : World} (h : RefLoop B i (.slice va kids.length vc) v9 kids pl w) (hj : j < kids.length) :
    ∃ g, va = some ⟨g, 0, none⟩ ∧ B ≤ g ∧ g < w.heap.size ∧ RowBut w g j kids := by
  rcases h.row8.2 with ⟨_, h2⟩ | ⟨g, c, cur, h1, h2, h3, h4, _, h6, h7⟩
  · omega
  · rw [Value.slice.injEq] at h1
    refine ⟨g, h1.1, h2, (Array.getElem?_eq_some_iff.1 h3).1, ⟨cur, h3, by omega, fun i hi _ => ?_⟩, h.inw, fun n hn => leaf_blocks (h.leaf n hn)⟩
    have h8 := congrArg (fun l => l[i]?) h7
    simp only [List.getElem?_take, List.getElem?_map] at h8
    rw [if_pos (by omega), List.getElem?_eq_getElem hi] at h8
    rw [← Array.getElem?_toList]
    exact h8

theorem RowBut.keep {w w' : World} {g j : Nat} {kids : List Nd} (h : RowBut w g j kids) (hb : Below w.heap.size w w') : RowBut w' g j kids := by
  obtain ⟨cs, h1, h2⟩ := h.row
  exact ⟨⟨cs, (hb.block g (Array.getElem?_eq_some_iff.1 h1).1).trans h1, h2⟩, fun n hn => (h.inw n hn).below hb, h.leaf⟩

theorem RowBut.frozen {w : World} {g j : Nat} {kids : List Nd} (h : RowBut w g j kids) : w.frozen? ⟨g, j, none⟩ = false := by
  obtain ⟨cs, h1, _⟩ := h.row
  exact frozen_of_heap h1

theorem RowBut.any {w : World} {g j : Nat} {kids : List Nd} (h : RowBut w g j kids) : ∃ p, w.cell? ⟨g, j, none⟩ = some p := by
  obtain ⟨cs, h1, h2, _⟩ := h.row
  exact ⟨cs[j], cell_of_heap h1 (Array.getElem?_eq_getElem h2)⟩

theorem RowBut.other {w : World} {g j k : Nat} {kids : List Nd} (h : RowBut w g j kids) (v : Value) {c : Array Value} {e : TypeId} (hk : w.heap[k]? = some (.cells c e (0, 0))) (he : e ≠ 33) : (w.setCell ⟨g, j, none⟩ v).heap[k]? = some (.cells c e (0, 0)) := by
  obtain ⟨cs, h1, _⟩ := h.row
  rw [Below.heap_setCell _ _ _ _ (by
    show k ≠ g
    rintro rfl
    rw [h1] at hk
    simp at hk
    exact he hk.2.symm), hk]

theorem RowBut.set {w : World} {g j : Nat} {kids : List Nd} (h : RowBut w g j kids) (v : Value) : RowBut (w.setCell ⟨g, j, none⟩ v) g j kids ∧ (w.setCell ⟨g, j, none⟩ v).cell? ⟨g, j, none⟩ = some v := by
  obtain ⟨cs, h1, h2, h3⟩ := h.row
  have h4 := setCell_heap (i := j) h1 v
  refine ⟨⟨⟨_, h4, by simp [h2], fun i hi hij => ?_⟩, fun n hn => (h.inw n hn).frame fun k hk => ?_, h.leaf⟩, cell_of_heap h4 (by simp [h2])⟩
  · rw [Array.getElem?_setIfInBounds_ne (by omega)]
    exact h3 i hi hij
  · rw [h.leaf n hn] at hk
    obtain rfl := List.mem_singleton.1 hk
    have h5 := (h.inw n hn).head.1
    rw [h.other v h5 (by decide), h5]

/-- The node that was never made. -/
def zeroNd (g : Nat) : Nd := .mk g 0 0 0 0 0 0 0 0 0 false (.slice none 0 0) []
theorem zeroNd_in {w : World} {g : Nat} (h : w.heap[g]? = some (.cells #[.int .i64 0, .int .i64 0, .int .i64 0, .int .i64 0, .int .i64 0, .int .i64 0, .int .i64 0, .int .i64 0, .int .i64 0, .bool false, .slice none 0 0] 87 (0, 0))) : (zeroNd g).In w := by
  unfold zeroNd Nd.In NdsIn
  exact ⟨h, World.ownsRow_nil _ _ _ _, trivial⟩

theorem make_bad_row (head : Int) (ba : Option Addr) (bl bc : Nat) (right : Bool) (prod st lk : Int) (fm : Bool) (g c : Nat) (kids : List Nd) (j : Nat) (p : Value) (w : World) (hj : j < kids.length) (hl : kids.length ≤ 12)
    (h : RowBut w g j kids) (hp : w.cell? ⟨g, j, none⟩ = some p) (hd : Dud w p) (hht : ∀ n ∈ kids, n.ht = 1) :
    Calls Try.prog 33 #[.agg #[.int .i64 head, .slice ba bl bc, .bool right], .int .i64 prod, .agg #[.int .i64 st, .int .i64 lk, .bool fm], .slice (some ⟨g, 0, none⟩) kids.length c] w fun e w' => e = .returned (.tuple #[.pointer none, .int .i64 1]) ∧ Below w.heap.size w w' := by
  obtain ⟨cs, h1, h2, h3⟩ := h.row
  exact make_bad head ba bl bc right prod st lk fm g c kids j p w hj (by omega) (fun i hi hij => cell_of_heap h1 (h3 i hi hij)) hp hd h.inw (fun n hn => by rw [hht n hn]; decide)

end Go.Proofs.Ytcjpmgfobnaoeaa


/- NodesRefuse: the walk. -/
namespace Go.Proofs.Ytcjpmgfobnaoeaa
set_option linter.unusedVariables false
set_option linter.unusedSimpArgs false
open PNodesTell (S79 k79)
open Go.RowKit Go.Proofs.YtcjpmgfobnaoeaaW.PrintWords
attribute [local irreducible] Calls

theorem AnyL.two {P : Program} {md : Region.Mode} {ops : Array Oper} {Q : Exit → Act → World → Prop} {S : World → Prop} {i j : Nat} {oi oj : Oper} {fuel : Nat} {listed : Array Bool} {a : Act} {w : World} (hr : Region.ready md ops listed = [i, j]) (hi : ops[i]? = some oi) (hj : ops[j]? = some oj)
    (h1 : ∀ K' : Act → World → Prop, Shut (∀ a w, (lastB md ops i = true ∨ S w) → AnyL P md ops Q S fuel (listed.setIfInBounds i true) a w → K' a w) → if Region.wanted oi (yielded ops a.tmps) = true then Oper.wp P oi a w K' Q else K' (a.put oi.dst undef) w)
    (h2 : ∀ K' : Act → World → Prop, Shut (∀ a w, (lastB md ops j = true ∨ S w) → AnyL P md ops Q S fuel (listed.setIfInBounds j true) a w → K' a w) → if Region.wanted oj (yielded ops a.tmps) = true then Oper.wp P oj a w K' Q else K' (a.put oj.dst undef) w) :
    AnyL P md ops Q S (fuel + 1) listed a w := by
  refine ⟨fun h0 => (by rw [hr] at h0; cases h0), fun k hk => ?_⟩
  rw [hr] at hk
  rcases List.mem_cons.1 hk with rfl | hk
  · exact wpOp_step hi fun K' hK => h1 K' fun a w hS hW => hK a w ⟨hS, hW⟩
  · obtain rfl := List.mem_singleton.1 hk
    exact wpOp_step hj fun K' hK => h2 K' fun a w hS hW => hK a w ⟨hS, hW⟩

theorem row9_keep {B i : Nat} {v8 v9 : Value} {kids : List Nd} {pl : List (Pn × Value)} {wx w3 w4 : World} {g4 : Nat} (h : RefLoop B i v8 v9 kids pl wx) (hb : Below wx.heap.size wx w3) (hgr : Grew B v8 w3 w4 g4) : w4.ownsRow B 79 9 v9 kids.length (pl.flatMap kidN) := by
  have h3 := h.keep hb
  refine ownsRow_of_block h3.row9 fun k hk => ?_
  obtain ⟨cs, hcs⟩ := own_typed h3.row9 k hk
  exact hgr.far k (h3.row9.lt k hk).2 (own_ne h3.row8 hcs (by decide))

theorem nine75 {W : World} {g : Nat} {v0 v1 v2 v3 v4 v5 v6 v7 v8 : Value} (h : W.heap[g]? = some (.cells #[v0, v1, v2, v3, v4, v5, v6, v7, v8] 75 (0, 0))) : Nine W g v0 v1 v2 v3 v4 v5 v6 v7 v8 :=
  ⟨cell_of_heap h rfl, cell_of_heap h rfl, cell_of_heap h rfl, cell_of_heap h rfl, cell_of_heap h rfl, cell_of_heap h rfl, cell_of_heap h rfl, cell_of_heap h rfl, cell_of_heap h rfl⟩

set_option maxRecDepth 100000 in
set_option maxHeartbeats 8000000 in
theorem nodesRefuse_walk (head prod st lk no : Int) (right fm : Bool) (bv tv : Value) (body : List Int) (tks : List (Int × Int × Int)) (w : World) (hb : IntsAt w bv body) (ht : SlcAt w.heap.size w 3 tv (tks.map tkCells)) (hno : no ≤ 9223372036854775807) :
    Calls Try.prog 9 #[.agg #[.int .i64 head, bv, .bool right, .int .i64 prod, .int .i64 st, .int .i64 lk, .bool fm, tv, .int .i64 no]] w fun e w' => e = .returned (.bool true) ∧ Below w.heap.size w w' := by
  obtain ⟨ba, bc, rfl, hbx⟩ := hb
  obtain ⟨ta, tc, rfl, htx⟩ := ht.val
  have htx' : ∀ i (hi : i < tks.length), ∃ b o, ta = some ⟨b, o, none⟩ ∧ b < w.heap.size ∧ w.cell? ⟨b, o + i * 3, none⟩ = some (.int .i64 tks[i].1) ∧ w.cell? ⟨b, o + i * 3 + 1, none⟩ = some (.int .i64 tks[i].2.1) ∧ w.cell? ⟨b, o + i * 3 + 2, none⟩ = some (.int .i64 tks[i].2.2) := fun i hi => by
    obtain ⟨b, o, e, h1, _, h3⟩ := htx (by rw [List.length_map]; omega)
    have hi' : i < (tks.map tkCells).length := by rw [List.length_map]; exact hi
    have hm : (tks.map tkCells)[i] = tkCells tks[i] := by simp
    refine ⟨b, o, e, h1, ?_, ?_, ?_⟩
    · exact h3 i hi' 0 _ (by rw [hm]; rfl)
    · exact h3 i hi' 1 _ (by rw [hm]; rfl)
    · exact h3 i hi' 2 _ (by rw [hm]; rfl)
  rw [List.length_map]
  have HBX := Lib.hid hbx
  have HTX := Lib.hid htx'
  have HW := Lib.hid (And.intro (below_alloc w (.cells #[.int .i64 head, .slice ba body.length bc, .bool right, .int .i64 prod, .int .i64 st, .int .i64 lk, .bool fm, .slice ta tks.length tc, .int .i64 no] 75)) (heap_alloc_new w (.cells #[.int .i64 head, .slice ba body.length bc, .bool right, .int .i64 prod, .int .i64 st, .int .i64 lk, .bool fm, .slice ta tks.length tc, .int .i64 no] 75)))
  clear hbx htx htx' ht
  go_enter Try.func9, Try.ntmps9
  apply wp_seq_k
  intro K1 k1
  have H1 := Lib.hid k1
  clear k1
  go_wp2_with fail
  refine H1.out _ _ ?_
  clear H1 K1
  obtain ⟨hB, hx⟩ := HW.out
  generalize w.alloc (.cells #[.int .i64 head, .slice ba body.length bc, .bool right, .int .i64 prod, .int .i64 st, .int .i64 lk, .bool fm, .slice ta tks.length tc, .int .i64 no] 75) = W at *
  clear HW
  obtain ⟨p0, p1, p2, p3, p4, p5, p6, p7, p8⟩ := nine75 hx
  go_upto_region 1 with fail
  have hl1 := (Array.getElem?_eq_some_iff.1 hx).1
  have SK : Hid (∀ X : World, X.heap[w.heap.size]? = W.heap[w.heap.size]? → (fun X => X.cell? ⟨w.heap.size, 0, none⟩ = some (.int .i64 head) ∧ X.cell? ⟨w.heap.size, 1, none⟩ = some (.slice ba body.length bc) ∧ X.cell? ⟨w.heap.size, 2, none⟩ = some (.bool right) ∧ X.cell? ⟨w.heap.size, 3, none⟩ = some (.int .i64 prod) ∧ X.cell? ⟨w.heap.size, 4, none⟩ = some (.int .i64 st) ∧ X.cell? ⟨w.heap.size, 5, none⟩ = some (.int .i64 lk) ∧ X.cell? ⟨w.heap.size, 6, none⟩ = some (.bool fm) ∧ X.cell? ⟨w.heap.size, 7, none⟩ = some (.slice ta tks.length tc) ∧ X.cell? ⟨w.heap.size, 8, none⟩ = some (.int .i64 no)) X) := Lib.hid (fun X hX => by
    obtain ⟨a0, a1, a2, a3, a4, a5, a6, a7, a8⟩ := nine75 (hX.trans hx)
    exact ⟨a0, a1, a2, a3, a4, a5, a6, a7, a8⟩)
  clear p0 p1 p2 p3 p4 p5 p6 p7 p8 hx
  go_cut [3, 4, 5, 6, 7] (fun v3 v4 v5 v6 v7 wx => ∃ gp gs : Nat, v3 = .pointer (some ⟨gp, 0, none⟩) ∧ v4 = .int .i64 prod ∧ v5 = .pointer (some ⟨gs, 0, none⟩) ∧ v6 = .slice ta tks.length tc ∧ v7 = .int .i64 no ∧ Below w.heap.size w wx ∧
    wx.heap[gp]? = some (.cells #[.int .i64 head, .slice ba body.length bc, .bool right] 54 (0, 0)) ∧ wx.heap[gs]? = some (.cells #[.int .i64 st, .int .i64 lk, .bool fm] 57 (0, 0)))
  case first =>
    have A1 := Lib.hid (fun a => (show (W.alloc a).drew.heap[w.heap.size]? = W.heap[w.heap.size]? from Below.heap_alloc W a _ hl1))
    have A2 := Lib.hid (fun a b => (show ((W.alloc a).alloc b).drew.heap[w.heap.size]? = W.heap[w.heap.size]? from (Below.heap_alloc _ b _ (by simp; omega)).trans (Below.heap_alloc W a _ hl1)))
    have B1 := Lib.hid (fun a b => (show ((W.alloc a).alloc b).drew.heap[W.heap.size]? = some a from (Below.heap_alloc _ b _ (by simp)).trans (heap_alloc_new W a)))
    have B2 := Lib.hid (fun a b => (show ((W.alloc a).alloc b).drew.heap[W.heap.size + 1]? = some b from heap_new2 W a b))
    have B3 := Lib.hid (fun a b => (show Below w.heap.size w ((W.alloc a).alloc b).drew from ((hB.alloc hB.size a).alloc (by simp; have := hB.size; omega) b).drew))
    refine wp_region_last (S := fun X => X.cell? ⟨w.heap.size, 0, none⟩ = some (.int .i64 head) ∧ X.cell? ⟨w.heap.size, 1, none⟩ = some (.slice ba body.length bc) ∧ X.cell? ⟨w.heap.size, 2, none⟩ = some (.bool right) ∧ X.cell? ⟨w.heap.size, 3, none⟩ = some (.int .i64 prod) ∧ X.cell? ⟨w.heap.size, 4, none⟩ = some (.int .i64 st) ∧ X.cell? ⟨w.heap.size, 5, none⟩ = some (.int .i64 lk) ∧ X.cell? ⟨w.heap.size, 6, none⟩ = some (.bool fm) ∧ X.cell? ⟨w.heap.size, 7, none⟩ = some (.slice ta tks.length tc) ∧ X.cell? ⟨w.heap.size, 8, none⟩ = some (.int .i64 no)) (by kernel_rfl) (SK.out _ rfl) 17 rfl (fun hH => ?_)
    (try simp only [List.getElem_toArray, List.getElem_cons_succ, List.getElem_cons_zero, Act.put, List.setIfInBounds_toArray, List.set_cons_zero, List.set_cons_succ])
    refine AnyL.take (i := 0) (v := ?_) rfl (by kernel_rfl) (by kernel_rfl) (by kernel_rfl) (fun _ _ _ h => h) (Or.inl ⟨by rfl, ?_⟩) hH ?_
    rotate_left
    · (intro w hSw; (try dsimp only at hSw); go_simp; (try with_reducible rfl))
    (try simp only [List.getElem_toArray, List.getElem_cons_succ, List.getElem_cons_zero, Act.put, List.setIfInBounds_toArray, List.set_cons_zero, List.set_cons_succ])
    refine AnyL.take (i := 1) (v := ?_) rfl (by kernel_rfl) (by kernel_rfl) (by kernel_rfl) (fun _ _ _ h => h) (Or.inl ⟨by rfl, ?_⟩) hH ?_
    rotate_left
    · (intro w hSw; (try dsimp only at hSw); go_simp; (try with_reducible rfl))
    (try simp only [List.getElem_toArray, List.getElem_cons_succ, List.getElem_cons_zero, Act.put, List.setIfInBounds_toArray, List.set_cons_zero, List.set_cons_succ])
    refine AnyL.take (i := 2) (v := ?_) rfl (by kernel_rfl) (by kernel_rfl) (by kernel_rfl) (fun _ _ _ h => h) (Or.inl ⟨by rfl, ?_⟩) hH ?_
    rotate_left
    · (intro w hSw; (try dsimp only at hSw); go_simp; (try with_reducible rfl))
    (try simp only [List.getElem_toArray, List.getElem_cons_succ, List.getElem_cons_zero, Act.put, List.setIfInBounds_toArray, List.set_cons_zero, List.set_cons_succ])
    refine AnyL.take (i := 3) (v := ?_) rfl (by kernel_rfl) (by kernel_rfl) (by kernel_rfl) (fun _ _ _ h => h) (Or.inl ⟨by rfl, ?_⟩) hH ?_
    rotate_left
    · (intro w hSw; (try dsimp only at hSw); go_simp; (try with_reducible rfl))
    (try simp only [List.getElem_toArray, List.getElem_cons_succ, List.getElem_cons_zero, Act.put, List.setIfInBounds_toArray, List.set_cons_zero, List.set_cons_succ])
    refine AnyL.take (i := 4) (v := ?_) rfl (by kernel_rfl) (by kernel_rfl) (by kernel_rfl) (fun _ _ _ h => h) (Or.inl ⟨by rfl, ?_⟩) hH ?_
    rotate_left
    · (intro w hSw; (try dsimp only at hSw); go_simp; (try with_reducible rfl))
    (try simp only [List.getElem_toArray, List.getElem_cons_succ, List.getElem_cons_zero, Act.put, List.setIfInBounds_toArray, List.set_cons_zero, List.set_cons_succ])
    refine AnyL.take (i := 5) (v := ?_) rfl (by kernel_rfl) (by kernel_rfl) (by kernel_rfl) (fun _ _ _ h => h) (Or.inl ⟨by rfl, ?_⟩) hH ?_
    rotate_left
    · (intro w hSw; (try dsimp only at hSw); go_simp; (try with_reducible rfl))
    (try simp only [List.getElem_toArray, List.getElem_cons_succ, List.getElem_cons_zero, Act.put, List.setIfInBounds_toArray, List.set_cons_zero, List.set_cons_succ])
    refine AnyL.take (i := 6) (v := ?_) rfl (by kernel_rfl) (by kernel_rfl) (by kernel_rfl) (fun _ _ _ h => h) (Or.inl ⟨by rfl, ?_⟩) hH ?_
    rotate_left
    · (intro w hSw; (try dsimp only at hSw); go_simp; (try with_reducible rfl))
    (try simp only [List.getElem_toArray, List.getElem_cons_succ, List.getElem_cons_zero, Act.put, List.setIfInBounds_toArray, List.set_cons_zero, List.set_cons_succ])
    refine AnyL.take (i := 7) (v := ?_) rfl (by kernel_rfl) (by kernel_rfl) (by kernel_rfl) (fun _ _ _ h => h) (Or.inl ⟨by rfl, ?_⟩) hH ?_
    rotate_left
    · (intro w hSw; (try dsimp only at hSw); go_simp; (try with_reducible rfl))
    (try simp only [List.getElem_toArray, List.getElem_cons_succ, List.getElem_cons_zero, Act.put, List.setIfInBounds_toArray, List.set_cons_zero, List.set_cons_succ])
    refine AnyL.take (i := 8) (v := ?_) rfl (by kernel_rfl) (by kernel_rfl) (by kernel_rfl) (fun _ _ _ h => h) (Or.inl ⟨by rfl, ?_⟩) hH ?_
    rotate_left
    · (intro w hSw; (try dsimp only at hSw); go_simp; (try with_reducible rfl))
    (try simp only [List.getElem_toArray, List.getElem_cons_succ, List.getElem_cons_zero, Act.put, List.setIfInBounds_toArray, List.set_cons_zero, List.set_cons_succ])
    refine AnyL.take (i := 9) (v := ?_) rfl (by kernel_rfl) (by kernel_rfl) (by kernel_rfl) (fun _ _ _ h => h) (Or.inl ⟨by rfl, ?_⟩) hH ?_
    rotate_left
    · (intro w hSw; (try dsimp only at hSw); go_simp; (try with_reducible rfl))
    (try simp only [List.getElem_toArray, List.getElem_cons_succ, List.getElem_cons_zero, Act.put, List.setIfInBounds_toArray, List.set_cons_zero, List.set_cons_succ])
    refine AnyL.two (i := 10) (j := 11) (by kernel_rfl) rfl rfl (fun K hK => ?_) (fun K hK => ?_)
    · skip
      (try simp only [List.getElem_toArray, List.getElem_cons_succ, List.getElem_cons_zero])
      go_simp
      refine hK.out _ _ (.inr (SK.out _ (A1.out _))) ?_
      clear hK K
      (try simp only [List.getElem_toArray, List.getElem_cons_succ, List.getElem_cons_zero, Act.put, List.setIfInBounds_toArray, List.set_cons_zero, List.set_cons_succ])
      refine AnyL.step (i := 11) (by kernel_rfl) rfl (fun K hK => ?_)
      (try simp only [List.getElem_toArray, List.getElem_cons_succ, List.getElem_cons_zero])
      go_simp
      refine hK.out _ _ (.inr (SK.out _ (A2.out _ _))) ?_
      clear hK K
      (try simp only [List.getElem_toArray, List.getElem_cons_succ, List.getElem_cons_zero, Act.put, List.setIfInBounds_toArray, List.set_cons_zero, List.set_cons_succ])
      refine AnyL.step (i := 12) (by kernel_rfl) rfl (fun K hK => ?_)
      (try simp only [List.getElem_toArray, List.getElem_cons_succ, List.getElem_cons_zero])
      go_simp
      refine hK.out _ _ (.inr (SK.out _ (A2.out _ _))) ?_
      clear hK K
      (try simp only [List.getElem_toArray, List.getElem_cons_succ, List.getElem_cons_zero, Act.put, List.setIfInBounds_toArray, List.set_cons_zero, List.set_cons_succ])
      refine AnyL.take (i := 13) (v := ?_) rfl (by kernel_rfl) (by kernel_rfl) (by kernel_rfl) (fun _ _ _ h => h) (Or.inl ⟨by rfl, ?_⟩) (SK.out _ (A2.out _ _)) ?_
      rotate_left
      · (intro w hSw; (try dsimp only at hSw); go_simp; (try with_reducible rfl))
      (try simp only [List.getElem_toArray, List.getElem_cons_succ, List.getElem_cons_zero, Act.put, List.setIfInBounds_toArray, List.set_cons_zero, List.set_cons_succ])
      refine AnyL.step (i := 14) (by kernel_rfl) rfl (fun K hK => ?_)
      (try simp only [List.getElem_toArray, List.getElem_cons_succ, List.getElem_cons_zero])
      go_simp
      refine hK.out _ _ (.inr (SK.out _ (A2.out _ _))) ?_
      clear hK K
      (try simp only [List.getElem_toArray, List.getElem_cons_succ, List.getElem_cons_zero, Act.put, List.setIfInBounds_toArray, List.set_cons_zero, List.set_cons_succ])
      refine AnyL.take (i := 15) (v := ?_) rfl (by kernel_rfl) (by kernel_rfl) (by kernel_rfl) (fun _ _ _ h => h) (Or.inl ⟨by rfl, ?_⟩) (SK.out _ (A2.out _ _)) ?_
      rotate_left
      · (intro w hSw; (try dsimp only at hSw); go_simp; (try with_reducible rfl))
      (try simp only [List.getElem_toArray, List.getElem_cons_succ, List.getElem_cons_zero, Act.put, List.setIfInBounds_toArray, List.set_cons_zero, List.set_cons_succ])
      refine AnyL.take (i := 16) (v := ?_) rfl (by kernel_rfl) (by kernel_rfl) (by kernel_rfl) (fun _ _ _ h => h) (Or.inl ⟨by rfl, ?_⟩) (SK.out _ (A2.out _ _)) ?_
      rotate_left
      · (intro w hSw; (try dsimp only at hSw); go_simp; (try with_reducible rfl))
      (try simp only [List.getElem_toArray, List.getElem_cons_succ, List.getElem_cons_zero, Act.put, List.setIfInBounds_toArray, List.set_cons_zero, List.set_cons_succ])
      refine AnyL.done (by kernel_rfl) ?_ _
      go_wp2_with fail
      go_meet
      exact ⟨W.heap.size, W.heap.size + 1, rfl, rfl, rfl, rfl, rfl, B3.out _ _, (B1.out _ _), (B2.out _ _)⟩
    · skip
      (try simp only [List.getElem_toArray, List.getElem_cons_succ, List.getElem_cons_zero])
      go_simp
      refine hK.out _ _ (.inr (SK.out _ (A1.out _))) ?_
      clear hK K
      (try simp only [List.getElem_toArray, List.getElem_cons_succ, List.getElem_cons_zero, Act.put, List.setIfInBounds_toArray, List.set_cons_zero, List.set_cons_succ])
      refine AnyL.step (i := 10) (by kernel_rfl) rfl (fun K hK => ?_)
      (try simp only [List.getElem_toArray, List.getElem_cons_succ, List.getElem_cons_zero])
      go_simp
      refine hK.out _ _ (.inr (SK.out _ (A2.out _ _))) ?_
      clear hK K
      (try simp only [List.getElem_toArray, List.getElem_cons_succ, List.getElem_cons_zero, Act.put, List.setIfInBounds_toArray, List.set_cons_zero, List.set_cons_succ])
      refine AnyL.step (i := 12) (by kernel_rfl) rfl (fun K hK => ?_)
      (try simp only [List.getElem_toArray, List.getElem_cons_succ, List.getElem_cons_zero])
      go_simp
      refine hK.out _ _ (.inr (SK.out _ (A2.out _ _))) ?_
      clear hK K
      (try simp only [List.getElem_toArray, List.getElem_cons_succ, List.getElem_cons_zero, Act.put, List.setIfInBounds_toArray, List.set_cons_zero, List.set_cons_succ])
      refine AnyL.take (i := 13) (v := ?_) rfl (by kernel_rfl) (by kernel_rfl) (by kernel_rfl) (fun _ _ _ h => h) (Or.inl ⟨by rfl, ?_⟩) (SK.out _ (A2.out _ _)) ?_
      rotate_left
      · (intro w hSw; (try dsimp only at hSw); go_simp; (try with_reducible rfl))
      (try simp only [List.getElem_toArray, List.getElem_cons_succ, List.getElem_cons_zero, Act.put, List.setIfInBounds_toArray, List.set_cons_zero, List.set_cons_succ])
      refine AnyL.step (i := 14) (by kernel_rfl) rfl (fun K hK => ?_)
      (try simp only [List.getElem_toArray, List.getElem_cons_succ, List.getElem_cons_zero])
      go_simp
      refine hK.out _ _ (.inr (SK.out _ (A2.out _ _))) ?_
      clear hK K
      (try simp only [List.getElem_toArray, List.getElem_cons_succ, List.getElem_cons_zero, Act.put, List.setIfInBounds_toArray, List.set_cons_zero, List.set_cons_succ])
      refine AnyL.take (i := 15) (v := ?_) rfl (by kernel_rfl) (by kernel_rfl) (by kernel_rfl) (fun _ _ _ h => h) (Or.inl ⟨by rfl, ?_⟩) (SK.out _ (A2.out _ _)) ?_
      rotate_left
      · (intro w hSw; (try dsimp only at hSw); go_simp; (try with_reducible rfl))
      (try simp only [List.getElem_toArray, List.getElem_cons_succ, List.getElem_cons_zero, Act.put, List.setIfInBounds_toArray, List.set_cons_zero, List.set_cons_succ])
      refine AnyL.take (i := 16) (v := ?_) rfl (by kernel_rfl) (by kernel_rfl) (by kernel_rfl) (fun _ _ _ h => h) (Or.inl ⟨by rfl, ?_⟩) (SK.out _ (A2.out _ _)) ?_
      rotate_left
      · (intro w hSw; (try dsimp only at hSw); go_simp; (try with_reducible rfl))
      (try simp only [List.getElem_toArray, List.getElem_cons_succ, List.getElem_cons_zero, Act.put, List.setIfInBounds_toArray, List.set_cons_zero, List.set_cons_succ])
      refine AnyL.done (by kernel_rfl) ?_ _
      go_wp2_with fail
      go_meet
      exact ⟨W.heap.size + 1, W.heap.size, rfl, rfl, rfl, rfl, rfl, B3.out _ _, (B2.out _ _), (B1.out _ _)⟩
  case rest =>
    obtain ⟨gp, gs, rfl, rfl, rfl, rfl, rfl, hbc, hxp, hxs⟩ := hcut
    have lgp := (Array.getElem?_eq_some_iff.1 hxp).1
    have lgs := (Array.getElem?_eq_some_iff.1 hxs).1
    have HXP := Lib.hid (fun X (hX : Below wc.heap.size wc X) => (hX.block gp lgp).trans hxp)
    have HXS := Lib.hid (fun X (hX : Below wc.heap.size wc X) => (hX.block gs lgs).trans hxs)
    have c1 : wc.cell? ⟨gp, 1, none⟩ = some (.slice ba body.length bc) := cell_of_heap hxp rfl
    clear hxp hxs SK hl1 hB
    by_cases hbig : 12 < tks.length ∨ 100 < body.length
    · have HBIG := Lib.hid hbig
      clear hbig
      go_wp2_with (first | (go_at_call 30; refine (lives20 _).mono ?_; rintro e w1 ⟨rfl, hb1⟩))
      all_goals first
        | (go_ret; exact ⟨rfl, hbc.trans (hb1.mono hbc.size)⟩)
        | (exfalso; have := HBIG.out; omega)
    · have hs1 : (tks.length : Int) ≤ 12 := by omega
      have hs2 : (body.length : Int) ≤ 100 := by omega
      have hs3 : tks.length ≤ 12 := by omega
      have hs4 : body.length ≤ 100 := by omega
      clear hbig
      go_wp2_with fail
      clear c1
      go_loopw [8, 9, 10] (fun v8 v9 iv wx => ∃ (i : Nat) (kids : List Nd) (pl : List (Pn × Value)), iv = .int .i64 i ∧ i ≤ tks.length ∧ Below wc.heap.size wc wx ∧ Hid (RefLoop wc.heap.size i v8 v9 kids pl wx)) (fun _ _ iv _ => tks.length - (intOf iv).toNat)
      case atStart => exact ⟨0, [], [], rfl, by omega, Below.refl _ _, ⟨World.ownsRow_nil _ _ _ _, World.ownsRow_nil _ _ _ _, by simp, by simp, rfl, by simp, by simp⟩⟩
      case round =>
        obtain ⟨i, kids, pl, rfl, hi, hbr, HL⟩ := hrel
        have hwr := hbc.trans (hbr.mono hbc.size)
        have hkl := HL.out.len
        by_cases hlt : i < tks.length
        · obtain ⟨tb, tof, rfl, htb, q0, q1, q2⟩ := HTX.out i hlt
          obtain ⟨k, hk⟩ : ∃ k, tks[i].1 = k := ⟨_, rfl⟩
          obtain ⟨l, hl⟩ : ∃ l, tks[i].2.1 = l := ⟨_, rfl⟩
          obtain ⟨wd, hwd⟩ : ∃ wd, tks[i].2.2 = wd := ⟨_, rfl⟩
          rw [hk] at q0
          rw [hl] at q1
          rw [hwd] at q2
          have HQ := Lib.hid (fun X (hX : Below w.heap.size w X) => And.intro ((hX.cell (p := ⟨tb, tof + i * 3, none⟩) htb).trans q0) (And.intro ((hX.cell (p := ⟨tb, tof + i * 3 + 1, none⟩) htb).trans q1) ((hX.cell (p := ⟨tb, tof + i * 3 + 2, none⟩) htb).trans q2)))
          obtain ⟨d0, d1, d2⟩ := HQ.out wr hwr
          have hltI : (i : Int) < (tks.length : Int) := by omega
          have hi0 : (0 : Int) ≤ (i : Int) := Int.natCast_nonneg _
          have hwi : IntKind.i64.wrap ((i : Int) + 1) = ((i + 1 : Nat) : Int) := by rw [IntKind.wrap_i64]; omega
          clear q0 q1 q2 hk hl hwd
          by_cases h0 : leafE k l wd 0 = 0
          · have H0 := Lib.hid h0
            have HP := Lib.hid (leafP_ok (g := 0) (fm := true) h0)
            clear h0
            have hsz := hbr.size
            go_upto_region 14 with (first
              | (go_at_call 45; refine (leaf_ok k l wd 0 true _ H0.out).mono ?_; rintro e w1 ⟨g1, rfl, hg1, hge1, hb1⟩; obtain ⟨d0, d1, d2⟩ := HQ.out _ (hwr.trans (hb1.mono hwr.size)); have HG1 := Lib.hid hg1; clear hg1)
              | (go_at_call 46; refine (refLeaf_ok HP.out _).mono ?_; rintro e w2 ⟨A2, c2, rfl, hb2⟩; unfold leafV))
            have hb12 := hb1.trans (hb2.mono hb1.size)
            have hb23 := below_alloc w2 (.cells #[.int .i64 k, .int .i64 (-1), .int .i64 k, .int .i64 l, .int .i64 wd, .int .i64 0, .int .i64 (-1), .bool true, .slice A2 0 c2] 79)
            have hm3 := heap_alloc_new w2 (.cells #[.int .i64 k, .int .i64 (-1), .int .i64 k, .int .i64 l, .int .i64 wd, .int .i64 0, .int .i64 (-1), .bool true, .slice A2 0 c2] 79)
            have hs12 := hb12.size
            generalize w2.alloc (.cells #[.int .i64 k, .int .i64 (-1), .int .i64 k, .int .i64 l, .int .i64 wd, .int .i64 0, .int .i64 (-1), .bool true, .slice A2 0 c2] 79) = W3 at *
            have hb13 := hb12.trans (hb23.mono hb12.size)
            have HM3 := Lib.hid hm3
            have lm3 := (Array.getElem?_eq_some_iff.1 hm3).1
            clear hm3 d0 d1 d2
            go_upto_region 15 with (at_builtin; go_loud (refine wpList_push rfl _ _ 45 rfl 33 _ 1 8 info33 Try.underlying45 rfl (by decide) wc.heap.size u8 kids.length (kids.map Nd.ptr) rfl (HL.out.keep hb13).row8 [.pointer (some ⟨g1, 0, none⟩)] rfl rfl (by simp [Value.oneCell']) (by omega) (by omega) (by omega) ?_; intro g4 c4 w4 hown4 hgr4; have HOWN4 := Lib.hid hown4; have HGR4 := Lib.hid hgr4; clear hown4 hgr4))
            have hm4 := (HGR4.out.far w2.heap.size lm3 (own_ne (HL.out.keep hb13).row8 HM3.out (by decide))).trans HM3.out
            have hsz4 := HGR4.out.below.size
            have HROW9 := Lib.hid (row9_keep HL.out hb13 HGR4.out)
            obtain ⟨r0, r1, r2, r3, r4, r5, r6, r7, r8⟩ := nine_of hm4
            clear hm4
            go_wp2_with (at_builtin; go_loud (refine wpList_push rfl _ _ 76 rfl 79 _ 9 88 info79 Try.underlying76 rfl (by decide) wc.heap.size u9 kids.length (pl.flatMap kidN) rfl HROW9.out [.int .i64 k, .int .i64 (-1), .int .i64 k, .int .i64 l, .int .i64 wd, .int .i64 0, .int .i64 (-1), .bool true, .slice A2 0 c2] rfl rfl (by simp [Value.oneCell']) (by omega) (by omega) (by omega) ?_; intro g6 c6 w6 hown6 hgr6; have HOWN6 := Lib.hid hown6; have HGR6 := Lib.hid hgr6; clear hown6 hgr6))
            have hst := HL.out.step (n := leafNd g1 k l wd 0 true) hb13 ((leafNd_in HG1.out).below (hb2.trans (hb23.mono hb2.size))) ⟨_, _, _, _, _, _, rfl, leafNd_wf H0.out⟩ hge1 HOWN4.out HGR4.out (Below.refl _ _) HOWN6.out HGR6.out
            have HST := Lib.hid hst
            clear hst
            have h6 := HGR6.out.below
            have h4 := HGR4.out.below
            go_roundw
            case rel => exact ⟨i + 1, _, _, by go_num, by omega, ((hbr.trans (hb13.mono hbr.size)).trans h4).trans h6, HST.out⟩
            case measure => simp [intOf]; omega
          · have H0 := Lib.hid h0
            have HP := Lib.hid (leafP_err (fm := true) h0)
            have hq0 : (leafE k l wd 0 == 0) = false := beq_eq_false_iff_ne.2 h0
            have hq1 : (leafE k l wd 0 != leafE k l wd 0) = false := bne_self_eq_false _
            obtain ⟨er, her⟩ : ∃ er, leafE k l wd 0 = er := ⟨_, rfl⟩
            have hbad := fun W => leaf_bad k l wd 0 true W h0
            have HBAD := Lib.hid hbad
            have hrb := fun W => refLeaf_bad (k := k) (l := l) (wd := wd) (st := 0) (fm := true) HP.out W
            have HRB := Lib.hid hrb
            clear h0 hbad hrb
            rw [her] at hq0 hq1 HBAD HRB
            clear her HP H0
            go_wp2_with (first
              | (go_at_call 45; refine (HBAD.out _).mono ?_; rintro e w1 ⟨rfl, hb1⟩; obtain ⟨d0, d1, d2⟩ := HQ.out _ (hwr.trans (hb1.mono hwr.size)))
              | (go_at_call 46; refine (HRB.out _).mono ?_; rintro e w2 ⟨A2, c2, rfl, hb2⟩; unfold zeroV; have hb12 := hb1.trans (hb2.mono hb1.size); have hb13 := hb12.trans ((below_alloc w2 (.cells #[.int .i64 0, .int .i64 0, .int .i64 0, .int .i64 0, .int .i64 0, .int .i64 0, .int .i64 0, .bool false, .slice A2 0 c2] 79)).mono hb12.size)))
            go_roundw
            case rel => exact ⟨i + 1, kids, pl, by go_num, by omega, hbr.trans (hb13.mono hbr.size), (HL.out.keep hb13).more⟩
            case measure => simp [intOf]; omega
        · have hge : ¬ ((i : Int) < (tks.length : Int)) := by omega
          have hlenk : kids.length ≤ 12 := by omega
          clear hi hlt hkl
          obtain ⟨va, vc, rfl⟩ := row_any HL.out.row8
          obtain ⟨pa, pc, rfl⟩ := row_any HL.out.row9
          have hV : Kd.V k79 79 wr 0 (fun _ => True) (.slice pa kids.length pc) (pl.map fun p => p.1.s79) := V_row HL.out.row9 (fun _ _ => trivial) (fun p hp => by
            obtain ⟨h1, A, c, h2⟩ := HL.out.kv p hp
            rw [h1, h2]
            exact V_empty _ _ _ _)
          have hpls : (pl.map fun p => p.1.s79) = (kids.map Nd.plain).map Pn.s79 := by rw [← HL.out.pls, List.map_map]; rfl
          rw [hpls] at hV
          have hC := (Kd.V_reads' hV).2.2
          have hpc := (Kd.V_reads' hV).2.1
          rw [List.length_map] at hC
          have HC := Lib.hid hC
          have hwf : ∀ n ∈ kids, n.WF := fun n hn => by obtain ⟨_, _, _, _, _, _, _, h⟩ := HL.out.leaf n hn; exact h
          have hht : ∀ n ∈ kids, n.ht = 1 := fun n hn => by obtain ⟨_, _, _, _, _, _, rfl, _⟩ := HL.out.leaf n hn; rfl
          have HWF := Lib.hid hwf
          have HHT := Lib.hid hht
          have hwcr := hbr
          have HINTS := Lib.hid (show ∀ X, Below w.heap.size w X → IntsAt X (.slice ba body.length bc) body from fun X hX => ⟨ba, bc, rfl, fun j hj => by
            obtain ⟨b, o, h1, h2⟩ := HBX.out j hj
            exact ⟨b, o, h1, (hX.cell (p := ⟨b, o + j, none⟩) (World.block_lt_of_cell? w _ h2)).trans h2⟩⟩)
          have hm33 : ∀ X, Below wr.heap.size wr X → Calls Try.prog 33 #[.agg #[.int .i64 head, .slice ba body.length bc, .bool right], .int .i64 prod, .agg #[.int .i64 st, .int .i64 lk, .bool fm], .slice va kids.length vc] X (MakeSays X head body prod st lk fm kids) := fun X hX =>
            make_any head _ body right prod st lk fm _ kids X (HINTS.out X (hwr.trans (hX.mono hwr.size))) (ptrs_at (HL.out.keep hX).row8) (HL.out.keep hX).inw HWF.out (fun n hn => by rw [HHT.out n hn]; decide) (by omega) (by omega)
          have hm47 : ∀ X, Below wr.heap.size wr X → Calls Try.prog 47 #[.agg #[.int .i64 head, .slice ba body.length bc, .bool right], .int .i64 prod, .agg #[.int .i64 st, .int .i64 lk, .bool fm], .slice pa kids.length pc] X (RefMakeSays X head body prod st lk fm (kids.map Nd.plain) (.slice pa kids.length pc)) := fun X hX => by
            have h := refMake_call head _ body right prod st lk fm pa pc (kids.map Nd.plain) X (HINTS.out X (hwr.trans (hX.mono hwr.size))) (by rw [List.length_map]; have := Kd.C_below HC.out hX; rwa [List.length_map] at this) (fun n hn => by obtain ⟨m, hm, rfl⟩ := List.mem_map.1 hn; exact plain_ok m (HWF.out m hm)) (by omega) (by rw [List.length_map]; omega)
            rwa [List.length_map] at h
          have HM33 := Lib.hid hm33
          have HM47 := Lib.hid hm47
          have HXW := Lib.hid (fun X (hX : Below wr.heap.size wr X) => HXP.out X (hbr.trans (hX.mono hbr.size)))
          have HXV := Lib.hid (fun X (hX : Below wr.heap.size wr X) => HXS.out X (hbr.trans (hX.mono hbr.size)))
          have p0 := cell_of_heap (i := 0) (HXW.out wr (Below.refl _ _)) rfl
          have p1 := cell_of_heap (i := 1) (HXW.out wr (Below.refl _ _)) rfl
          have p2 := cell_of_heap (i := 2) (HXW.out wr (Below.refl _ _)) rfl
          have s0 := cell_of_heap (i := 0) (HXV.out wr (Below.refl _ _)) rfl
          have s1 := cell_of_heap (i := 1) (HXV.out wr (Below.refl _ _)) rfl
          have s2 := cell_of_heap (i := 2) (HXV.out wr (Below.refl _ _)) rfl
          clear hV hpls hC hwf hht hm33 hm47
          by_cases hE : makeE head body prod st lk kids = 0
          · have HE := Lib.hid hE
            have HMP := Lib.hid (makeP_ok (g := 0) (ks := .slice none 0 0) (fm := fm) HWF.out hE)
            clear hE
            go_upto_region 18 with (first
              | (go_at_call 33; refine (HM33.out _ (Below.refl _ _)).mono ?_; rintro e w1 hsay; obtain ⟨hb1, g5, ks, rfl, hge5, hc5, hk5⟩ := hsay.ok HE.out; have HG5 := Lib.hid (And.intro hc5 hk5); clear hc5 hk5; have p0 := cell_of_heap (i := 0) (HXW.out w1 hb1) rfl; have p1 := cell_of_heap (i := 1) (HXW.out w1 hb1) rfl; have p2 := cell_of_heap (i := 2) (HXW.out w1 hb1) rfl; have s0 := cell_of_heap (i := 0) (HXV.out w1 hb1) rfl; have s1 := cell_of_heap (i := 1) (HXV.out w1 hb1) rfl; have s2 := cell_of_heap (i := 2) (HXV.out w1 hb1) rfl)
              | (go_at_call 47; refine (HM47.out _ hb1).mono ?_; rintro e w2 hsay; obtain ⟨hb2, rfl⟩ := hsay.ok HMP.out))
            have hb12 := hb1.trans (hb2.mono hb1.size)
            have hb23 := below_alloc w2 (.cells #[.int .i64 head, .int .i64 prod, .int .i64 0, .int .i64 0, .int .i64 0, .int .i64 st, .int .i64 lk, .bool fm, .slice pa kids.length pc] 79)
            have hm3 := heap_alloc_new w2 (.cells #[.int .i64 head, .int .i64 prod, .int .i64 0, .int .i64 0, .int .i64 0, .int .i64 st, .int .i64 lk, .bool fm, .slice pa kids.length pc] 79)
            generalize w2.alloc (.cells #[.int .i64 head, .int .i64 prod, .int .i64 0, .int .i64 0, .int .i64 0, .int .i64 st, .int .i64 lk, .bool fm, .slice pa kids.length pc] 79) = W3 at *
            have hb13 := hb12.trans (hb23.mono hb12.size)
            obtain ⟨r0, r1, r2, r3, r4, r5, r6, r7, r8⟩ := nine_of hm3
            have htell : Calls Try.prog 48 #[.pointer (some ⟨g5, 0, none⟩), .agg #[.int .i64 head, .int .i64 prod, .int .i64 0, .int .i64 0, .int .i64 0, .int .i64 st, .int .i64 lk, .bool fm, .slice pa kids.length pc]] W3 fun e w' => e = .returned (.bool true) ∧ Below W3.heap.size W3 w' := by
              have hb13' := hb2.trans (hb23.mono hb2.size)
              have hnin : (makeNd g5 ks head prod st lk fm kids).In W3 := (makeNd_in HG5.out.1 HG5.out.2 (HL.out.keep hb1).inw).below hb13'
              have hnwf : (makeNd g5 ks head prod st lk fm kids).WF := makeNd_wf HWF.out HE.out
              have hpr : 0 ≤ prod := by
                have h := HE.out
                unfold makeE at h
                split at h
                · simp at h
                · omega
              have e4 : (makeNd g5 ks head prod st lk fm kids).plain.s79.f4 = (kids.map Nd.plain).map Pn.s79 := by rw [plain_s79 hnwf, plain_kids]; rfl
              have hC3 := Kd.C_below HC.out hb13
              have h := tells_call (makeNd g5 ks head prod st lk fm kids) pa pc W3 hnin hnwf (by
                have := ht_le_cnt _ hnwf
                have h2 : maxHt kids ≤ 1 := by
                  have : ∀ l : List Nd, (∀ n ∈ l, n.ht = 1) → maxHt l ≤ 1 := by
                    intro l
                    induction l with
                    | nil => intro _; simp [maxHt]
                    | cons x xs ih => intro h; unfold maxHt; have := h x (by simp); have := ih fun y hy => h y (by simp [hy]); omega
                  exact this kids HHT.out
                show maxHt kids + 1 ≤ 1000000
                omega) (by rw [e4, List.length_map]; exact hC3) (by rw [e4, List.length_map, List.length_map]; exact hpc)
              have e5 : (makeNd g5 ks head prod st lk fm kids).plain.s79.f4.length = kids.length := by rw [e4]; simp
              have e6 : nodeV (makeNd g5 ks head prod st lk fm kids).plain.s79 (.slice pa kids.length pc) = .agg #[.int .i64 head, .int .i64 prod, .int .i64 0, .int .i64 0, .int .i64 0, .int .i64 st, .int .i64 lk, .bool fm, .slice pa kids.length pc] := by
                rw [plain_s79 hnwf]
                unfold tok79
                rw [if_neg (by show ¬ prod < 0; omega)]
                rfl
              rw [e5, e6] at h
              exact h
            have HTELL := Lib.hid htell
            clear htell hm3 p0 p1 p2 s0 s1 s2 HMP HE HG5 hpc
            go_upto_region 20 with (go_at_call 48; refine HTELL.out.mono ?_; rintro e w4 ⟨rfl, hb4⟩)
            clear r0 r1 r2 r3 r4 r5 r6 r7 r8 HTELL hge
            have hbX := hb13.trans (hb4.mono hb13.size)
            clear hb1 hb2 hb12 hb23 hb13 hb4
            generalize w4 = X at *
            have hlX := hbX.size
            by_cases hin : 0 ≤ no ∧ no < (kids.length : Int)
            · obtain ⟨hn0, hn1⟩ := hin
              obtain ⟨j, rfl⟩ : ∃ j : Nat, no = (j : Int) := ⟨no.toNat, by omega⟩
              have hj : j < kids.length := by omega
              obtain ⟨g8, rfl, hg8, lg8, hrow⟩ := RowBut.start (HL.out.keep hbX) hj
              obtain ⟨pj, hpj⟩ := hrow.any
              have hfr := hrow.frozen
              have hset := hrow.set (.pointer none)
              have HSET := Lib.hid hset
              have hxp := hrow.other (.pointer none) (HXW.out X hbX) (by decide)
              have hxs := hrow.other (.pointer none) (HXV.out X hbX) (by decide)
              have hbX1 : Below w.heap.size w (X.setCell ⟨g8, j, none⟩ (.pointer none)) := (hwr.trans (hbX.mono hwr.size)).setCell (p := ⟨g8, j, none⟩) (Nat.le_trans hbc.size hg8) _
              clear hrow hset HL HXW HXV HM33 HM47 hbX
              go_upto_region 22 with fail
              have p0 := cell_of_heap (i := 0) hxp rfl
              have p1 := cell_of_heap (i := 1) hxp rfl
              have p2 := cell_of_heap (i := 2) hxp rfl
              have s0 := cell_of_heap (i := 0) hxs rfl
              have s1 := cell_of_heap (i := 1) hxs rfl
              have s2 := cell_of_heap (i := 2) hxs rfl
              generalize X.setCell ⟨g8, j, none⟩ (.pointer none) = X1 at *
              clear hpj hfr
              have hm := make_bad_row head ba body.length bc right prod st lk fm g8 vc kids j _ X1 hj hlenk HSET.out.1 HSET.out.2 (.inl rfl) HHT.out
              have HM := Lib.hid hm
              have HPS := Lib.hid (And.intro hxp hxs)
              clear hm hxp hxs
              go_upto_region 23 with (go_at_call 33; refine HM.out.mono ?_; rintro e X2 ⟨rfl, hb2⟩)
              clear p0 p1 p2 s0 s1 s2 HM
              have hbX2 := hbX1.trans (hb2.mono hbX1.size)
              have HR2 := Lib.hid (HSET.out.1.keep hb2)
              have HPS2 := Lib.hid (And.intro ((hb2.block _ (Array.getElem?_eq_some_iff.1 HPS.out.1).1).trans HPS.out.1) ((hb2.block _ (Array.getElem?_eq_some_iff.1 HPS.out.2).1).trans HPS.out.2))
              clear HSET HPS hb2 hbX1
              have hb3 := below_alloc X2 (.cells #[.int .i64 0, .int .i64 0, .int .i64 0, .int .i64 0, .int .i64 0, .int .i64 0, .int .i64 0, .int .i64 0, .int .i64 0, .bool false, .slice none 0 0] 87)
              have hm3 := heap_alloc_new X2 (.cells #[.int .i64 0, .int .i64 0, .int .i64 0, .int .i64 0, .int .i64 0, .int .i64 0, .int .i64 0, .int .i64 0, .int .i64 0, .bool false, .slice none 0 0] 87)
              have hbX3 := hbX2.trans (hb3.mono hbX2.size)
              have hr3 := HR2.out.keep hb3
              obtain ⟨pj, hpj⟩ := hr3.any
              have hfr := hr3.frozen
              have hxp := hr3.other (.pointer (some ⟨X2.heap.size, 0, none⟩)) ((hb3.block _ (Array.getElem?_eq_some_iff.1 HPS2.out.1).1).trans HPS2.out.1) (by decide)
              have hxs := hr3.other (.pointer (some ⟨X2.heap.size, 0, none⟩)) ((hb3.block _ (Array.getElem?_eq_some_iff.1 HPS2.out.2).1).trans HPS2.out.2) (by decide)
              have hz4 := zeroNd_in (hr3.other (.pointer (some ⟨X2.heap.size, 0, none⟩)) hm3 (by decide))
              have hset := hr3.set (.pointer (some ⟨X2.heap.size, 0, none⟩))
              have hbX4 := hbX3.setCell (p := ⟨g8, j, none⟩) (Nat.le_trans hbc.size hg8) (.pointer (some ⟨X2.heap.size, 0, none⟩))
              have HF := Lib.hid (And.intro hset (And.intro hz4 (And.intro hxp (And.intro hxs hbX4))))
              clear hset hz4 hxp hxs hbX4 hr3 hm3 hbX3
              go_upto_region 24 with fail
              obtain ⟨⟨hR4, hc4⟩, hz4, hxp, hxs, hbX4⟩ := HF.out
              clear HF hpj hfr HR2 HPS2 hb3
              generalize (X2.alloc (.cells #[.int .i64 0, .int .i64 0, .int .i64 0, .int .i64 0, .int .i64 0, .int .i64 0, .int .i64 0, .int .i64 0, .int .i64 0, .bool false, .slice none 0 0] 87)).setCell ⟨g8, j, none⟩ (.pointer (some ⟨X2.heap.size, 0, none⟩)) = X4 at *
              have p0 := cell_of_heap (i := 0) hxp rfl
              have p1 := cell_of_heap (i := 1) hxp rfl
              have p2 := cell_of_heap (i := 2) hxp rfl
              have s0 := cell_of_heap (i := 0) hxs rfl
              have s1 := cell_of_heap (i := 1) hxs rfl
              have s2 := cell_of_heap (i := 2) hxs rfl
              have hm := make_bad_row head ba body.length bc right prod st lk fm g8 vc kids j _ X4 hj hlenk hR4 hc4 (.inr ⟨zeroNd X2.heap.size, rfl, hz4, Int.le_refl 0⟩) HHT.out
              have HM := Lib.hid hm
              clear hm hxp hxs hR4 hc4 hz4
              go_wp2_with (first
                | (go_at_call 33; refine HM.out.mono ?_; rintro e X5 ⟨rfl, hb5⟩)
                | (go_at_call 30; refine (lives20 _).mono ?_; rintro e wz ⟨rfl, hbz⟩))
              go_ret
              exact ⟨rfl, (hbX4.trans (hb5.mono hbX4.size)).trans (hbz.mono (Nat.le_trans hbX4.size hb5.size))⟩
            · have HIN := Lib.hid hin
              clear hin
              go_wp2_with (first | (go_at_call 30; refine (lives20 _).mono ?_; rintro e wz ⟨rfl, hbz⟩))
              all_goals first
                | (go_ret; exact ⟨rfl, (hwr.trans (hbX.mono hwr.size)).trans (hbz.mono (Nat.le_trans hwr.size hbX.size))⟩)
                | (exfalso; have := HIN.out; omega)
          · have HE := Lib.hid hE
            have HMP := Lib.hid (makeP_err (fm := fm) HWF.out hE)
            have hq0 : (makeE head body prod st lk kids == 0) = false := beq_eq_false_iff_ne.2 hE
            have hq1 : (makeE head body prod st lk kids != makeE head body prod st lk kids) = false := bne_self_eq_false _
            have hq2 : (makeE head body prod st lk kids != 0) = true := bne_iff_ne.2 hE
            obtain ⟨er, her⟩ : ∃ er, makeE head body prod st lk kids = er := ⟨_, rfl⟩
            have HER := Lib.hid her
            rw [her] at hq0 hq1 hq2
            clear hE her
            go_upto_region 18 with (first
              | (go_at_call 33; refine (HM33.out _ (Below.refl _ _)).mono ?_; rintro e w1 hsay; obtain ⟨hb1, rfl⟩ := hsay.bad HE.out; rw [HER.out]; have p0 := cell_of_heap (i := 0) (HXW.out w1 hb1) rfl; have p1 := cell_of_heap (i := 1) (HXW.out w1 hb1) rfl; have p2 := cell_of_heap (i := 2) (HXW.out w1 hb1) rfl; have s0 := cell_of_heap (i := 0) (HXV.out w1 hb1) rfl; have s1 := cell_of_heap (i := 1) (HXV.out w1 hb1) rfl; have s2 := cell_of_heap (i := 2) (HXV.out w1 hb1) rfl)
              | (go_at_call 47; refine (HM47.out _ hb1).mono ?_; rintro e w2 hsay; obtain ⟨hb2, rfl⟩ := hsay.err HMP.out; rw [HER.out]; unfold zero79 zs79))
            have hb12 := hb1.trans (hb2.mono hb1.size)
            have hb23 := below_alloc w2 (.cells #[.int .i64 0, .int .i64 0, .int .i64 0, .int .i64 0, .int .i64 0, .int .i64 0, .int .i64 0, .bool false, .slice none 0 0] 79)
            generalize w2.alloc (.cells #[.int .i64 0, .int .i64 0, .int .i64 0, .int .i64 0, .int .i64 0, .int .i64 0, .int .i64 0, .bool false, .slice none 0 0] 79) = W3 at *
            have hbX := hb12.trans (hb23.mono hb12.size)
            clear p0 p1 p2 s0 s1 s2 HMP HE hpc
            go_upto_region 20 with fail
            clear hge hb1 hb2 hb12 hb23 hq0 hq1 hq2 HER
            generalize W3 = X at *
            have hlX := hbX.size
            by_cases hin : 0 ≤ no ∧ no < (kids.length : Int)
            · obtain ⟨hn0, hn1⟩ := hin
              obtain ⟨j, rfl⟩ : ∃ j : Nat, no = (j : Int) := ⟨no.toNat, by omega⟩
              have hj : j < kids.length := by omega
              obtain ⟨g8, rfl, hg8, lg8, hrow⟩ := RowBut.start (HL.out.keep hbX) hj
              obtain ⟨pj, hpj⟩ := hrow.any
              have hfr := hrow.frozen
              have hset := hrow.set (.pointer none)
              have HSET := Lib.hid hset
              have hxp := hrow.other (.pointer none) (HXW.out X hbX) (by decide)
              have hxs := hrow.other (.pointer none) (HXV.out X hbX) (by decide)
              have hbX1 : Below w.heap.size w (X.setCell ⟨g8, j, none⟩ (.pointer none)) := (hwr.trans (hbX.mono hwr.size)).setCell (p := ⟨g8, j, none⟩) (Nat.le_trans hbc.size hg8) _
              clear hrow hset HL HXW HXV HM33 HM47 hbX
              go_upto_region 22 with fail
              have p0 := cell_of_heap (i := 0) hxp rfl
              have p1 := cell_of_heap (i := 1) hxp rfl
              have p2 := cell_of_heap (i := 2) hxp rfl
              have s0 := cell_of_heap (i := 0) hxs rfl
              have s1 := cell_of_heap (i := 1) hxs rfl
              have s2 := cell_of_heap (i := 2) hxs rfl
              generalize X.setCell ⟨g8, j, none⟩ (.pointer none) = X1 at *
              clear hpj hfr
              have hm := make_bad_row head ba body.length bc right prod st lk fm g8 vc kids j _ X1 hj hlenk HSET.out.1 HSET.out.2 (.inl rfl) HHT.out
              have HM := Lib.hid hm
              have HPS := Lib.hid (And.intro hxp hxs)
              clear hm hxp hxs
              go_upto_region 23 with (go_at_call 33; refine HM.out.mono ?_; rintro e X2 ⟨rfl, hb2⟩)
              clear p0 p1 p2 s0 s1 s2 HM
              have hbX2 := hbX1.trans (hb2.mono hbX1.size)
              have HR2 := Lib.hid (HSET.out.1.keep hb2)
              have HPS2 := Lib.hid (And.intro ((hb2.block _ (Array.getElem?_eq_some_iff.1 HPS.out.1).1).trans HPS.out.1) ((hb2.block _ (Array.getElem?_eq_some_iff.1 HPS.out.2).1).trans HPS.out.2))
              clear HSET HPS hb2 hbX1
              have hb3 := below_alloc X2 (.cells #[.int .i64 0, .int .i64 0, .int .i64 0, .int .i64 0, .int .i64 0, .int .i64 0, .int .i64 0, .int .i64 0, .int .i64 0, .bool false, .slice none 0 0] 87)
              have hm3 := heap_alloc_new X2 (.cells #[.int .i64 0, .int .i64 0, .int .i64 0, .int .i64 0, .int .i64 0, .int .i64 0, .int .i64 0, .int .i64 0, .int .i64 0, .bool false, .slice none 0 0] 87)
              have hbX3 := hbX2.trans (hb3.mono hbX2.size)
              have hr3 := HR2.out.keep hb3
              obtain ⟨pj, hpj⟩ := hr3.any
              have hfr := hr3.frozen
              have hxp := hr3.other (.pointer (some ⟨X2.heap.size, 0, none⟩)) ((hb3.block _ (Array.getElem?_eq_some_iff.1 HPS2.out.1).1).trans HPS2.out.1) (by decide)
              have hxs := hr3.other (.pointer (some ⟨X2.heap.size, 0, none⟩)) ((hb3.block _ (Array.getElem?_eq_some_iff.1 HPS2.out.2).1).trans HPS2.out.2) (by decide)
              have hz4 := zeroNd_in (hr3.other (.pointer (some ⟨X2.heap.size, 0, none⟩)) hm3 (by decide))
              have hset := hr3.set (.pointer (some ⟨X2.heap.size, 0, none⟩))
              have hbX4 := hbX3.setCell (p := ⟨g8, j, none⟩) (Nat.le_trans hbc.size hg8) (.pointer (some ⟨X2.heap.size, 0, none⟩))
              have HF := Lib.hid (And.intro hset (And.intro hz4 (And.intro hxp (And.intro hxs hbX4))))
              clear hset hz4 hxp hxs hbX4 hr3 hm3 hbX3
              go_upto_region 24 with fail
              obtain ⟨⟨hR4, hc4⟩, hz4, hxp, hxs, hbX4⟩ := HF.out
              clear HF hpj hfr HR2 HPS2 hb3
              generalize (X2.alloc (.cells #[.int .i64 0, .int .i64 0, .int .i64 0, .int .i64 0, .int .i64 0, .int .i64 0, .int .i64 0, .int .i64 0, .int .i64 0, .bool false, .slice none 0 0] 87)).setCell ⟨g8, j, none⟩ (.pointer (some ⟨X2.heap.size, 0, none⟩)) = X4 at *
              have p0 := cell_of_heap (i := 0) hxp rfl
              have p1 := cell_of_heap (i := 1) hxp rfl
              have p2 := cell_of_heap (i := 2) hxp rfl
              have s0 := cell_of_heap (i := 0) hxs rfl
              have s1 := cell_of_heap (i := 1) hxs rfl
              have s2 := cell_of_heap (i := 2) hxs rfl
              have hm := make_bad_row head ba body.length bc right prod st lk fm g8 vc kids j _ X4 hj hlenk hR4 hc4 (.inr ⟨zeroNd X2.heap.size, rfl, hz4, Int.le_refl 0⟩) HHT.out
              have HM := Lib.hid hm
              clear hm hxp hxs hR4 hc4 hz4
              go_wp2_with (first
                | (go_at_call 33; refine HM.out.mono ?_; rintro e X5 ⟨rfl, hb5⟩)
                | (go_at_call 30; refine (lives20 _).mono ?_; rintro e wz ⟨rfl, hbz⟩))
              go_ret
              exact ⟨rfl, (hbX4.trans (hb5.mono hbX4.size)).trans (hbz.mono (Nat.le_trans hbX4.size hb5.size))⟩
            · have HIN := Lib.hid hin
              clear hin
              go_wp2_with (first | (go_at_call 30; refine (lives20 _).mono ?_; rintro e wz ⟨rfl, hbz⟩))
              all_goals first
                | (go_ret; exact ⟨rfl, (hwr.trans (hbX.mono hwr.size)).trans (hbz.mono (Nat.le_trans hwr.size hbX.size))⟩)
                | (exfalso; have := HIN.out; omega)

end Go.Proofs.Ytcjpmgfobnaoeaa
