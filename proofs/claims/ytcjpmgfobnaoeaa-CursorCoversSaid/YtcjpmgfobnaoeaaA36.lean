/- nodes.Spots: the places of a tree. -/
import Derived.Test.YtcjpmgfobnaoeaaA35
namespace Go.Proofs.Ytcjpmgfobnaoeaa
open Go.RowKit Go.Shelf
attribute [local go_sem] Oper.semAt_some

set_option maxRecDepth 100000 in
set_option maxHeartbeats 8000000 in
theorem spots_call (n : Nd) (w : World) (hin : n.In w) (hwf : n.WF) (hcn : n.cnt ≤ 1000) : Calls Try.prog 31 #[n.ptr] w fun e w' =>
    ∃ v, e = .returned v ∧ w'.ownsRow w.heap.size 66 5 v (preN 0 0 n).length (spots (spotsN n)) ∧ Below w.heap.size w w' := by
  refine (callsIn_wide (n := 3)).1 ?_
  have hb0 : ∀ W, W = (w.alloc (.cells #[.slice none 0 0] 50)).alloc (.cells #[n.ptr] 33) → Below w.heap.size w W ∧ W.heap[w.heap.size]? = some (.cells #[.slice none 0 0] 50 (0, 0)) ∧ W.heap[w.heap.size + 1]? = some (.cells #[n.ptr] 33 (0, 0)) := by
    rintro W rfl
    exact ⟨((Below.refl _ _).alloc (Nat.le_refl _) _).alloc (by simp) _, by rw [Below.heap_alloc _ _ _ (by simp)]; exact heap_alloc_new _ _, heap_new2 _ _ _⟩
  have hal := fun W => callsIn_wide (n := 2) |>.2 (all_call (some ⟨n.b, 0, none⟩) W)
  have HB := Lib.hid hb0
  have HIN := Lib.hid hin
  have HWF := Lib.hid hwf
  have HAL := Lib.hid hal
  clear hb0 hin hwf hal
  unfold Nd.ptr at HB ⊢
  refine callsIn_of_wp_marks Try.func31 rfl trivial ?_ rfl
  simp only [Try.ntmps31, List.size_toArray, List.length_cons, List.length_nil, Nat.reduceAdd, Nat.reduceSub, Array.replicate_succ, Array.replicate_zero, List.push_toArray, List.append_toArray, List.nil_append, List.cons_append]
  gi_wp2_with (first | (refine ⟨trivial, ?_⟩; gi_at_call 69; refine (HAL.out _).mono ?_; rintro e w5 ⟨rfl, h5⟩; rw [h5]; clear h5))
  obtain ⟨hb1, x0, x1⟩ := HB.out _ rfl
  have hsz1 : ((w.alloc (.cells #[.slice none 0 0] 50)).alloc (.cells #[.pointer (some ⟨n.b, 0, none⟩)] 33)).heap.size = w.heap.size + 2 := by simp
  generalize (w.alloc (.cells #[.slice none 0 0] 50)).alloc (.cells #[.pointer (some ⟨n.b, 0, none⟩)] 33) = W1 at *
  have hlen : (preN 0 0 n).length ≤ 1000 := by rw [preN_len]; exact hcn
  have hm : Try.prog.follows .mixedOrders = true := by kernel_rfl
  refine wpIn_rangeT (gf := 85) (lb := #[.pointer (some ⟨w.heap.size + 1, 0, none⟩)]) rfl (enters_of Try.func85 (by kernel_rfl) rfl) (all1_gives n w W1 (w.heap.size + 1) HIN.out HWF.out hcn hb1 x1) (Below.refl _ _) hb1.size (fun _ => rfl)
    (fun p Wc => ∃ tv, Wc.heap[w.heap.size]? = some (.cells #[tv] 50 (0, 0)) ∧ Wc.ownsRow w.heap.size 66 5 tv p.length (spots (p.map spotV)) ∧ Below w.heap.size w Wc)
    (fun p X Y ⟨tv, h1, h2, h3⟩ hat => ⟨tv, hat.keep h1 (by decide), row_at h2 hat (by decide), h3.trans hat.below⟩)
    ⟨_, x0, World.ownsRow_nil _ _ _ _, hb1⟩
    (fun x a' Wc => ∃ bx, Wc.heap[bx]? = some (.cells #[.pointer (some ⟨x.1.b, 0, none⟩), .int .i64 x.2.1, .int .i64 x.2.2] 120 (0, 0)) ∧ a' = { tmps := #[((.pointer (some ⟨n.b, 0, none⟩)) : Value), undef, ((.slice none 0 0) : Value), (.pointer (some ⟨w.heap.size, 0, none⟩)), (.pointer (some ⟨bx, 0, none⟩)), undef, (.pointer (some ⟨n.b, 0, none⟩)), (.func (.func 85) #[] #[.pointer (some ⟨w.heap.size + 1, 0, none⟩)]), (.agg #[.pointer (some ⟨x.1.b, 0, none⟩), .int .i64 x.2.1, .int .i64 x.2.2]), undef, undef, undef, undef, undef, undef, undef, undef, undef, undef, undef, undef, undef, undef, undef, undef, undef, undef, undef, undef, undef, undef, undef, undef, undef, undef, undef, undef, undef, undef, undef, undef, undef, undef, undef, undef, undef, undef, undef, undef, undef], defers := [] })
    (fun x a' X Y ⟨bx, h1, h2⟩ hat => ⟨bx, hat.keep h1 (by decide), h2⟩) ?assign ?body ?done
  case assign =>
    rintro l m p x Wc ⟨tv, h1, h2, h3⟩ _ hs
    unfold visV Nd.ptr
    gi_wp2_with fail
    exact ⟨⟨Wc.heap.size, heap_alloc_new _ _, rfl⟩, KT.of_below (below_alloc _ _) (by omega), tv, (Below.heap_alloc _ _ _ (by omega)).trans h1, h2.alloc _, h3.alloc h3.size _⟩
  case body =>
    rintro l m p x rs a₁ Wc hxs ⟨tv, h1, h2, h3⟩ ⟨bx, hbx, rfl⟩
    have hmem : x ∈ preN 0 0 n := by rw [hxs]; simp
    have hwin := preN_in n HWF.out 0 0 x hmem
    have hxin : x.1.In w := preN_all (p := fun m => m.In w) (fun m hm => hm.head.2.2) n HIN.out 0 0 x hmem
    have hpl : p.length ≤ 1000 := by
      rw [hxs, List.length_append] at hlen
      omega
    obtain ⟨A, c, htv⟩ := row_any h2
    subst htv
    have hok := Nd.WF.ok _ hwin.wf
    have hnok := Nd.WF.ok _ HWF.out
    have k1 := hwin.ge
    have k2 := hwin.le
    have k3 := hok.ld0
    have k4 := hok.ld1
    have k5 := hnok.bt1
    have hw1 : IntKind.i64.wrap (x.2.1 + x.1.ld) = x.2.1 + x.1.ld := by rw [IntKind.wrap_i64]; omega
    have hw2 : IntKind.i64.wrap (x.2.1 + x.1.bt) = x.2.1 + x.1.bt := by rw [IntKind.wrap_i64]; omega
    have hn1 : w.heap.size ≤ Wc.heap.size := h3.size
    have c0 : Wc.cell? ⟨bx, 0, none⟩ = some (.pointer (some ⟨x.1.b, 0, none⟩)) := cell_of_heap hbx rfl
    have c1 : Wc.cell? ⟨bx, 1, none⟩ = some (.int .i64 x.2.1) := cell_of_heap hbx rfl
    have c2 : Wc.cell? ⟨x.1.b, 2, none⟩ = some (.int .i64 x.1.ld) := (hxin.below h3).cells.c2
    have c3 : Wc.cell? ⟨x.1.b, 1, none⟩ = some (.int .i64 x.1.bt) := (hxin.below h3).cells.c1
    have H1 := Lib.hid h1
    have H2 := Lib.hid h2
    have HBX := Lib.hid hbx
    have HXIN := Lib.hid hxin
    have hl1 := (Array.getElem?_eq_some_iff.1 h1).1
    clear h1 h2 hwin hok hnok hxs hmem hlen hbx hxin
    gi_upto_region 4 with fail
    refine wpIn_region_free (free_round l) (S := fun W => W.cell? ⟨bx, 0, none⟩ = some (.pointer (some ⟨x.1.b, 0, none⟩)) ∧ W.cell? ⟨bx, 1, none⟩ = some (.int .i64 x.2.1) ∧ W.cell? ⟨x.1.b, 2, none⟩ = some (.int .i64 x.1.ld) ∧ W.cell? ⟨x.1.b, 1, none⟩ = some (.int .i64 x.1.bt)) hm (by rfl) ⟨c0, c1, c2, c3⟩ 21 rfl (fun hH => ?_)
    refine AnyL.take (i := 0) (v := ?_) rfl (by kernel_rfl) (by kernel_rfl) (by kernel_rfl) (fun _ _ _ h => h) (Or.inl ⟨by rfl, ?_⟩) hH ?_
    rotate_left
    · (intro w hSw; (try dsimp only at hSw); go_simp; (try with_reducible rfl))
    (try simp only [List.getElem_toArray, List.getElem_cons_succ, List.getElem_cons_zero, Act.put, List.setIfInBounds_toArray, List.set_cons_zero, List.set_cons_succ])
    refine AnyL.take (i := 1) (v := ?_) rfl (by kernel_rfl) (by kernel_rfl) (by kernel_rfl) (fun _ _ _ h => h) (Or.inl ⟨by rfl, ?_⟩) hH ?_
    rotate_left
    · (intro w hSw; (try dsimp only at hSw); go_simp; (try with_reducible rfl))
    (try simp only [List.getElem_toArray, List.getElem_cons_succ, List.getElem_cons_zero, Act.put, List.setIfInBounds_toArray, List.set_cons_zero, List.set_cons_succ])
    refine AnyL.take (i := 2) (v := ?_) rfl (by kernel_rfl) (by kernel_rfl) (by kernel_rfl) (fun _ _ _ h => h) (Or.inl ⟨by rfl, ?_⟩) hH ?_
    rotate_left
    · (intro w hSw; (try dsimp only at hSw); go_simp; (try with_reducible rfl))
    (try simp only [List.getElem_toArray, List.getElem_cons_succ, List.getElem_cons_zero, Act.put, List.setIfInBounds_toArray, List.set_cons_zero, List.set_cons_succ])
    refine AnyL.take (i := 3) (v := ?_) rfl (by kernel_rfl) (by kernel_rfl) (by kernel_rfl) (fun _ _ _ h => h) (Or.inl ⟨by rfl, ?_⟩) hH ?_
    rotate_left
    · (intro w hSw; (try dsimp only at hSw); go_simp; (try with_reducible rfl))
    (try simp only [List.getElem_toArray, List.getElem_cons_succ, List.getElem_cons_zero, Act.put, List.setIfInBounds_toArray, List.set_cons_zero, List.set_cons_succ])
    refine AnyL.take (i := 4) (v := ?_) rfl (by kernel_rfl) (by kernel_rfl) (by kernel_rfl) (fun _ _ _ h => h) (Or.inl ⟨by rfl, ?_⟩) hH ?_
    rotate_left
    · (intro w hSw; (try dsimp only at hSw); go_simp; (try with_reducible rfl))
    (try simp only [List.getElem_toArray, List.getElem_cons_succ, List.getElem_cons_zero, Act.put, List.setIfInBounds_toArray, List.set_cons_zero, List.set_cons_succ])
    refine AnyL.take (i := 5) (v := ?_) rfl (by kernel_rfl) (by kernel_rfl) (by kernel_rfl) (fun _ _ _ h => h) (Or.inl ⟨by rfl, ?_⟩) hH ?_
    rotate_left
    · (intro w hSw; (try dsimp only at hSw); go_simp; (try with_reducible rfl))
    (try simp only [List.getElem_toArray, List.getElem_cons_succ, List.getElem_cons_zero, Act.put, List.setIfInBounds_toArray, List.set_cons_zero, List.set_cons_succ])
    refine AnyL.take (i := 6) (v := ?_) rfl (by kernel_rfl) (by kernel_rfl) (by kernel_rfl) (fun _ _ _ h => h) (Or.inl ⟨by rfl, ?_⟩) hH ?_
    rotate_left
    · (intro w hSw; (try dsimp only at hSw); go_simp; (try with_reducible rfl))
    (try simp only [List.getElem_toArray, List.getElem_cons_succ, List.getElem_cons_zero, Act.put, List.setIfInBounds_toArray, List.set_cons_zero, List.set_cons_succ])
    refine AnyL.take (i := 7) (v := ?_) rfl (by kernel_rfl) (by kernel_rfl) (by kernel_rfl) (fun _ _ _ h => h) (Or.inl ⟨by rfl, ?_⟩) hH ?_
    rotate_left
    · (intro w hSw; (try dsimp only at hSw); go_simp; (try with_reducible rfl))
    (try simp only [List.getElem_toArray, List.getElem_cons_succ, List.getElem_cons_zero, Act.put, List.setIfInBounds_toArray, List.set_cons_zero, List.set_cons_succ])
    refine AnyL.take (i := 8) (v := ?_) rfl (by kernel_rfl) (by kernel_rfl) (by kernel_rfl) (fun _ _ _ h => h) (Or.inl ⟨by rfl, ?_⟩) hH ?_
    rotate_left
    · (intro w hSw; (try dsimp only at hSw); go_simp; (try with_reducible rfl))
    (try simp only [List.getElem_toArray, List.getElem_cons_succ, List.getElem_cons_zero, Act.put, List.setIfInBounds_toArray, List.set_cons_zero, List.set_cons_succ])
    refine AnyL.take (i := 9) (v := ?_) rfl (by kernel_rfl) (by kernel_rfl) (by kernel_rfl) (fun _ _ _ h => h) (Or.inl ⟨by rfl, ?_⟩) hH ?_
    rotate_left
    · (intro w hSw; (try dsimp only at hSw); go_simp; (try with_reducible rfl))
    (try simp only [List.getElem_toArray, List.getElem_cons_succ, List.getElem_cons_zero, Act.put, List.setIfInBounds_toArray, List.set_cons_zero, List.set_cons_succ])
    refine AnyL.take (i := 10) (v := ?_) rfl (by kernel_rfl) (by kernel_rfl) (by kernel_rfl) (fun _ _ _ h => h) (Or.inl ⟨by rfl, ?_⟩) hH ?_
    rotate_left
    · (intro w hSw; (try dsimp only at hSw); go_simp; (try with_reducible rfl))
    (try simp only [List.getElem_toArray, List.getElem_cons_succ, List.getElem_cons_zero, Act.put, List.setIfInBounds_toArray, List.set_cons_zero, List.set_cons_succ])
    refine AnyL.take (i := 11) (v := ?_) rfl (by kernel_rfl) (by kernel_rfl) (by kernel_rfl) (fun _ _ _ h => h) (Or.inl ⟨by rfl, ?_⟩) hH ?_
    rotate_left
    · (intro w hSw; (try dsimp only at hSw); go_simp; (try with_reducible rfl))
    (try simp only [List.getElem_toArray, List.getElem_cons_succ, List.getElem_cons_zero, Act.put, List.setIfInBounds_toArray, List.set_cons_zero, List.set_cons_succ])
    refine AnyL.take (i := 12) (v := ?_) rfl (by kernel_rfl) (by kernel_rfl) (by kernel_rfl) (fun _ _ _ h => h) (Or.inl ⟨by rfl, ?_⟩) hH ?_
    rotate_left
    · (intro w hSw; (try dsimp only at hSw); go_simp; (try with_reducible rfl))
    (try simp only [List.getElem_toArray, List.getElem_cons_succ, List.getElem_cons_zero, Act.put, List.setIfInBounds_toArray, List.set_cons_zero, List.set_cons_succ])
    refine AnyL.take (i := 13) (v := ?_) rfl (by kernel_rfl) (by kernel_rfl) (by kernel_rfl) (fun _ _ _ h => h) (Or.inl ⟨by rfl, ?_⟩) hH ?_
    rotate_left
    · (intro w hSw; (try dsimp only at hSw); go_simp; (try with_reducible rfl))
    (try simp only [List.getElem_toArray, List.getElem_cons_succ, List.getElem_cons_zero, Act.put, List.setIfInBounds_toArray, List.set_cons_zero, List.set_cons_succ])
    refine AnyL.take (i := 14) (v := ?_) rfl (by kernel_rfl) (by kernel_rfl) (by kernel_rfl) (fun _ _ _ h => h) (Or.inl ⟨by rfl, ?_⟩) hH ?_
    rotate_left
    · (intro w hSw; (try dsimp only at hSw); go_simp; (try with_reducible rfl))
    (try simp only [List.getElem_toArray, List.getElem_cons_succ, List.getElem_cons_zero, Act.put, List.setIfInBounds_toArray, List.set_cons_zero, List.set_cons_succ])
    refine AnyL.take (i := 15) (v := ?_) rfl (by kernel_rfl) (by kernel_rfl) (by kernel_rfl) (fun _ _ _ h => h) (Or.inl ⟨by rfl, ?_⟩) hH ?_
    rotate_left
    · (intro w hSw; (try dsimp only at hSw); go_simp; (try with_reducible rfl))
    (try simp only [List.getElem_toArray, List.getElem_cons_succ, List.getElem_cons_zero, Act.put, List.setIfInBounds_toArray, List.set_cons_zero, List.set_cons_succ])
    refine AnyL.take (i := 16) (v := ?_) rfl (by kernel_rfl) (by kernel_rfl) (by kernel_rfl) (fun _ _ _ h => h) (Or.inl ⟨by rfl, ?_⟩) hH ?_
    rotate_left
    · (intro w hSw; (try dsimp only at hSw); go_simp; (try with_reducible rfl))
    (try simp only [List.getElem_toArray, List.getElem_cons_succ, List.getElem_cons_zero, Act.put, List.setIfInBounds_toArray, List.set_cons_zero, List.set_cons_succ])
    refine AnyL.take (i := 17) (v := ?_) rfl (by kernel_rfl) (by kernel_rfl) (by kernel_rfl) (fun _ _ _ h => h) (Or.inl ⟨by rfl, ?_⟩) hH ?_
    rotate_left
    · (intro w hSw; (try dsimp only at hSw); go_simp; (try with_reducible rfl))
    (try simp only [List.getElem_toArray, List.getElem_cons_succ, List.getElem_cons_zero, Act.put, List.setIfInBounds_toArray, List.set_cons_zero, List.set_cons_succ])
    refine AnyL.take (i := 18) (v := ?_) rfl (by kernel_rfl) (by kernel_rfl) (by kernel_rfl) (fun _ _ _ h => h) (Or.inl ⟨by rfl, ?_⟩) hH ?_
    rotate_left
    · (intro w hSw; (try dsimp only at hSw); go_simp; (try with_reducible rfl))
    (try simp only [List.getElem_toArray, List.getElem_cons_succ, List.getElem_cons_zero, Act.put, List.setIfInBounds_toArray, List.set_cons_zero, List.set_cons_succ])
    refine AnyL.step (i := 19) (by kernel_rfl) rfl (fun K hK => ?_)
    (try simp only [List.getElem_toArray, List.getElem_cons_succ, List.getElem_cons_zero])
    go_simp
    refine hK.out _ _ (.inr ⟨Lib.cell?_alloc_some _ c0, Lib.cell?_alloc_some _ c1, Lib.cell?_alloc_some _ c2, Lib.cell?_alloc_some _ c3⟩) ?_
    clear hK K
    (try simp only [List.getElem_toArray, List.getElem_cons_succ, List.getElem_cons_zero, Act.put, List.setIfInBounds_toArray, List.set_cons_zero, List.set_cons_succ])
    refine AnyL.step (i := 20) (by kernel_rfl) rfl (fun K hK => ?_)
    (try simp only [List.getElem_toArray, List.getElem_cons_succ, List.getElem_cons_zero])
    go_simp
    refine hK.out _ _ (.inl (by kernel_rfl)) ?_
    clear hK K
    (try simp only [List.getElem_toArray, List.getElem_cons_succ, List.getElem_cons_zero, Act.put, List.setIfInBounds_toArray, List.set_cons_zero, List.set_cons_succ])
    refine AnyL.done (by kernel_rfl) ?_ _
    dsimp only [OnNormal]
    clear c0 c1 c2 c3 hw1 hw2 hH
    have hw7 : ∀ w7, w7 = (Wc.alloc (.cells #[.int .i64 (x.2.1 + x.1.ld), .int .i64 (x.2.1 + x.1.bt)] 64)).drew → Below Wc.heap.size Wc w7 ∧ w7.heap[Wc.heap.size]? = some (.cells #[.int .i64 (x.2.1 + x.1.ld), .int .i64 (x.2.1 + x.1.bt)] 64 (0, 0)) := by
      rintro w7 rfl
      exact ⟨(below_alloc _ _).drew, heap_alloc_new Wc _⟩
    obtain ⟨hb7, hs7⟩ := hw7 _ rfl
    generalize (Wc.alloc (.cells #[.int .i64 (x.2.1 + x.1.ld), .int .i64 (x.2.1 + x.1.bt)] 64)).drew = w7 at *
    have e2 : w7.cell? ⟨bx, 2, none⟩ = some (.int .i64 x.2.2) := cell_of_heap ((hb7.block _ (Array.getElem?_eq_some_iff.1 HBX.out).1).trans HBX.out) rfl
    have e3 : w7.cell? ⟨Wc.heap.size, 0, none⟩ = some (.int .i64 (x.2.1 + x.1.ld)) := cell_of_heap hs7 rfl
    have e4 : w7.frozen? ⟨Wc.heap.size, 0, none⟩ = false := frozen_of_heap hs7
    have HS7 := Lib.hid hs7
    clear hw7 hs7
    by_cases hd : x.2.2 = 0
    · have hq : (x.2.2 == 0) = true := by rw [hd]; rfl
      have HD := Lib.hid hd
      clear hd
      gi_upto_region 7 with fail
      have hs8 := setCell_heap (i := 0) HS7.out (.int .i64 0)
      have hb8 := hb7.setCell (p := ⟨Wc.heap.size, 0, none⟩) (Nat.le_refl _) (.int .i64 0)
      obtain ⟨fa, hfa⟩ : ∃ fa, fa = (0 : Int) := ⟨_, rfl⟩
      have HFA := Lib.hid (show spotV x = ⟨x.1.sy, x.1.pr, fa, x.2.1 + x.1.bt, x.2.2⟩ by unfold spotV; rw [if_pos HD.out, hfa])
      rw [← hfa] at hs8 hb8 ⊢
      clear hfa e2 e3 e4 HS7 HD hq
      generalize w7.setCell ⟨Wc.heap.size, 0, none⟩ (.int .i64 fa) = W8 at *
      have hb8l := hb8.size
      have hl8 := Nat.lt_of_lt_of_le hl1 hb8.size
      have E1 := Lib.hid ((hb8.block _ hl1).trans H1.out)
      have R2 := Lib.hid (ownsRow_of_block H2.out (w' := W8) (fun k hk => hb8.block k (H2.out.lt k hk).2))
      have EX := Lib.hid ((hb8.block _ (Array.getElem?_eq_some_iff.1 HBX.out).1).trans HBX.out)
      have E3 := Lib.hid (h3.trans (hb8.mono hn1))
      have hlx : bx < W8.heap.size := (Array.getElem?_eq_some_iff.1 EX.out).1
      have hls : Wc.heap.size < W8.heap.size := (Array.getElem?_eq_some_iff.1 hs8).1
      have hlb : x.1.b < W8.heap.size := World.block_lt_of_cell? W8 _ (HXIN.out.below E3.out).cells.c4
      have f0 : W8.cell? ⟨w.heap.size, 0, none⟩ = some (.slice A p.length c) := cell_of_heap E1.out rfl
      have f1 : W8.cell? ⟨bx, 0, none⟩ = some (.pointer (some ⟨x.1.b, 0, none⟩)) := cell_of_heap EX.out rfl
      have f2 : W8.cell? ⟨bx, 2, none⟩ = some (.int .i64 x.2.2) := cell_of_heap EX.out rfl
      have f3 : W8.cell? ⟨x.1.b, 4, none⟩ = some (.int .i64 x.1.sy) := (HXIN.out.below E3.out).cells.c4
      have f4 : W8.cell? ⟨x.1.b, 5, none⟩ = some (.int .i64 x.1.pr) := (HXIN.out.below E3.out).cells.c5
      have f5 : W8.cell? ⟨Wc.heap.size, 0, none⟩ = some (.int .i64 fa) := cell_of_heap hs8 rfl
      have f6 : W8.cell? ⟨Wc.heap.size, 1, none⟩ = some (.int .i64 (x.2.1 + x.1.bt)) := cell_of_heap hs8 rfl
      have HS8 := Lib.hid hs8
      have HX4 := Lib.hid (HXIN.out.below E3.out).cells
      clear hs8
      refine wpIn_region_free (free_round l) (S := fun W => W.cell? ⟨w.heap.size, 0, none⟩ = some (.slice A p.length c) ∧ W.cell? ⟨bx, 0, none⟩ = some (.pointer (some ⟨x.1.b, 0, none⟩)) ∧ W.cell? ⟨bx, 2, none⟩ = some (.int .i64 x.2.2) ∧ W.cell? ⟨x.1.b, 4, none⟩ = some (.int .i64 x.1.sy) ∧ W.cell? ⟨x.1.b, 5, none⟩ = some (.int .i64 x.1.pr) ∧ W.cell? ⟨Wc.heap.size, 0, none⟩ = some (.int .i64 fa) ∧ W.cell? ⟨Wc.heap.size, 1, none⟩ = some (.int .i64 (x.2.1 + x.1.bt))) hm (by rfl) ⟨f0, f1, f2, f3, f4, f5, f6⟩ 18 rfl (fun hH => ?_)
      refine AnyL.take (i := 0) (v := ?_) rfl (by kernel_rfl) (by kernel_rfl) (by kernel_rfl) (fun _ _ _ h => h) (Or.inl ⟨by rfl, ?_⟩) hH ?_
      rotate_left
      · (intro w hSw; (try dsimp only at hSw); go_simp; (try with_reducible rfl))
      (try simp only [List.getElem_toArray, List.getElem_cons_succ, List.getElem_cons_zero, Act.put, List.setIfInBounds_toArray, List.set_cons_zero, List.set_cons_succ])
      refine AnyL.take (i := 1) (v := ?_) rfl (by kernel_rfl) (by kernel_rfl) (by kernel_rfl) (fun _ _ _ h => h) (Or.inl ⟨by rfl, ?_⟩) hH ?_
      rotate_left
      · (intro w hSw; (try dsimp only at hSw); go_simp; (try with_reducible rfl))
      (try simp only [List.getElem_toArray, List.getElem_cons_succ, List.getElem_cons_zero, Act.put, List.setIfInBounds_toArray, List.set_cons_zero, List.set_cons_succ])
      refine AnyL.take (i := 2) (v := ?_) rfl (by kernel_rfl) (by kernel_rfl) (by kernel_rfl) (fun _ _ _ h => h) (Or.inl ⟨by rfl, ?_⟩) hH ?_
      rotate_left
      · (intro w hSw; (try dsimp only at hSw); go_simp; (try with_reducible rfl))
      (try simp only [List.getElem_toArray, List.getElem_cons_succ, List.getElem_cons_zero, Act.put, List.setIfInBounds_toArray, List.set_cons_zero, List.set_cons_succ])
      refine AnyL.take (i := 3) (v := ?_) rfl (by kernel_rfl) (by kernel_rfl) (by kernel_rfl) (fun _ _ _ h => h) (Or.inl ⟨by rfl, ?_⟩) hH ?_
      rotate_left
      · (intro w hSw; (try dsimp only at hSw); go_simp; (try with_reducible rfl))
      (try simp only [List.getElem_toArray, List.getElem_cons_succ, List.getElem_cons_zero, Act.put, List.setIfInBounds_toArray, List.set_cons_zero, List.set_cons_succ])
      refine AnyL.take (i := 4) (v := ?_) rfl (by kernel_rfl) (by kernel_rfl) (by kernel_rfl) (fun _ _ _ h => h) (Or.inl ⟨by rfl, ?_⟩) hH ?_
      rotate_left
      · (intro w hSw; (try dsimp only at hSw); go_simp; (try with_reducible rfl))
      (try simp only [List.getElem_toArray, List.getElem_cons_succ, List.getElem_cons_zero, Act.put, List.setIfInBounds_toArray, List.set_cons_zero, List.set_cons_succ])
      refine AnyL.take (i := 5) (v := ?_) rfl (by kernel_rfl) (by kernel_rfl) (by kernel_rfl) (fun _ _ _ h => h) (Or.inl ⟨by rfl, ?_⟩) hH ?_
      rotate_left
      · (intro w hSw; (try dsimp only at hSw); go_simp; (try with_reducible rfl))
      (try simp only [List.getElem_toArray, List.getElem_cons_succ, List.getElem_cons_zero, Act.put, List.setIfInBounds_toArray, List.set_cons_zero, List.set_cons_succ])
      refine AnyL.take (i := 6) (v := ?_) rfl (by kernel_rfl) (by kernel_rfl) (by kernel_rfl) (fun _ _ _ h => h) (Or.inl ⟨by rfl, ?_⟩) hH ?_
      rotate_left
      · (intro w hSw; (try dsimp only at hSw); go_simp; (try with_reducible rfl))
      (try simp only [List.getElem_toArray, List.getElem_cons_succ, List.getElem_cons_zero, Act.put, List.setIfInBounds_toArray, List.set_cons_zero, List.set_cons_succ])
      refine AnyL.take (i := 7) (v := ?_) rfl (by kernel_rfl) (by kernel_rfl) (by kernel_rfl) (fun _ _ _ h => h) (Or.inl ⟨by rfl, ?_⟩) hH ?_
      rotate_left
      · (intro w hSw; (try dsimp only at hSw); go_simp; (try with_reducible rfl))
      (try simp only [List.getElem_toArray, List.getElem_cons_succ, List.getElem_cons_zero, Act.put, List.setIfInBounds_toArray, List.set_cons_zero, List.set_cons_succ])
      refine AnyL.take (i := 8) (v := ?_) rfl (by kernel_rfl) (by kernel_rfl) (by kernel_rfl) (fun _ _ _ h => h) (Or.inl ⟨by rfl, ?_⟩) hH ?_
      rotate_left
      · (intro w hSw; (try dsimp only at hSw); go_simp; (try with_reducible rfl))
      (try simp only [List.getElem_toArray, List.getElem_cons_succ, List.getElem_cons_zero, Act.put, List.setIfInBounds_toArray, List.set_cons_zero, List.set_cons_succ])
      refine AnyL.take (i := 9) (v := ?_) rfl (by kernel_rfl) (by kernel_rfl) (by kernel_rfl) (fun _ _ _ h => h) (Or.inl ⟨by rfl, ?_⟩) hH ?_
      rotate_left
      · (intro w hSw; (try dsimp only at hSw); go_simp; (try with_reducible rfl))
      (try simp only [List.getElem_toArray, List.getElem_cons_succ, List.getElem_cons_zero, Act.put, List.setIfInBounds_toArray, List.set_cons_zero, List.set_cons_succ])
      refine AnyL.take (i := 10) (v := ?_) rfl (by kernel_rfl) (by kernel_rfl) (by kernel_rfl) (fun _ _ _ h => h) (Or.inl ⟨by rfl, ?_⟩) hH ?_
      rotate_left
      · (intro w hSw; (try dsimp only at hSw); go_simp; (try with_reducible rfl))
      (try simp only [List.getElem_toArray, List.getElem_cons_succ, List.getElem_cons_zero, Act.put, List.setIfInBounds_toArray, List.set_cons_zero, List.set_cons_succ])
      refine AnyL.take (i := 11) (v := ?_) rfl (by kernel_rfl) (by kernel_rfl) (by kernel_rfl) (fun _ _ _ h => h) (Or.inl ⟨by rfl, ?_⟩) hH ?_
      rotate_left
      · (intro w hSw; (try dsimp only at hSw); go_simp; (try with_reducible rfl))
      (try simp only [List.getElem_toArray, List.getElem_cons_succ, List.getElem_cons_zero, Act.put, List.setIfInBounds_toArray, List.set_cons_zero, List.set_cons_succ])
      refine AnyL.take (i := 12) (v := ?_) rfl (by kernel_rfl) (by kernel_rfl) (by kernel_rfl) (fun _ _ _ h => h) (Or.inl ⟨by rfl, ?_⟩) hH ?_
      rotate_left
      · (intro w hSw; (try dsimp only at hSw); go_simp; (try with_reducible rfl))
      (try simp only [List.getElem_toArray, List.getElem_cons_succ, List.getElem_cons_zero, Act.put, List.setIfInBounds_toArray, List.set_cons_zero, List.set_cons_succ])
      refine AnyL.take (i := 13) (v := ?_) rfl (by kernel_rfl) (by kernel_rfl) (by kernel_rfl) (fun _ _ _ h => h) (Or.inl ⟨by rfl, ?_⟩) hH ?_
      rotate_left
      · (intro w hSw; (try dsimp only at hSw); go_simp; (try with_reducible rfl))
      (try simp only [List.getElem_toArray, List.getElem_cons_succ, List.getElem_cons_zero, Act.put, List.setIfInBounds_toArray, List.set_cons_zero, List.set_cons_succ])
      refine AnyL.take (i := 14) (v := ?_) rfl (by kernel_rfl) (by kernel_rfl) (by kernel_rfl) (fun _ _ _ h => h) (Or.inl ⟨by rfl, ?_⟩) hH ?_
      rotate_left
      · (intro w hSw; (try dsimp only at hSw); go_simp; (try with_reducible rfl))
      (try simp only [List.getElem_toArray, List.getElem_cons_succ, List.getElem_cons_zero, Act.put, List.setIfInBounds_toArray, List.set_cons_zero, List.set_cons_succ])
      refine AnyL.step (i := 15) (by kernel_rfl) rfl (fun K hK => ?_)
      (try simp only [List.getElem_toArray, List.getElem_cons_succ, List.getElem_cons_zero])
      go_simp
      refine hK.out _ _ (.inr ⟨Lib.cell?_alloc_some _ f0, Lib.cell?_alloc_some _ f1, Lib.cell?_alloc_some _ f2, Lib.cell?_alloc_some _ f3, Lib.cell?_alloc_some _ f4, Lib.cell?_alloc_some _ f5, Lib.cell?_alloc_some _ f6⟩) ?_
      clear hK K
      (try simp only [List.getElem_toArray, List.getElem_cons_succ, List.getElem_cons_zero, Act.put, List.setIfInBounds_toArray, List.set_cons_zero, List.set_cons_succ])
      refine AnyL.step (i := 16) (by kernel_rfl) rfl (fun K hK => ?_)
      (try simp only [List.getElem_toArray, List.getElem_cons_succ, List.getElem_cons_zero])
      rw [if_pos (by rfl)]
      refine wp_push (.tmp 32) (.tmp 47) 50 rfl 66 _ 5 40 info66 Try.underlying50 rfl (by decide) w.heap.size (.slice A p.length c) p.length (spots (p.map spotV)) (by simp [Act.eval, Act.put]) (R2.out.alloc _) W8.heap.size [.int .i64 x.1.sy, .int .i64 x.1.pr, .int .i64 fa, .int .i64 (x.2.1 + x.1.bt), .int .i64 x.2.2] (by simp [Act.eval, Act.put]) (heap_alloc_new W8 _) rfl (by simp [Value.oneCell']) (by omega) (by omega) (by simp; omega) ?_
      intro g9 c9 W9 hown9 hgr9
      have far : ∀ k, k < W8.heap.size → some k ≠ (Value.slice A p.length c).ownBlock → W9.heap[k]? = W8.heap[k]? := fun k hk hne => (hgr9.far k (by simp; omega) hne).trans (Below.heap_alloc _ _ _ hk)
      have G9 := (far _ hl8 (own_ne R2.out E1.out (by decide))).trans E1.out
      have GX := (far _ hlx (own_ne R2.out EX.out (by decide))).trans EX.out
      have GS := (far _ hls (own_ne R2.out HS8.out (by decide))).trans HS8.out
      have hb89 : Below w.heap.size w W9 := E3.out.trans ((((below_alloc W8 _).mono (by omega)).drew : Below w.heap.size W8 (W8.alloc (.cells #[.int .i64 x.1.sy, .int .i64 x.1.pr, .int .i64 fa, .int .i64 (x.2.1 + x.1.bt), .int .i64 x.2.2] 66)).drew).trans hgr9.below)
      have GN := (HXIN.out.below hb89).cells
      have g0 : W9.cell? ⟨w.heap.size, 0, none⟩ = some (.slice A p.length c) := cell_of_heap G9 rfl
      have z9 : W9.frozen? ⟨w.heap.size, 0, none⟩ = false := frozen_of_heap G9
      have HG9 := Lib.hid G9
      have HOWN9 := Lib.hid hown9
      have HGR9 := Lib.hid hgr9
      have hS9 := Lib.hid (show W9.cell? ⟨bx, 0, none⟩ = some (.pointer (some ⟨x.1.b, 0, none⟩)) ∧ W9.cell? ⟨bx, 2, none⟩ = some (.int .i64 x.2.2) ∧ W9.cell? ⟨x.1.b, 4, none⟩ = some (.int .i64 x.1.sy) ∧ W9.cell? ⟨x.1.b, 5, none⟩ = some (.int .i64 x.1.pr) ∧ W9.cell? ⟨Wc.heap.size, 0, none⟩ = some (.int .i64 fa) ∧ W9.cell? ⟨Wc.heap.size, 1, none⟩ = some (.int .i64 (x.2.1 + x.1.bt)) from ⟨cell_of_heap GX rfl, cell_of_heap GX rfl, GN.c4, GN.c5, cell_of_heap GS rfl, cell_of_heap GS rfl⟩)
      clear G9 hown9 hgr9 GX GS GN far
      refine hK.out _ _ (.inr ⟨g0, hS9.out⟩) ?_
      clear hK K
      (try simp only [List.getElem_toArray, List.getElem_cons_succ, List.getElem_cons_zero, Act.put, List.setIfInBounds_toArray, List.set_cons_zero, List.set_cons_succ])
      refine AnyL.step (i := 17) (by kernel_rfl) rfl (fun K hK => ?_)
      (try simp only [List.getElem_toArray, List.getElem_cons_succ, List.getElem_cons_zero])
      go_simp
      refine hK.out _ _ (.inl (by kernel_rfl)) ?_
      clear hK K
      (try simp only [List.getElem_toArray, List.getElem_cons_succ, List.getElem_cons_zero, Act.put, List.setIfInBounds_toArray, List.set_cons_zero, List.set_cons_succ])
      refine AnyL.done (by kernel_rfl) ?_ _
      dsimp only [OnNormal]
      have kt8 : KT [33, 120, 136, 3, 45] w.heap.size Wc (W8.alloc (.cells #[.int .i64 x.1.sy, .int .i64 x.1.pr, .int .i64 fa, .int .i64 (x.2.1 + x.1.bt), .int .i64 x.2.2] 66)).drew := KT.of_below (hb8.trans ((below_alloc W8 (.cells #[.int .i64 x.1.sy, .int .i64 x.1.pr, .int .i64 fa, .int .i64 (x.2.1 + x.1.bt), .int .i64 x.2.2] 66)).drew.mono hb8l)) hn1
      have kt := (kt8.grew HGR9.out ((R2.out.alloc (.cells #[.int .i64 x.1.sy, .int .i64 x.1.pr, .int .i64 fa, .int .i64 (x.2.1 + x.1.bt), .int .i64 x.2.2] 66)).drew) (by decide)).setCell (p := ⟨w.heap.size, 0, none⟩) (Nat.le_refl _) HG9.out (by decide) (.slice (some ⟨g9, 0, none⟩) (p.length + 1) c9)
      show KT _ _ _ _ ∧ _
      refine ⟨kt, _, setCell_heap (i := 0) HG9.out _, ?_, h3.trans kt.below⟩
      rw [List.map_append, List.length_append]
      have e1 : spots (p.map spotV ++ [x].map spotV) = spots (p.map spotV) ++ [.int .i64 x.1.sy, .int .i64 x.1.pr, .int .i64 fa, .int .i64 (x.2.1 + x.1.bt), .int .i64 x.2.2] := by
        unfold spots
        rw [List.flatMap_append, List.map_singleton, List.flatMap_singleton, HFA.out]
        rfl
      rw [e1]
      exact ownsRow_of_block HOWN9.out (fun k hk => Below.heap_setCell _ _ _ _ (fun e => own_ne HOWN9.out HG9.out (by decide) (by rw [hk]; exact congrArg some e.symm)))
    · have hq : (x.2.2 == 0) = false := beq_eq_false_iff_ne.2 hd
      have HD := Lib.hid hd
      clear hd
      gi_upto_region 7 with fail
      have hs8 := HS7.out
      have hb8 := hb7
      obtain ⟨fa, hfa⟩ : ∃ fa, fa = x.2.1 + x.1.ld := ⟨_, rfl⟩
      have HFA := Lib.hid (show spotV x = ⟨x.1.sy, x.1.pr, fa, x.2.1 + x.1.bt, x.2.2⟩ by unfold spotV; rw [if_neg HD.out, hfa])
      rw [← hfa] at hs8
      clear hfa e2 e3 e4 HS7 HD hq hb7
      obtain ⟨W8, hW8⟩ : ∃ W8, W8 = w7 := ⟨_, rfl⟩
      rw [← hW8] at hs8 hb8 ⊢
      clear hW8
      have hb8l := hb8.size
      have hl8 := Nat.lt_of_lt_of_le hl1 hb8.size
      have E1 := Lib.hid ((hb8.block _ hl1).trans H1.out)
      have R2 := Lib.hid (ownsRow_of_block H2.out (w' := W8) (fun k hk => hb8.block k (H2.out.lt k hk).2))
      have EX := Lib.hid ((hb8.block _ (Array.getElem?_eq_some_iff.1 HBX.out).1).trans HBX.out)
      have E3 := Lib.hid (h3.trans (hb8.mono hn1))
      have hlx : bx < W8.heap.size := (Array.getElem?_eq_some_iff.1 EX.out).1
      have hls : Wc.heap.size < W8.heap.size := (Array.getElem?_eq_some_iff.1 hs8).1
      have hlb : x.1.b < W8.heap.size := World.block_lt_of_cell? W8 _ (HXIN.out.below E3.out).cells.c4
      have f0 : W8.cell? ⟨w.heap.size, 0, none⟩ = some (.slice A p.length c) := cell_of_heap E1.out rfl
      have f1 : W8.cell? ⟨bx, 0, none⟩ = some (.pointer (some ⟨x.1.b, 0, none⟩)) := cell_of_heap EX.out rfl
      have f2 : W8.cell? ⟨bx, 2, none⟩ = some (.int .i64 x.2.2) := cell_of_heap EX.out rfl
      have f3 : W8.cell? ⟨x.1.b, 4, none⟩ = some (.int .i64 x.1.sy) := (HXIN.out.below E3.out).cells.c4
      have f4 : W8.cell? ⟨x.1.b, 5, none⟩ = some (.int .i64 x.1.pr) := (HXIN.out.below E3.out).cells.c5
      have f5 : W8.cell? ⟨Wc.heap.size, 0, none⟩ = some (.int .i64 fa) := cell_of_heap hs8 rfl
      have f6 : W8.cell? ⟨Wc.heap.size, 1, none⟩ = some (.int .i64 (x.2.1 + x.1.bt)) := cell_of_heap hs8 rfl
      have HS8 := Lib.hid hs8
      have HX4 := Lib.hid (HXIN.out.below E3.out).cells
      clear hs8
      refine wpIn_region_free (free_round l) (S := fun W => W.cell? ⟨w.heap.size, 0, none⟩ = some (.slice A p.length c) ∧ W.cell? ⟨bx, 0, none⟩ = some (.pointer (some ⟨x.1.b, 0, none⟩)) ∧ W.cell? ⟨bx, 2, none⟩ = some (.int .i64 x.2.2) ∧ W.cell? ⟨x.1.b, 4, none⟩ = some (.int .i64 x.1.sy) ∧ W.cell? ⟨x.1.b, 5, none⟩ = some (.int .i64 x.1.pr) ∧ W.cell? ⟨Wc.heap.size, 0, none⟩ = some (.int .i64 fa) ∧ W.cell? ⟨Wc.heap.size, 1, none⟩ = some (.int .i64 (x.2.1 + x.1.bt))) hm (by rfl) ⟨f0, f1, f2, f3, f4, f5, f6⟩ 18 rfl (fun hH => ?_)
      refine AnyL.take (i := 0) (v := ?_) rfl (by kernel_rfl) (by kernel_rfl) (by kernel_rfl) (fun _ _ _ h => h) (Or.inl ⟨by rfl, ?_⟩) hH ?_
      rotate_left
      · (intro w hSw; (try dsimp only at hSw); go_simp; (try with_reducible rfl))
      (try simp only [List.getElem_toArray, List.getElem_cons_succ, List.getElem_cons_zero, Act.put, List.setIfInBounds_toArray, List.set_cons_zero, List.set_cons_succ])
      refine AnyL.take (i := 1) (v := ?_) rfl (by kernel_rfl) (by kernel_rfl) (by kernel_rfl) (fun _ _ _ h => h) (Or.inl ⟨by rfl, ?_⟩) hH ?_
      rotate_left
      · (intro w hSw; (try dsimp only at hSw); go_simp; (try with_reducible rfl))
      (try simp only [List.getElem_toArray, List.getElem_cons_succ, List.getElem_cons_zero, Act.put, List.setIfInBounds_toArray, List.set_cons_zero, List.set_cons_succ])
      refine AnyL.take (i := 2) (v := ?_) rfl (by kernel_rfl) (by kernel_rfl) (by kernel_rfl) (fun _ _ _ h => h) (Or.inl ⟨by rfl, ?_⟩) hH ?_
      rotate_left
      · (intro w hSw; (try dsimp only at hSw); go_simp; (try with_reducible rfl))
      (try simp only [List.getElem_toArray, List.getElem_cons_succ, List.getElem_cons_zero, Act.put, List.setIfInBounds_toArray, List.set_cons_zero, List.set_cons_succ])
      refine AnyL.take (i := 3) (v := ?_) rfl (by kernel_rfl) (by kernel_rfl) (by kernel_rfl) (fun _ _ _ h => h) (Or.inl ⟨by rfl, ?_⟩) hH ?_
      rotate_left
      · (intro w hSw; (try dsimp only at hSw); go_simp; (try with_reducible rfl))
      (try simp only [List.getElem_toArray, List.getElem_cons_succ, List.getElem_cons_zero, Act.put, List.setIfInBounds_toArray, List.set_cons_zero, List.set_cons_succ])
      refine AnyL.take (i := 4) (v := ?_) rfl (by kernel_rfl) (by kernel_rfl) (by kernel_rfl) (fun _ _ _ h => h) (Or.inl ⟨by rfl, ?_⟩) hH ?_
      rotate_left
      · (intro w hSw; (try dsimp only at hSw); go_simp; (try with_reducible rfl))
      (try simp only [List.getElem_toArray, List.getElem_cons_succ, List.getElem_cons_zero, Act.put, List.setIfInBounds_toArray, List.set_cons_zero, List.set_cons_succ])
      refine AnyL.take (i := 5) (v := ?_) rfl (by kernel_rfl) (by kernel_rfl) (by kernel_rfl) (fun _ _ _ h => h) (Or.inl ⟨by rfl, ?_⟩) hH ?_
      rotate_left
      · (intro w hSw; (try dsimp only at hSw); go_simp; (try with_reducible rfl))
      (try simp only [List.getElem_toArray, List.getElem_cons_succ, List.getElem_cons_zero, Act.put, List.setIfInBounds_toArray, List.set_cons_zero, List.set_cons_succ])
      refine AnyL.take (i := 6) (v := ?_) rfl (by kernel_rfl) (by kernel_rfl) (by kernel_rfl) (fun _ _ _ h => h) (Or.inl ⟨by rfl, ?_⟩) hH ?_
      rotate_left
      · (intro w hSw; (try dsimp only at hSw); go_simp; (try with_reducible rfl))
      (try simp only [List.getElem_toArray, List.getElem_cons_succ, List.getElem_cons_zero, Act.put, List.setIfInBounds_toArray, List.set_cons_zero, List.set_cons_succ])
      refine AnyL.take (i := 7) (v := ?_) rfl (by kernel_rfl) (by kernel_rfl) (by kernel_rfl) (fun _ _ _ h => h) (Or.inl ⟨by rfl, ?_⟩) hH ?_
      rotate_left
      · (intro w hSw; (try dsimp only at hSw); go_simp; (try with_reducible rfl))
      (try simp only [List.getElem_toArray, List.getElem_cons_succ, List.getElem_cons_zero, Act.put, List.setIfInBounds_toArray, List.set_cons_zero, List.set_cons_succ])
      refine AnyL.take (i := 8) (v := ?_) rfl (by kernel_rfl) (by kernel_rfl) (by kernel_rfl) (fun _ _ _ h => h) (Or.inl ⟨by rfl, ?_⟩) hH ?_
      rotate_left
      · (intro w hSw; (try dsimp only at hSw); go_simp; (try with_reducible rfl))
      (try simp only [List.getElem_toArray, List.getElem_cons_succ, List.getElem_cons_zero, Act.put, List.setIfInBounds_toArray, List.set_cons_zero, List.set_cons_succ])
      refine AnyL.take (i := 9) (v := ?_) rfl (by kernel_rfl) (by kernel_rfl) (by kernel_rfl) (fun _ _ _ h => h) (Or.inl ⟨by rfl, ?_⟩) hH ?_
      rotate_left
      · (intro w hSw; (try dsimp only at hSw); go_simp; (try with_reducible rfl))
      (try simp only [List.getElem_toArray, List.getElem_cons_succ, List.getElem_cons_zero, Act.put, List.setIfInBounds_toArray, List.set_cons_zero, List.set_cons_succ])
      refine AnyL.take (i := 10) (v := ?_) rfl (by kernel_rfl) (by kernel_rfl) (by kernel_rfl) (fun _ _ _ h => h) (Or.inl ⟨by rfl, ?_⟩) hH ?_
      rotate_left
      · (intro w hSw; (try dsimp only at hSw); go_simp; (try with_reducible rfl))
      (try simp only [List.getElem_toArray, List.getElem_cons_succ, List.getElem_cons_zero, Act.put, List.setIfInBounds_toArray, List.set_cons_zero, List.set_cons_succ])
      refine AnyL.take (i := 11) (v := ?_) rfl (by kernel_rfl) (by kernel_rfl) (by kernel_rfl) (fun _ _ _ h => h) (Or.inl ⟨by rfl, ?_⟩) hH ?_
      rotate_left
      · (intro w hSw; (try dsimp only at hSw); go_simp; (try with_reducible rfl))
      (try simp only [List.getElem_toArray, List.getElem_cons_succ, List.getElem_cons_zero, Act.put, List.setIfInBounds_toArray, List.set_cons_zero, List.set_cons_succ])
      refine AnyL.take (i := 12) (v := ?_) rfl (by kernel_rfl) (by kernel_rfl) (by kernel_rfl) (fun _ _ _ h => h) (Or.inl ⟨by rfl, ?_⟩) hH ?_
      rotate_left
      · (intro w hSw; (try dsimp only at hSw); go_simp; (try with_reducible rfl))
      (try simp only [List.getElem_toArray, List.getElem_cons_succ, List.getElem_cons_zero, Act.put, List.setIfInBounds_toArray, List.set_cons_zero, List.set_cons_succ])
      refine AnyL.take (i := 13) (v := ?_) rfl (by kernel_rfl) (by kernel_rfl) (by kernel_rfl) (fun _ _ _ h => h) (Or.inl ⟨by rfl, ?_⟩) hH ?_
      rotate_left
      · (intro w hSw; (try dsimp only at hSw); go_simp; (try with_reducible rfl))
      (try simp only [List.getElem_toArray, List.getElem_cons_succ, List.getElem_cons_zero, Act.put, List.setIfInBounds_toArray, List.set_cons_zero, List.set_cons_succ])
      refine AnyL.take (i := 14) (v := ?_) rfl (by kernel_rfl) (by kernel_rfl) (by kernel_rfl) (fun _ _ _ h => h) (Or.inl ⟨by rfl, ?_⟩) hH ?_
      rotate_left
      · (intro w hSw; (try dsimp only at hSw); go_simp; (try with_reducible rfl))
      (try simp only [List.getElem_toArray, List.getElem_cons_succ, List.getElem_cons_zero, Act.put, List.setIfInBounds_toArray, List.set_cons_zero, List.set_cons_succ])
      refine AnyL.step (i := 15) (by kernel_rfl) rfl (fun K hK => ?_)
      (try simp only [List.getElem_toArray, List.getElem_cons_succ, List.getElem_cons_zero])
      go_simp
      refine hK.out _ _ (.inr ⟨Lib.cell?_alloc_some _ f0, Lib.cell?_alloc_some _ f1, Lib.cell?_alloc_some _ f2, Lib.cell?_alloc_some _ f3, Lib.cell?_alloc_some _ f4, Lib.cell?_alloc_some _ f5, Lib.cell?_alloc_some _ f6⟩) ?_
      clear hK K
      (try simp only [List.getElem_toArray, List.getElem_cons_succ, List.getElem_cons_zero, Act.put, List.setIfInBounds_toArray, List.set_cons_zero, List.set_cons_succ])
      refine AnyL.step (i := 16) (by kernel_rfl) rfl (fun K hK => ?_)
      (try simp only [List.getElem_toArray, List.getElem_cons_succ, List.getElem_cons_zero])
      rw [if_pos (by rfl)]
      refine wp_push (.tmp 32) (.tmp 47) 50 rfl 66 _ 5 40 info66 Try.underlying50 rfl (by decide) w.heap.size (.slice A p.length c) p.length (spots (p.map spotV)) (by simp [Act.eval, Act.put]) (R2.out.alloc _) W8.heap.size [.int .i64 x.1.sy, .int .i64 x.1.pr, .int .i64 fa, .int .i64 (x.2.1 + x.1.bt), .int .i64 x.2.2] (by simp [Act.eval, Act.put]) (heap_alloc_new W8 _) rfl (by simp [Value.oneCell']) (by omega) (by omega) (by simp; omega) ?_
      intro g9 c9 W9 hown9 hgr9
      have far : ∀ k, k < W8.heap.size → some k ≠ (Value.slice A p.length c).ownBlock → W9.heap[k]? = W8.heap[k]? := fun k hk hne => (hgr9.far k (by simp; omega) hne).trans (Below.heap_alloc _ _ _ hk)
      have G9 := (far _ hl8 (own_ne R2.out E1.out (by decide))).trans E1.out
      have GX := (far _ hlx (own_ne R2.out EX.out (by decide))).trans EX.out
      have GS := (far _ hls (own_ne R2.out HS8.out (by decide))).trans HS8.out
      have hb89 : Below w.heap.size w W9 := E3.out.trans ((((below_alloc W8 _).mono (by omega)).drew : Below w.heap.size W8 (W8.alloc (.cells #[.int .i64 x.1.sy, .int .i64 x.1.pr, .int .i64 fa, .int .i64 (x.2.1 + x.1.bt), .int .i64 x.2.2] 66)).drew).trans hgr9.below)
      have GN := (HXIN.out.below hb89).cells
      have g0 : W9.cell? ⟨w.heap.size, 0, none⟩ = some (.slice A p.length c) := cell_of_heap G9 rfl
      have z9 : W9.frozen? ⟨w.heap.size, 0, none⟩ = false := frozen_of_heap G9
      have HG9 := Lib.hid G9
      have HOWN9 := Lib.hid hown9
      have HGR9 := Lib.hid hgr9
      have hS9 := Lib.hid (show W9.cell? ⟨bx, 0, none⟩ = some (.pointer (some ⟨x.1.b, 0, none⟩)) ∧ W9.cell? ⟨bx, 2, none⟩ = some (.int .i64 x.2.2) ∧ W9.cell? ⟨x.1.b, 4, none⟩ = some (.int .i64 x.1.sy) ∧ W9.cell? ⟨x.1.b, 5, none⟩ = some (.int .i64 x.1.pr) ∧ W9.cell? ⟨Wc.heap.size, 0, none⟩ = some (.int .i64 fa) ∧ W9.cell? ⟨Wc.heap.size, 1, none⟩ = some (.int .i64 (x.2.1 + x.1.bt)) from ⟨cell_of_heap GX rfl, cell_of_heap GX rfl, GN.c4, GN.c5, cell_of_heap GS rfl, cell_of_heap GS rfl⟩)
      clear G9 hown9 hgr9 GX GS GN far
      refine hK.out _ _ (.inr ⟨g0, hS9.out⟩) ?_
      clear hK K
      (try simp only [List.getElem_toArray, List.getElem_cons_succ, List.getElem_cons_zero, Act.put, List.setIfInBounds_toArray, List.set_cons_zero, List.set_cons_succ])
      refine AnyL.step (i := 17) (by kernel_rfl) rfl (fun K hK => ?_)
      (try simp only [List.getElem_toArray, List.getElem_cons_succ, List.getElem_cons_zero])
      go_simp
      refine hK.out _ _ (.inl (by kernel_rfl)) ?_
      clear hK K
      (try simp only [List.getElem_toArray, List.getElem_cons_succ, List.getElem_cons_zero, Act.put, List.setIfInBounds_toArray, List.set_cons_zero, List.set_cons_succ])
      refine AnyL.done (by kernel_rfl) ?_ _
      dsimp only [OnNormal]
      have kt8 : KT [33, 120, 136, 3, 45] w.heap.size Wc (W8.alloc (.cells #[.int .i64 x.1.sy, .int .i64 x.1.pr, .int .i64 fa, .int .i64 (x.2.1 + x.1.bt), .int .i64 x.2.2] 66)).drew := KT.of_below (hb8.trans ((below_alloc W8 (.cells #[.int .i64 x.1.sy, .int .i64 x.1.pr, .int .i64 fa, .int .i64 (x.2.1 + x.1.bt), .int .i64 x.2.2] 66)).drew.mono hb8l)) hn1
      have kt := (kt8.grew HGR9.out ((R2.out.alloc (.cells #[.int .i64 x.1.sy, .int .i64 x.1.pr, .int .i64 fa, .int .i64 (x.2.1 + x.1.bt), .int .i64 x.2.2] 66)).drew) (by decide)).setCell (p := ⟨w.heap.size, 0, none⟩) (Nat.le_refl _) HG9.out (by decide) (.slice (some ⟨g9, 0, none⟩) (p.length + 1) c9)
      show KT _ _ _ _ ∧ _
      refine ⟨kt, _, setCell_heap (i := 0) HG9.out _, ?_, h3.trans kt.below⟩
      rw [List.map_append, List.length_append]
      have e1 : spots (p.map spotV ++ [x].map spotV) = spots (p.map spotV) ++ [.int .i64 x.1.sy, .int .i64 x.1.pr, .int .i64 fa, .int .i64 (x.2.1 + x.1.bt), .int .i64 x.2.2] := by
        unfold spots
        rw [List.flatMap_append, List.map_singleton, List.flatMap_singleton, HFA.out]
        rfl
      rw [e1]
      exact ownsRow_of_block HOWN9.out (fun k hk => Below.heap_setCell _ _ _ _ (fun e => own_ne HOWN9.out HG9.out (by decide) (by rw [hk]; exact congrArg some e.symm)))
  case done =>
    rintro D Wc hD ⟨tv, h1, h2, h3⟩ hDW
    obtain ⟨L, hL⟩ : ∃ L, (preN 0 0 n).length = L := ⟨_, rfl⟩
    have HL := Lib.hid hL
    rw [hL] at h2
    clear hL
    obtain ⟨A, c, htv⟩ := row_any h2
    subst htv
    have c0 : Wc.cell? ⟨w.heap.size, 0, none⟩ = some (.slice A L c) := cell_of_heap h1 rfl
    have H2 := Lib.hid h2
    have HDW := Lib.hid hDW
    clear h1 h2 hDW hlen
    gi_wp2_with fail
    refine leaves_marks (T := []) (n₀ := w.heap.size) (m := w.heap.size) [D] Wc (by simp) (fun D' hD' => ?_) (fun W' hat => ⟨.slice A L c, (by simp [results, Try.results31, go_sem]), .slice A L c, rfl, (by rw [HL.out]; exact row_at H2.out hat (by simp)), h3.trans hat.below⟩)
    obtain rfl := List.mem_singleton.1 hD'
    exact ⟨by omega, by omega, HDW.out⟩

end Go.Proofs.Ytcjpmgfobnaoeaa
