/- like: the walk (84). -/
import Derived.Test.YtcjpmgfobnaoeaaA57
namespace Go.Proofs.Ytcjpmgfobnaoeaa
open Go.RowKit
attribute [local irreducible] Calls

theorem ptr_ne33 {n m : Nd} {W : World} (hn : n.In W) (hm : m.In W) (h : n.b ≠ m.b) : (binOp .eql 33 (.pointer (some ⟨n.b, 0, none⟩)) (.pointer (some ⟨m.b, 0, none⟩))).run Try.prog W = .ok (.bool false) W := by
  obtain ⟨j, hj⟩ := Option.isSome_iff_exists.1 has87
  have hs : (Try.prog.info? 87).map (fun i => i.size != 0) = some true := by kernel_rfl
  rw [hj] at hs
  exact run_eql_ptr_other W und33 hj (fun e => by rw [Option.map_some, e] at hs; exact absurd hs (by decide)) (by intro e; injection e with e; exact h e) hn.head.1 hm.head.1

set_option maxRecDepth 100000 in
set_option maxHeartbeats 16000000 in
theorem like_call (n : Nd) : ∀ (m : Nd) (st : Bool) (w : World), n.In w → m.In w → n.WF → m.WF →
    Calls Try.prog 84 #[n.ptr, m.ptr, .bool st] w fun e w' => e = .returned (.bool (n.like st m)) ∧ Below w.heap.size w w' := by
  revert n
  refine Nd.ind ?_
  intro n ih m st w hn hm hnw hmw
  have nok := Nd.WF.ok n hnw
  have mok := Nd.WF.ok m hmw
  have hlen := nok.klen
  have hal := below_alloc w (.cells #[.bool st] 4)
  have hbx := heap_alloc_new w (.cells #[.bool st] 4)
  have M1 := Lib.hid (fun W (hW : Below w.heap.size w W) => made_yes n W (hn.below hW) (by have := nok.ht1; omega))
  have M2 := Lib.hid (fun W (hW : Below w.heap.size w W) => made_yes m W (hm.below hW) (by have := mok.ht1; omega))
  have hcn := (hn.below hal).cells
  have hcm := (hm.below hal).cells
  by_cases hbe : n.b = m.b
  case pos =>
    obtain rfl := Nd.In.eq n m hn hm hbe
    have HR := Lib.hid (like_refl st hnw)
    clear hn hm hnw hmw nok mok ih hcn hcm hbe hbx
    unfold Nd.ptr at M1 M2 ⊢
    go_enter Try.func84, Try.ntmps84
    go_wp2_with (first
      | (go_at_call 70; refine (M1.out _ hal).mono ?_; rintro e w1 ⟨rfl, h1⟩; rw [h1]; clear h1))
    go_ret
    exact ⟨ret_bool HR.out.symm, hal⟩
  case neg =>
  have hpe := ptr_ne33 (hn.below hal) (hm.below hal) hbe
  have HS := Lib.hid (Nd.like_eq st n m)
  have HN := Lib.hid (And.intro hn hnw)
  have HM := Lib.hid (And.intro hm hmw)
  have HIH := Lib.hid ih
  have HBX := Lib.hid hbx
  clear hn hm hnw hmw nok mok ih hbe hbx
  unfold Nd.ptr at M1 M2 ⊢
  go_enter Try.func84, Try.ntmps84
  go_upto_region 5 with (first
      | (go_at_call 70; refine (M1.out _ hal).mono ?_; rintro e w1 ⟨rfl, h1⟩; rw [h1]; clear h1)
      | (go_at_call 70; refine (M2.out _ hal).mono ?_; rintro e w1 ⟨rfl, h1⟩; rw [h1]; clear h1))
  clear M1 M2 hpe
  generalize w.alloc (.cells #[.bool st] 4) = W at *
  have n0 : ∀ s : Sb W, s.w.cell? ⟨n.b, 0, none⟩ = some (.int .i64 n.tk) := fun s => s.cell hcn.c0
  have m0 : ∀ s : Sb W, s.w.cell? ⟨m.b, 0, none⟩ = some (.int .i64 m.tk) := fun s => s.cell hcm.c0
  have n1 : ∀ s : Sb W, s.w.cell? ⟨n.b, 1, none⟩ = some (.int .i64 n.bt) := fun s => s.cell hcn.c1
  have m1 : ∀ s : Sb W, s.w.cell? ⟨m.b, 1, none⟩ = some (.int .i64 m.bt) := fun s => s.cell hcm.c1
  have n2 : ∀ s : Sb W, s.w.cell? ⟨n.b, 2, none⟩ = some (.int .i64 n.ld) := fun s => s.cell hcn.c2
  have m2 : ∀ s : Sb W, s.w.cell? ⟨m.b, 2, none⟩ = some (.int .i64 m.ld) := fun s => s.cell hcm.c2
  have n3 : ∀ s : Sb W, s.w.cell? ⟨n.b, 3, none⟩ = some (.int .i64 n.ht) := fun s => s.cell hcn.c3
  have m3 : ∀ s : Sb W, s.w.cell? ⟨m.b, 3, none⟩ = some (.int .i64 m.ht) := fun s => s.cell hcm.c3
  have n4 : ∀ s : Sb W, s.w.cell? ⟨n.b, 4, none⟩ = some (.int .i64 n.sy) := fun s => s.cell hcn.c4
  have m4 : ∀ s : Sb W, s.w.cell? ⟨m.b, 4, none⟩ = some (.int .i64 m.sy) := fun s => s.cell hcm.c4
  have n5 : ∀ s : Sb W, s.w.cell? ⟨n.b, 5, none⟩ = some (.int .i64 n.pr) := fun s => s.cell hcn.c5
  have m5 : ∀ s : Sb W, s.w.cell? ⟨m.b, 5, none⟩ = some (.int .i64 m.pr) := fun s => s.cell hcm.c5
  have n6 : ∀ s : Sb W, s.w.cell? ⟨n.b, 6, none⟩ = some (.int .i64 n.wd) := fun s => s.cell hcn.c6
  have m6 : ∀ s : Sb W, s.w.cell? ⟨m.b, 6, none⟩ = some (.int .i64 m.wd) := fun s => s.cell hcm.c6
  have n7 : ∀ s : Sb W, s.w.cell? ⟨n.b, 7, none⟩ = some (.int .i64 n.st) := fun s => s.cell hcn.c7
  have m7 : ∀ s : Sb W, s.w.cell? ⟨m.b, 7, none⟩ = some (.int .i64 m.st) := fun s => s.cell hcm.c7
  have n8 : ∀ s : Sb W, s.w.cell? ⟨n.b, 8, none⟩ = some (.int .i64 n.lk) := fun s => s.cell hcn.c8
  have m8 : ∀ s : Sb W, s.w.cell? ⟨m.b, 8, none⟩ = some (.int .i64 m.lk) := fun s => s.cell hcm.c8
  have n9 : ∀ s : Sb W, s.w.cell? ⟨n.b, 9, none⟩ = some (.bool n.fm) := fun s => s.cell hcn.c9
  have m9 : ∀ s : Sb W, s.w.cell? ⟨m.b, 9, none⟩ = some (.bool m.fm) := fun s => s.cell hcm.c9
  have b0 : ∀ s : Sb W, s.w.cell? ⟨w.heap.size, 0, none⟩ = some (.bool st) := fun s => s.cell (cell_of_heap HBX.out rfl)
  clear hcn hcm
  by_cases e1 : (n.tk == m.tk && (n.bt == m.bt && (n.ld == m.ld && (n.ht == m.ht)))) = true
  case neg =>
    have heq : ∀ W, (binOp .neq 85 (.agg #[.int .i64 n.tk, .int .i64 n.bt, .int .i64 n.ld, .int .i64 n.ht]) (.agg #[.int .i64 m.tk, .int .i64 m.bt, .int .i64 m.ld, .int .i64 m.ht])).run Try.prog W = .ok (.bool true) W := fun W => by rw [neq85, Bool.eq_false_iff.2 e1]; rfl
    have E1 := Lib.hid (Bool.eq_false_iff.2 e1)
    clear e1
    have HR := Lib.hid (show n.like st m = false by rw [HS.out, E1.out]; rfl)
    refine wp_region_sb (by kernel_rfl) (by kernel_rfl) ?_
    repeat (go_big_quiet_step (fail))
    refine wpQuiet_nil ?_
    intro s
    clear n0 m0 n1 m1 n2 m2 n3 m3 n4 m4 n5 m5 n6 m6 n7 m7 n8 m8 n9 m9 b0
    go_wp2_with fail
    go_ret
    exact ⟨ret_bool HR.out.symm, hal.trans (s.below.mono hal.size)⟩
  case pos =>
  have heq : ∀ W, (binOp .neq 85 (.agg #[.int .i64 n.tk, .int .i64 n.bt, .int .i64 n.ld, .int .i64 n.ht]) (.agg #[.int .i64 m.tk, .int .i64 m.bt, .int .i64 m.ld, .int .i64 m.ht])).run Try.prog W = .ok (.bool false) W := fun W => by rw [neq85, e1]; rfl
  have HS1 := Lib.hid (HS.out.trans (by rw [e1, Bool.true_and]))
  clear e1 HS
  by_cases e2 : n.sy = m.sy
  case neg =>
    have q2 : (n.sy != m.sy) = true := bne_iff_ne.2 e2
    have E := Lib.hid (beq_eq_false_iff_ne.2 e2)
    clear e2
    have HR := Lib.hid (show n.like st m = false by rw [HS1.out, E.out]; rfl)
    refine wp_region_sb (by kernel_rfl) (by kernel_rfl) ?_
    repeat (go_big_quiet_step (fail))
    refine wpQuiet_nil ?_
    intro s
    clear n0 m0 n1 m1 n2 m2 n3 m3 n4 m4 n5 m5 n6 m6 n7 m7 n8 m8 n9 m9 b0
    go_wp2_with fail
    go_ret
    exact ⟨ret_bool HR.out.symm, hal.trans (s.below.mono hal.size)⟩
  case pos =>
  have q2 : (n.sy != m.sy) = false := by rw [e2]; exact bne_self_eq_false _
  have HS2 := Lib.hid (HS1.out.trans (by rw [e2, beq_self_eq_true, Bool.true_and]))
  clear e2 HS1
  by_cases e3 : n.pr = m.pr
  case neg =>
    have q3 : (n.pr != m.pr) = true := bne_iff_ne.2 e3
    have E := Lib.hid (beq_eq_false_iff_ne.2 e3)
    clear e3
    have HR := Lib.hid (show n.like st m = false by rw [HS2.out, E.out]; rfl)
    refine wp_region_sb (by kernel_rfl) (by kernel_rfl) ?_
    repeat (go_big_quiet_step (fail))
    refine wpQuiet_nil ?_
    intro s
    clear n0 m0 n1 m1 n2 m2 n3 m3 n4 m4 n5 m5 n6 m6 n7 m7 n8 m8 n9 m9 b0
    go_wp2_with fail
    go_ret
    exact ⟨ret_bool HR.out.symm, hal.trans (s.below.mono hal.size)⟩
  case pos =>
  have q3 : (n.pr != m.pr) = false := by rw [e3]; exact bne_self_eq_false _
  have HS3 := Lib.hid (HS2.out.trans (by rw [e3, beq_self_eq_true, Bool.true_and]))
  clear e3 HS2
  by_cases e4 : n.wd = m.wd
  case neg =>
    have q4 : (n.wd != m.wd) = true := bne_iff_ne.2 e4
    have E := Lib.hid (beq_eq_false_iff_ne.2 e4)
    clear e4
    have HR := Lib.hid (show n.like st m = false by rw [HS3.out, E.out]; rfl)
    refine wp_region_sb (by kernel_rfl) (by kernel_rfl) ?_
    repeat (go_big_quiet_step (fail))
    refine wpQuiet_nil ?_
    intro s
    clear n0 m0 n1 m1 n2 m2 n3 m3 n4 m4 n5 m5 n6 m6 n7 m7 n8 m8 n9 m9 b0
    go_wp2_with fail
    go_ret
    exact ⟨ret_bool HR.out.symm, hal.trans (s.below.mono hal.size)⟩
  case pos =>
  have q4 : (n.wd != m.wd) = false := by rw [e4]; exact bne_self_eq_false _
  have HS4 := Lib.hid (HS3.out.trans (by rw [e4, beq_self_eq_true, Bool.true_and]))
  clear e4 HS3
  cases st with
  | false =>
    have HR := Lib.hid (show n.like false m = NdsLike false n.kids m.kids by rw [HS4.out]; rfl)
    refine wp_region_sb (by kernel_rfl) (by kernel_rfl) ?_
    repeat (go_big_quiet_step (fail))
    refine wpQuiet_nil ?_
    intro s
    clear n0 m0 n1 m1 n2 m2 n3 m3 n4 m4 n5 m5 n6 m6 n7 m7 n8 m8 n9 m9 b0
    have hbs := hal.trans (s.below.mono hal.size)
    have hbx5 := (s.below.block _ (Array.getElem?_eq_some_iff.1 HBX.out).1).trans HBX.out
    generalize s.w = w5 at *
    have hn5 := HN.out.1.below hbs.drew
    have hm5 := HM.out.1.below hbs.drew
    have p0 := (HN.out.1.below hbs).cells.c10
    have p1 := (HM.out.1.below hbs).cells.c10
    have hp1 := ptrs_at hn5.head.2.1
    have hp2 := ptrs_at hm5.head.2.1
    obtain ⟨A1, c1, e1, _⟩ := ownsRow_any hn5.head.2.1
    obtain ⟨A2, c2, e2, _⟩ := ownsRow_any hm5.head.2.1
    rw [e1] at p0 hp1
    rw [e2] at p1 hp2
    have HK := Lib.hid (eqKids_call n.kids m.kids false w.heap.size _ _ w5.drew hp1 hp2 hbx5 (by omega) fun i h h' W' hW' => HIH.out _ (List.getElem_mem h) _ false W' ((hn5.head.2.2 _ (List.getElem_mem h)).below hW') ((hm5.head.2.2 _ (List.getElem_mem h')).below hW') (HN.out.2.kid _ (List.getElem_mem h)) (HM.out.2.kid _ (List.getElem_mem h')))
    clear hn5 hm5 hp1 hp2 e1 e2 hbx5
    go_upto_region 7 with (fail)
    go_region_held3 (fun W => W.cell? ⟨n.b, 10, none⟩ = some (.slice A1 n.kids.length c1) ∧ W.cell? ⟨m.b, 10, none⟩ = some (.slice A2 m.kids.length c2)) (first | exact ⟨p0, p1⟩ | exact ⟨p0', p1'⟩) (first | (go_at_call 87; refine HK.out.mono ?_; rintro e w6 ⟨rfl, hb6⟩; have p0' := (hb6.cell (p := ⟨n.b, 10, none⟩) (World.block_lt_of_cell? _ _ p0)).trans p0; have p1' := (hb6.cell (p := ⟨m.b, 10, none⟩) (World.block_lt_of_cell? _ _ p1)).trans p1))
    go_wp2_with fail
    go_ret
    exact ⟨ret_bool HR.out.symm, hbs.drew.trans (hb6.mono hbs.size)⟩
  | true =>
    by_cases e5 : (n.st == m.st && (n.lk == m.lk && (n.fm == m.fm))) = true
    case neg =>
      have heq2 : ∀ W, (binOp .neq 57 (.agg #[.int .i64 n.st, .int .i64 n.lk, .bool n.fm]) (.agg #[.int .i64 m.st, .int .i64 m.lk, .bool m.fm])).run Try.prog W = .ok (.bool true) W := fun W => by rw [neq57, Bool.eq_false_iff.2 e5]; rfl
      have E := Lib.hid (Bool.eq_false_iff.2 e5)
      clear e5
      have HR := Lib.hid (show n.like true m = false by rw [HS4.out, E.out]; rfl)
      refine wp_region_sb (by kernel_rfl) (by kernel_rfl) ?_
      repeat (go_big_quiet_step (fail))
      refine wpQuiet_nil ?_
      intro s
      clear n0 m0 n1 m1 n2 m2 n3 m3 n4 m4 n5 m5 n6 m6 n7 m7 n8 m8 n9 m9 b0
      go_wp2_with fail
      go_ret
      exact ⟨ret_bool HR.out.symm, hal.trans (s.below.mono hal.size)⟩
    case pos =>
    have heq2 : ∀ W, (binOp .neq 57 (.agg #[.int .i64 n.st, .int .i64 n.lk, .bool n.fm]) (.agg #[.int .i64 m.st, .int .i64 m.lk, .bool m.fm])).run Try.prog W = .ok (.bool false) W := fun W => by rw [neq57, e5]; rfl
    have HR := Lib.hid (show n.like true m = NdsLike true n.kids m.kids by rw [HS4.out, e5]; rfl)
    clear e5
    refine wp_region_sb (by kernel_rfl) (by kernel_rfl) ?_
    repeat (go_big_quiet_step (fail))
    refine wpQuiet_nil ?_
    intro s
    clear n0 m0 n1 m1 n2 m2 n3 m3 n4 m4 n5 m5 n6 m6 n7 m7 n8 m8 n9 m9 b0
    have hbs := hal.trans (s.below.mono hal.size)
    have hbx5 := (s.below.block _ (Array.getElem?_eq_some_iff.1 HBX.out).1).trans HBX.out
    generalize s.w = w5 at *
    have hn5 := HN.out.1.below hbs.drew
    have hm5 := HM.out.1.below hbs.drew
    have p0 := (HN.out.1.below hbs).cells.c10
    have p1 := (HM.out.1.below hbs).cells.c10
    have hp1 := ptrs_at hn5.head.2.1
    have hp2 := ptrs_at hm5.head.2.1
    obtain ⟨A1, c1, e1, _⟩ := ownsRow_any hn5.head.2.1
    obtain ⟨A2, c2, e2, _⟩ := ownsRow_any hm5.head.2.1
    rw [e1] at p0 hp1
    rw [e2] at p1 hp2
    have HK := Lib.hid (eqKids_call n.kids m.kids true w.heap.size _ _ w5.drew hp1 hp2 hbx5 (by omega) fun i h h' W' hW' => HIH.out _ (List.getElem_mem h) _ true W' ((hn5.head.2.2 _ (List.getElem_mem h)).below hW') ((hm5.head.2.2 _ (List.getElem_mem h')).below hW') (HN.out.2.kid _ (List.getElem_mem h)) (HM.out.2.kid _ (List.getElem_mem h')))
    clear hn5 hm5 hp1 hp2 e1 e2 hbx5
    go_upto_region 7 with (fail)
    go_region_held3 (fun W => W.cell? ⟨n.b, 10, none⟩ = some (.slice A1 n.kids.length c1) ∧ W.cell? ⟨m.b, 10, none⟩ = some (.slice A2 m.kids.length c2)) (first | exact ⟨p0, p1⟩ | exact ⟨p0', p1'⟩) (first | (go_at_call 87; refine HK.out.mono ?_; rintro e w6 ⟨rfl, hb6⟩; have p0' := (hb6.cell (p := ⟨n.b, 10, none⟩) (World.block_lt_of_cell? _ _ p0)).trans p0; have p1' := (hb6.cell (p := ⟨m.b, 10, none⟩) (World.block_lt_of_cell? _ _ p1)).trans p1))
    go_wp2_with fail
    go_ret
    exact ⟨ret_bool HR.out.symm, hbs.drew.trans (hb6.mono hbs.size)⟩

end Go.Proofs.Ytcjpmgfobnaoeaa