/- The chapter's examples: lives. -/
import Derived.Test.YtcjpmgfobnaoeaaA17
import Derived.LaidEqlPtr
namespace Go.Proofs.Ytcjpmgfobnaoeaa
open Go.RowKit

theorem info87 : (Try.prog.info? 87).map (fun i => (i.zero, i.size, i.bytes)) = (Try.prog.info? 87).map (fun i => (i.zero, 11, i.bytes)) := by kernel_rfl
theorem und33 : Try.prog.underlying 33 = some (.pointer 87) := by kernel_rfl
theorem has87 : (Try.prog.info? 87).isSome = true := by kernel_rfl

@[go_sem] theorem ptr_eql (w : World) (a : Addr) : (binOp .eql 33 (.pointer (some a)) (.pointer (some a))).run Try.prog w = .ok (.bool true) w := by
  obtain ⟨j, hj⟩ := Option.isSome_iff_exists.1 has87
  exact run_eql_ptr_same w a und33 hj
@[go_sem] theorem ptr_neq (w : World) (a : Addr) : (binOp .neq 33 (.pointer (some a)) (.pointer (some a))).run Try.prog w = .ok (.bool false) w := by
  obtain ⟨j, hj⟩ := Option.isSome_iff_exists.1 has87
  have h : ∀ d : Nat, (Op.equalIn (d + 1) 33 (.pointer (some a)) (.pointer (some a))).run Try.prog w = .ok true w := fun d => by
    simp [Op.equalIn, run_underlying und33, sizeOf, typeInfo, hj, run_sameAddr_same]
  simp only [binOp]
  simp [Op.equal, Op.maxDepth, h 9999]

theorem plain_two {n : Nd} (h : n.plain = twoPn) : ∃ p q, n.kids = [p, q] ∧ p.plain = leafPn ∧ q.plain = leafPn := by
  rw [n.plain_eq] at h
  unfold twoPn at h
  injection h with _ _ _ _ _ _ _ h
  rcases hk : n.kids with _ | ⟨p, _ | ⟨q, _ | ⟨r, l⟩⟩⟩
  · rw [hk] at h; simp at h
  · rw [hk] at h; simp at h
  · rw [hk] at h
    simp only [List.map_cons, List.map_nil, List.cons.injEq, and_true] at h
    exact ⟨p, q, rfl, h.1, h.2⟩
  · rw [hk] at h; simp at h
theorem plain_leaf {n : Nd} (h : n.plain = leafPn) : n.kids = [] := by
  rw [n.plain_eq] at h
  unfold leafPn at h
  injection h with _ _ _ _ _ _ _ h
  simpa using h

/-- The chapter's node, piece by piece. -/
structure Chap (n x y p q r s : Nd) : Prop where
  kids : n.kids = [x, y]
  xk : x.kids = [p, q]
  yk : y.kids = [r, s]
  pk : p.kids = []
  qk : q.kids = []
  rk : r.kids = []
  sk : s.kids = []
  nt : n.tk = 4
  xt : x.tk = 2
  yt : y.tk = 2
  pt : p.tk = 1
  qt : q.tk = 1
  rt : r.tk = 1
  st : s.tk = 1

theorem chap_is {n : Nd} (hwf : n.WF) (h : n.plain = chapPn) : ∃ x y p q r s, Chap n x y p q r s := by
  have h' := h
  rw [n.plain_eq] at h
  unfold chapPn at h
  injection h with _ _ _ _ _ _ _ h
  have tks : ∀ m : Nd, m.WF → m.tk = m.plain.leaves.length := fun m hm => (Nd.WF.adds m hm).1
  obtain ⟨x, y, hk, hx, hy⟩ : ∃ x y, n.kids = [x, y] ∧ x.plain = twoPn ∧ y.plain = twoPn := by
    rcases hk : n.kids with _ | ⟨p, _ | ⟨q, _ | ⟨r, l⟩⟩⟩
    · rw [hk] at h; simp at h
    · rw [hk] at h; simp at h
    · rw [hk] at h
      simp only [List.map_cons, List.map_nil, List.cons.injEq, and_true] at h
      exact ⟨p, q, rfl, h.1, h.2⟩
    · rw [hk] at h; simp at h
  obtain ⟨p, q, hxk, hp, hq⟩ := plain_two hx
  obtain ⟨r, s, hyk, hr, hs⟩ := plain_two hy
  have wx := hwf.kid x (by rw [hk]; simp)
  have wy := hwf.kid y (by rw [hk]; simp)
  have wp := wx.kid p (by rw [hxk]; simp)
  have wq := wx.kid q (by rw [hxk]; simp)
  have wr := wy.kid r (by rw [hyk]; simp)
  have ws := wy.kid s (by rw [hyk]; simp)
  have e1 : leafPn.leaves.length = 1 := by rfl
  have e2 : twoPn.leaves.length = 2 := by rfl
  have e4 : chapPn.leaves.length = 4 := by rfl
  exact ⟨x, y, p, q, r, s, hk, hxk, hyk, plain_leaf hp, plain_leaf hq, plain_leaf hr, plain_leaf hs, by rw [tks _ hwf, h', e4]; rfl, by rw [tks _ wx, hx, e2]; rfl, by rw [tks _ wy, hy, e2]; rfl,
    by rw [tks _ wp, hp, e1]; rfl, by rw [tks _ wq, hq, e1]; rfl, by rw [tks _ wr, hr, e1]; rfl, by rw [tks _ ws, hs, e1]; rfl⟩

theorem chap_c0 {n x y p q r s : Nd} (h : Chap n x y p q r s) : atC n 2 0 5 0 = [x, p] := by
  simp [atC, oldC, h.nt, atN_eq, atK, h.kids, h.xk, h.pk, h.xt, h.pt, staysC]
theorem chap_c1 {n x y p q r s : Nd} (h : Chap n x y p q r s) : atC n 2 0 5 1 = [q] := by
  simp [atC, oldC, h.nt, atN_eq, atK, h.kids, h.xk, h.qk, h.xt, h.pt, h.qt, staysC]
theorem chap_c2 {n x y p q r s : Nd} (_ : Chap n x y p q r s) : atC n 2 0 5 2 = [] := by
  simp [atC, oldC]
theorem chap_d0 {n x y p q r s : Nd} (h : Chap n x y p q r s) : atC n 1 1 2 0 = [p] := by
  simp [atC, oldC, h.nt, atN_eq, atK, h.kids, h.xk, h.pk, h.xt, h.pt, staysC]
theorem chap_a0 {n x y p q r s : Nd} (h : Chap n x y p q r s) : atC n 4 0 4 0 = [n, x, p] := by
  simp [atC, oldC, h.nt, atN_eq, atK, h.kids, h.xk, h.pk, h.xt, h.pt, staysC]

theorem at_len {g : Nat} {n : Nd} {a b t k : Int} {w : World} {l : List Nd} (h : n.In w) (hwf : n.WF) (hht : n.ht ≤ 1000000) (hg : w.heap[g]? = some (.cells #[n.ptr, .int .i64 a, .int .i64 b, .int .i64 t] 112 (0, 0))) (c : CurOk n.tk a b t) (hl : atC n a b t k = l) :
    Calls Try.prog 27 #[.pointer (some ⟨g, 0, none⟩), .int .i64 k] w fun e w' => ∃ A c, e = .returned (.slice A l.length c) ∧ (∀ m, l.head? = some m → ∃ g, A = some ⟨g, 0, none⟩ ∧ w'.cell? ⟨g, 0, none⟩ = some m.ptr) ∧ Below w.heap.size w w' := by
  refine (at_any g n a b t k w h hwf hht hg c).mono ?_
  rintro e w' ⟨v, rfl, hrow, hb⟩
  rw [hl] at hrow
  obtain ⟨A, c, rfl, hc⟩ := ownsRow_any hrow
  refine ⟨A, c, rfl, fun m hm => ?_, hb⟩
  cases l with
  | nil => simp at hm
  | cons x xs =>
    simp only [List.head?_cons, Option.some.injEq] at hm
    subst hm
    obtain ⟨g, h1, _, _, h2⟩ := hc 0 x.ptr (by simp)
    exact ⟨g, h1, h2⟩

attribute [local irreducible] Calls
set_option maxRecDepth 100000 in
set_option maxHeartbeats 4000000 in
theorem lives22 (w : World) : Calls Try.prog 20 #[] w fun e w' => e = .returned (.bool true) ∧ Below w.heap.size w w' := by
  go_enter Try.func20, Try.ntmps20
  apply wp_seq_k
  intro K1 k1
  have H1 := Lib.hid k1
  clear k1
  go_wp2_with fail
  refine H1.out _ _ ?_
  clear H1 K1
  apply wp_seq_k
  intro K1 k1
  have H1 := Lib.hid k1
  clear k1
  go_wp2_with (go_at_call 64; refine (chapter_call _).mono ?_; rintro e w1 ⟨n, rfl, hb1, hin, hwf, hpl, hht⟩)
  refine H1.out _ _ ?_
  clear H1 K1
  obtain ⟨x, y, p, q, r, s, hC⟩ := chap_is hwf hpl
  have hnt := hC.nt
  have kc : CurOk n.tk 2 0 5 := by rw [hnt]; constructor <;> decide
  have kd : CurOk n.tk 1 1 2 := by rw [hnt]; constructor <;> decide
  have ka : CurOk n.tk 4 0 4 := by rw [hnt]; constructor <;> decide
  have hh : n.ht ≤ 1000000 := by omega
  have hnew : ∀ W a b t, Below w1.heap.size w1 W → CurOk n.tk a b t → Calls Try.prog 22 #[n.ptr, .int .i64 a, .int .i64 b, .int .i64 t] W fun e w' => ∃ g, e = .returned (.tuple #[.pointer (some ⟨g, 0, none⟩), .int .i64 0]) ∧ Below W.heap.size W w' ∧
      (∀ W2, Below w'.heap.size w' W2 → ∀ k l, atC n a b t k = l → Calls Try.prog 27 #[.pointer (some ⟨g, 0, none⟩), .int .i64 k] W2 fun e w' => ∃ A c, e = .returned (.slice A l.length c) ∧ (∀ m, l.head? = some m → ∃ g, A = some ⟨g, 0, none⟩ ∧ w'.cell? ⟨g, 0, none⟩ = some m.ptr) ∧ Below W2.heap.size W2 w') ∧
      ∀ W2, Below w'.heap.size w' W2 → ∀ k x, oldC n.tk a b t k = x → Calls Try.prog 25 #[.pointer (some ⟨g, 0, none⟩), .int .i64 k] W2 fun e w' => e = .returned (.tuple #[.int .i64 x.1, .bool x.2]) ∧ Below W2.heap.size W2 w' := by
    intro W a b t hW hk
    refine (cnew_ok n a b t W (hin.below hW) hk).mono ?_
    rintro e w' ⟨g, rfl, hg, hl, hb⟩
    have hgk : ∀ W2, Below w'.heap.size w' W2 → W2.heap[g]? = some (.cells #[n.ptr, .int .i64 a, .int .i64 b, .int .i64 t] 112 (0, 0)) := fun W2 hW2 => (hW2.block g (Array.getElem?_eq_some_iff.1 hg).1).trans hg
    refine ⟨g, rfl, hb, fun W2 hW2 k l hl2 => at_len ((hin.below hW).below (hb.trans (hW2.mono hb.size))) hwf hh (hgk W2 hW2) hk hl2, fun W2 hW2 k x hx => ?_⟩
    rw [← hx]
    exact old_some g n a b t k W2 ((hin.below hW).below (hb.trans (hW2.mono hb.size))) (hgk W2 hW2) hk
  have hbad : ∀ W a b t, Below w1.heap.size w1 W → ¬ (0 ≤ a ∧ 0 ≤ b ∧ a ≤ n.tk ∧ a ≤ t ∧ b ≤ n.tk - a ∧ b ≤ t - a) → Calls Try.prog 22 #[n.ptr, .int .i64 a, .int .i64 b, .int .i64 t] W fun e w' => e = .returned (.tuple #[.pointer none, .int .i64 2]) ∧ Below W.heap.size W w' := fun W a b t hW hk =>
    cnew_bad n a b t W (hin.below hW) (by omega) (by omega) hk
  have hx1 : ¬ ((0:Int) ≤ 3 ∧ (0:Int) ≤ 2 ∧ 3 ≤ n.tk ∧ (3:Int) ≤ 9 ∧ 2 ≤ n.tk - 3 ∧ (2:Int) ≤ 9 - 3) := by omega
  have hx2 : ¬ ((0:Int) ≤ 2 ∧ (0:Int) ≤ 2 ∧ 2 ≤ n.tk ∧ (2:Int) ≤ 3 ∧ 2 ≤ n.tk - 2 ∧ (2:Int) ≤ 3 - 2) := by omega
  have ho1 : oldC n.tk 1 1 2 1 = (3, true) := by rw [hnt]; rfl
  have l1 := chap_c0 hC
  have l2 := chap_c1 hC
  have l3 := chap_c2 hC
  have l4 := chap_d0 hC
  have l5 := chap_a0 hC
  have HNEW := Lib.hid hnew
  have HBAD := Lib.hid hbad
  have HX1 := Lib.hid hx1
  have HX2 := Lib.hid hx2
  clear hnew hbad hx1 hx2
  unfold Nd.ptr at HNEW HBAD ⊢
  go_wp2_with (first
    | (go_at_call 22; refine (HNEW.out _ 2 0 5 (Below.refl _ _) kc).mono ?_; rintro e w2 ⟨g2, rfl, hb2, hc, _⟩; have HC2 := Lib.hid hc; clear hc)
    | (go_at_call 22; refine (HNEW.out _ 1 1 2 hb2 kd).mono ?_; rintro e w3 ⟨g3, rfl, hb3, hd, hdo⟩; have HD := Lib.hid hd; have HDO := Lib.hid hdo; clear hd hdo; have h3 := hb2.trans (hb3.mono hb2.size))
    | (go_at_call 22; refine (HNEW.out _ 4 0 4 h3 ka).mono ?_; rintro e w4 ⟨g4, rfl, hb4, ha, _⟩; have HA := Lib.hid ha; clear ha; have h4 := h3.trans (hb4.mono h3.size))
    | (go_at_call 22; refine (HBAD.out _ 3 2 9 h4 HX1.out).mono ?_; rintro e w5 ⟨rfl, hb5⟩; have h5 := h4.trans (hb5.mono h4.size))
    | (go_at_call 22; refine (HBAD.out _ 2 2 3 h5 HX2.out).mono ?_; rintro e w6 ⟨rfl, hb6⟩; have h6 := h5.trans (hb6.mono h5.size); have k43 := hb4; have k63 := (hb4.trans (hb5.mono hb4.size)).trans (hb6.mono (Nat.le_trans hb4.size hb5.size)))
    | (go_at_call 25; refine (HDO.out _ k63 1 (3, true) ho1).mono ?_; rintro e w7 ⟨rfl, hb7⟩; have h7 := h6.trans (hb7.mono h6.size); have k74 := (hb5.trans (hb6.mono hb5.size)).trans (hb7.mono (Nat.le_trans hb5.size hb6.size)))
    | (go_at_call 27; refine (HA.out _ k74 0 _ l5).mono ?_; rintro e w8 ⟨A8, c8, rfl, hA8, hb8⟩; obtain ⟨g8, rfl, q8⟩ := hA8 n rfl; have h8 := h7.trans (hb8.mono h7.size); have k8 := (hb3.trans ((k63.trans (hb7.mono k63.size)).mono hb3.size)).trans (hb8.mono (Nat.le_trans hb3.size (Nat.le_trans k63.size hb7.size))))
    | (go_at_call 25; refine (old_nil 0 _).mono ?_; rintro e w9 ⟨rfl, rfl⟩)
    | (go_at_call 27; refine (HC2.out _ k8 0 _ l1).mono ?_; rintro e w10 ⟨A10, c10, rfl, _, hb10⟩; have h10 := h8.trans (hb10.mono h8.size); have k10 := k8.trans (hb10.mono k8.size); have q10 := (hb10.cell (World.block_lt_of_cell? _ _ q8)).trans q8)
    | (go_at_call 27; refine (HC2.out _ k10 1 _ l2).mono ?_; rintro e w11 ⟨A11, c11, rfl, _, hb11⟩; have h11 := h10.trans (hb11.mono h10.size); have k11 := k10.trans (hb11.mono k10.size); have q11 := (hb11.cell (World.block_lt_of_cell? _ _ q10)).trans q10)
    | (go_at_call 27; refine (HC2.out _ k11 2 _ l3).mono ?_; rintro e w12 ⟨A12, c12, rfl, _, hb12⟩; have h12 := h11.trans (hb12.mono h11.size); have k12 := k11.trans (hb12.mono k11.size); have q12 := (hb12.cell (World.block_lt_of_cell? _ _ q11)).trans q11; have j12 := (((k63.trans (hb7.mono k63.size)).trans (hb8.mono (Nat.le_trans k63.size hb7.size))).trans ((hb10.trans ((hb11.trans (hb12.mono hb11.size)).mono hb10.size)).mono (Nat.le_trans k63.size (Nat.le_trans hb7.size hb8.size)))))
    | (go_at_call 27; refine (HD.out _ j12 0 _ l4).mono ?_; rintro e w13 ⟨A13, c13, rfl, _, hb13⟩; have h13 := h12.trans (hb13.mono h12.size); have q13 := (hb13.cell (World.block_lt_of_cell? _ _ q12)).trans q12)
    | (go_at_call 27; refine (at_nil 0 _).mono ?_; rintro e w14 ⟨rfl, rfl⟩))
  go_ret
  exact ⟨rfl, hb1.trans (h13.mono hb1.size)⟩

end Go.Proofs.Ytcjpmgfobnaoeaa
