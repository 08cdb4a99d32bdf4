/- CursorAll: plain facts, and the walk. -/
import Derived.Test.YtcjpmgfobnaoeaaA21
namespace Go.Proofs.Ytcjpmgfobnaoeaa
open Go.RowKit

theorem atN_congr (tk a b a2 b2 at' : Int) (hs : ∀ fr m, 0 ≤ fr → 1 ≤ m → fr + m ≤ tk → staysC tk a b fr m = staysC tk a2 b2 fr m) : ∀ n : Nd, n.WF → ∀ fr, 0 ≤ fr → fr + n.tk ≤ tk → atN tk a b at' fr n = atN tk a2 b2 at' fr n := by
  refine Nd.ind ?_
  intro n ih h fr h0 h1
  have hk1 := (Nd.WF.ok n h).tk1
  have hsum := h.sum.1
  have hgen : ∀ (l : List Nd) (f : Int), (∀ k ∈ l, k ∈ n.kids) → 0 ≤ f → f + sumTk l ≤ tk → atK tk a b at' f l = atK tk a2 b2 at' f l := by
    intro l
    induction l with
    | nil => intro f _ _ _; unfold atK; rfl
    | cons k ks ihl =>
      intro f hl hf hle
      rw [sumTk_cons] at hle
      have hkm := hl k (by simp)
      have t1 := (Nd.WF.ok k (h.kid k hkm)).tk1
      have hs0 := (sumTk_ge (l := ks) fun m hm => (Nd.WF.ok m (h.kid m (hl m (by simp [hm])))).tk1).1
      unfold atK
      rw [ih k hkm (h.kid k hkm) f hf (by omega), ihl (f + k.tk) (fun m hm => hl m (by simp [hm])) (by omega) (by omega)]
  rw [atN_eq, atN_eq, hs fr n.tk h0 hk1 h1, hgen n.kids fr (fun _ h => h) h0 (by omega)]

theorem atN_ne (tk a b at' : Int) (hs : ∀ fr m, 0 ≤ fr → 1 ≤ m → fr + m ≤ tk → staysC tk a b fr m = true) : ∀ n : Nd, n.WF → ∀ fr, 0 ≤ fr → fr + n.tk ≤ tk → fr ≤ at' → at' < fr + n.tk → atN tk a b at' fr n ≠ [] := by
  refine Nd.ind ?_
  intro n ih h fr h0 h1 h2 h3
  have hk1 := (Nd.WF.ok n h).tk1
  rw [atN_eq]
  by_cases he : fr = at'
  · rw [if_pos ⟨he, hs fr n.tk h0 hk1 h1⟩]; simp
  · rw [if_neg (fun hh => he hh.1), List.nil_append]
    have hgen : ∀ (l : List Nd) (f : Int), (∀ k ∈ l, k ∈ n.kids) → 0 ≤ f → f + sumTk l ≤ tk → f ≤ at' → at' < f + sumTk l → atK tk a b at' f l ≠ [] := by
      intro l
      induction l with
      | nil => intro f _ _ _ h5 h6; rw [sumTk_nil] at h6; omega
      | cons k ks ihl =>
        intro f hl hf hle h5 h6
        rw [sumTk_cons] at hle h6
        have hkm := hl k (by simp)
        have t1 := (Nd.WF.ok k (h.kid k hkm)).tk1
        have hs0 := (sumTk_ge (l := ks) fun m hm => (Nd.WF.ok m (h.kid m (hl m (by simp [hm])))).tk1).1
        unfold atK
        by_cases hlt : at' < f + k.tk
        · rw [if_pos hlt]; exact ih k hkm (h.kid k hkm) f hf (by omega) h5 hlt
        · rw [if_neg hlt]; exact ihl (f + k.tk) (fun m hm => hl m (by simp [hm])) (by omega) (by omega) (by omega) (by omega)
    rcases h.cases with ⟨_, _, ht, _⟩ | ⟨_, _, ht, _⟩
    · omega
    · exact hgen n.kids fr (fun _ h => h) h0 (by omega) h2 (by omega)

theorem stays_all {tk fr m : Int} (h1 : fr + m ≤ tk) : staysC tk tk 0 fr m = true := by
  unfold staysC; exact decide_eq_true (Or.inl h1)
theorem stays_all2 {tk fr m : Int} (h1 : 0 ≤ fr) : staysC tk 0 tk fr m = true := by
  unfold staysC; exact decide_eq_true (Or.inr (by omega))

theorem old_all {tk k : Int} (h0 : 0 ≤ k) (h1 : k < tk) : oldC tk tk 0 tk k = (k, true) := by
  unfold oldC; rw [if_neg (by omega), if_pos h1]
theorem old_all2 {tk : Int} (h1 : 1 ≤ tk) : oldC tk 0 tk tk 0 = (0, true) := by
  unfold oldC; rw [if_neg (by omega), if_neg (by omega), if_pos (by omega), show (0 - tk + tk : Int) = 0 by omega]

theorem all_same {n : Nd} (h : n.WF) : atC n 0 n.tk n.tk 0 = atC n n.tk 0 n.tk 0 := by
  have hk1 := (Nd.WF.ok n h).tk1
  unfold atC
  rw [old_all (by omega) (by omega), old_all2 hk1]
  simp only [if_true]
  exact (atN_congr n.tk n.tk 0 0 n.tk 0 (fun fr m h0 _ h2 => by rw [stays_all h2, stays_all2 h0]) n h 0 (by omega) (by omega)).symm
theorem all_head {n : Nd} (h : n.WF) : ∃ l, atC n n.tk 0 n.tk 0 = n :: l := by
  have hk1 := (Nd.WF.ok n h).tk1
  unfold atC
  rw [old_all (by omega) (by omega)]
  simp only [if_true]
  rw [atN_eq, if_pos ⟨rfl, stays_all (by omega)⟩]
  exact ⟨_, rfl⟩
theorem all_ne {n : Nd} {k : Int} (h : n.WF) (h0 : 0 ≤ k) (h1 : k < n.tk) : atC n n.tk 0 n.tk k ≠ [] := by
  unfold atC
  rw [old_all h0 h1]
  simp only [if_true]
  exact atN_ne n.tk n.tk 0 k (fun fr m _ _ h2 => stays_all h2) n h 0 (by omega) (by omega) h0 (by omega)
theorem none_at {n : Nd} {t k : Int} : atC n 0 0 t k = [] := by
  have h : oldC n.tk 0 0 t k = (0, false) := by
    unfold oldC
    split
    · rfl
    · rename_i h
      rw [if_neg (by omega), if_neg (by omega)]
  unfold atC
  rw [h]
  rfl

theorem atC_len {n : Nd} {a b t k : Int} (hwf : n.WF) (c : CurOk n.tk a b t) : (atC n a b t k).length ≤ n.cnt := by
  cases h : (oldC n.tk a b t k).2 with
  | true => rw [atC_beg hwf c h]; exact begN_len _ _ _ _ _ _
  | false => rw [atC_none h]; simp

attribute [local irreducible] Calls
set_option maxRecDepth 100000 in
set_option maxHeartbeats 8000000 in
theorem cursorAll_walk (d : Dt) (v : Value) (tokens k : Int) (w : World) (hd : d.At w.heap.size w v) (h0 : 0 ≤ tokens) (h255 : tokens ≤ 255) :
    Calls Try.prog 4 #[v, .int .u8 tokens, .int .i64 k] w fun e w' => e = .returned (.bool true) ∧ Below w.heap.size w w' := by
  have hd' := hd
  obtain ⟨kv, tv, sv, rfl, _, _, _⟩ := hd'
  have hW : ∀ W, W = w.alloc (.cells #[.int .i64 d.tree.sy, .int .i64 d.tree.pr, kv, tv, sv] 28) → Below w.heap.size w W ∧
      W.heap[w.heap.size]? = some (.cells #[.int .i64 d.tree.sy, .int .i64 d.tree.pr, kv, tv, sv] 28 (0, 0)) := by
    rintro W rfl
    exact ⟨below_alloc _ _, heap_alloc_new _ _⟩
  have HW := Lib.hid hW
  have HD := Lib.hid hd
  clear hW hd
  go_enter Try.func4, Try.ntmps4
  apply wp_seq_k
  intro K1 k1
  have H1 := Lib.hid k1
  clear k1
  go_wp2_with fail
  refine H1.out _ _ ?_
  clear H1 K1
  obtain ⟨hB, hx2⟩ := HW.out _ rfl
  generalize w.alloc (.cells #[.int .i64 d.tree.sy, .int .i64 d.tree.pr, kv, tv, sv] 28) = W at *
  have p0 : W.cell? ⟨w.heap.size, 0, none⟩ = some (.int .i64 d.tree.sy) := cell_of_heap hx2 rfl
  have p1 : W.cell? ⟨w.heap.size, 1, none⟩ = some (.int .i64 d.tree.pr) := cell_of_heap hx2 rfl
  have p2 : W.cell? ⟨w.heap.size, 2, none⟩ = some kv := cell_of_heap hx2 rfl
  have p3 : W.cell? ⟨w.heap.size, 3, none⟩ = some tv := cell_of_heap hx2 rfl
  have p4 : W.cell? ⟨w.heap.size, 4, none⟩ = some sv := cell_of_heap hx2 rfl
  have hgr := great19 w.heap.size d _ W (HD.out.keep hB) hB.size
  have hX : ∀ wx, Below W.heap.size W wx → wx.heap[w.heap.size]? = some (.cells #[.int .i64 d.tree.sy, .int .i64 d.tree.pr, kv, tv, sv] 28 (0, 0)) := fun wx hb =>
    (hb.block _ (Array.getElem?_eq_some_iff.1 hx2).1).trans hx2
  have HX := Lib.hid hX
  clear HW hx2 hX
  cases hg : d.great with
  | true =>
    rw [hg] at hgr
    go_wp2_with (first | (go_at_call 19; refine hgr.mono ?_; rintro e w1 ⟨rfl, hb1⟩) | (go_at_call 20; refine (lives22 _).mono ?_; rintro e w2 ⟨rfl, hb2⟩))
    go_ret
    exact ⟨rfl, hB.trans ((hb1.trans (hb2.mono hb1.size)).mono hB.size)⟩
  | false =>
    rw [hg] at hgr
    have hcnt : d.tree.cnt ≤ 60 := by unfold Dt.great at hg; simpa using hg
    apply wp_seq_k
    intro K1 k1
    have H1 := Lib.hid k1
    clear k1
    go_wp2_with (first | (go_at_call 19; refine hgr.mono ?_; rintro e w1 ⟨rfl, hb1⟩))
    refine H1.out _ _ ?_
    clear H1 K1 hgr p0 p1 p2 p3 p4
    have hx1 := HX.out _ hb1
    have p0 : w1.cell? ⟨w.heap.size, 0, none⟩ = some (.int .i64 d.tree.sy) := cell_of_heap hx1 rfl
    have p1 : w1.cell? ⟨w.heap.size, 1, none⟩ = some (.int .i64 d.tree.pr) := cell_of_heap hx1 rfl
    have p2 : w1.cell? ⟨w.heap.size, 2, none⟩ = some kv := cell_of_heap hx1 rfl
    have p3 : w1.cell? ⟨w.heap.size, 3, none⟩ = some tv := cell_of_heap hx1 rfl
    have p4 : w1.cell? ⟨w.heap.size, 4, none⟩ = some sv := cell_of_heap hx1 rfl
    clear hx1
    have hBW := hB.trans (hb1.mono hB.size)
    have hbt := built_any w.heap.size d _ w1 (HD.out.keep hBW) hBW.size (by omega)
    rcases hr : d.bld with x | pn
    · have hq : ∀ x : Int, x ≠ 0 → (x == 0) = false := fun x h => beq_eq_false_iff_ne.2 h
      have HQ := Lib.hid hq
      have HR := Lib.hid hr
      clear hq hr
      go_wp2_with (first
        | (go_at_call 21; refine hbt.mono ?_; rintro e w2 hsay; obtain ⟨hb2, hx0, rfl⟩ := hsay.err HR.out; have hq := HQ.out _ hx0; have hbx := hb1.trans (hb2.mono hb1.size))
        | (go_at_call 20; refine (lives22 _).mono ?_; rintro e w4 ⟨rfl, hb4⟩))
      go_ret
      exact ⟨rfl, hB.trans ((hbx.trans (hb4.mono hbx.size)).mono hB.size)⟩
    · have HR := Lib.hid hr
      clear hr
      apply wp_seq_k
      intro K1 k1
      have H1 := Lib.hid k1
      clear k1
      go_wp2_with (first
        | (go_at_call 21; refine hbt.mono ?_; rintro e w2 hsay; obtain ⟨hb2, n, rfl, rfl, hin, hwf, hht, hcn, _⟩ := hsay.ok HR.out))
      refine H1.out _ _ ?_
      clear H1 K1 hbt p0 p1 p2 p3 p4
      have hbx := hB.trans ((hb1.trans (hb2.mono hb1.size)).mono hB.size)
      have hok := Nd.WF.ok n hwf
      have hh : n.ht ≤ 1000000 := by omega
      have t1 := hok.tk1
      have t2 := hok.tk2
      have hT : ∀ W, Below w2.heap.size w2 W → Calls Try.prog 24 #[n.ptr] W fun e w' => e = .returned (.int .i64 n.tk) ∧ Below W.heap.size W w' := fun W h => tokens_some n W (hin.below h)
      have hN : ∀ W a b t, Below w2.heap.size w2 W → CurOk n.tk a b t → Calls Try.prog 22 #[n.ptr, .int .i64 a, .int .i64 b, .int .i64 t] W fun e w' => ∃ g, e = .returned (.tuple #[.pointer (some ⟨g, 0, none⟩), .int .i64 0]) ∧ w'.heap[g]? = some (.cells #[n.ptr, .int .i64 a, .int .i64 b, .int .i64 t] 112 (0, 0)) ∧ W.heap.size ≤ g ∧ Below W.heap.size W w' := fun W a b t h hk =>
        (cnew_ok n a b t W (hin.below h) hk)
      have hA : ∀ W a b t g k l, Below w2.heap.size w2 W → CurOk n.tk a b t → W.heap[g]? = some (.cells #[n.ptr, .int .i64 a, .int .i64 b, .int .i64 t] 112 (0, 0)) → atC n a b t k = l → Calls Try.prog 27 #[.pointer (some ⟨g, 0, none⟩), .int .i64 k] W fun e w' => ∃ v, e = .returned v ∧
          w'.ownsRow W.heap.size 33 1 v l.length (l.map Nd.ptr) ∧ Below W.heap.size W w' := fun W a b t g k l h hk hg hl => by
        subst hl
        exact at_any g n a b t k W (hin.below h) hwf hh hg hk
      have ka : CurOk n.tk n.tk 0 n.tk := by constructor <;> omega
      have kb : CurOk n.tk 0 n.tk n.tk := by constructor <;> omega
      have kc : CurOk n.tk 0 0 tokens := by constructor <;> omega
      have hcur : Below w2.heap.size w2 w2 := Below.refl _ _
      obtain ⟨L, htl⟩ : ∃ L, atC n n.tk 0 n.tk 0 = L := ⟨_, rfl⟩
      have hsame := (all_same hwf).trans htl
      obtain ⟨tl, hcons⟩ := all_head hwf
      rw [htl] at hcons
      have hLb : L.length ≤ 60 := by have := atC_len (k := 0) hwf ka; rw [htl] at this; omega
      have hL0 : 0 < L.length := by rw [hcons]; simp
      have hLn : L[0] = n := by simp [hcons]
      have hLq : ((L.length : Int) == 0) = false := beq_eq_false_iff_ne.2 (by omega)
      have hne : ∀ k, 0 ≤ k → k < n.tk → atC n n.tk 0 n.tk k ≠ [] := fun k h0 h1 => all_ne hwf h0 h1
      have hnone : ∀ k, atC n 0 0 tokens k = [] := fun k => none_at
      have HT := Lib.hid hT
      have HN := Lib.hid hN
      have HA := Lib.hid hA
      have HTL := Lib.hid htl
      have HSAME := Lib.hid hsame
      have HNE := Lib.hid hne
      have HNONE := Lib.hid hnone
      have hwb : IntKind.i64.wrap tokens = tokens := by rw [IntKind.wrap_i64]; omega
      clear hT hN hA htl hsame hne hnone hin hok hcons
      unfold Nd.ptr at HT HN ⊢
      go_upto_region 11 with (first
        | (go_at_call 24; refine (HT.out _ hcur).mono ?_; rintro e wx ⟨rfl, hb⟩; (try replace hga := (hb.block _ (Array.getElem?_eq_some_iff.1 hga).1).trans hga); replace hcur := hcur.trans (hb.mono hcur.size))
        | (go_at_call 22; refine (HN.out _ _ _ _ hcur ka).mono ?_; rintro e wx ⟨ga, rfl, hga, _, hb⟩; replace hcur := hcur.trans (hb.mono hcur.size))
        | (go_at_call 22; refine (HN.out _ _ _ _ hcur kb).mono ?_; rintro e wx ⟨gb, rfl, hgb, _, hb⟩; replace hcur := hcur.trans (hb.mono hcur.size); replace hga := (hb.block _ (Array.getElem?_eq_some_iff.1 hga).1).trans hga)
        | (go_at_call 22; refine (HN.out _ _ _ _ hcur kc).mono ?_; rintro e wx ⟨gc, rfl, hgc, _, hb⟩; replace hcur := hcur.trans (hb.mono hcur.size); replace hga := (hb.block _ (Array.getElem?_eq_some_iff.1 hga).1).trans hga; replace hgb := (hb.block _ (Array.getElem?_eq_some_iff.1 hgb).1).trans hgb))
      go_wp2_with (first
        | (go_at_call 27; refine (HA.out _ _ _ _ _ _ _ hcur ka hga HTL.out).mono ?_; rintro e wx ⟨v5, rfl, hr5, hb⟩; obtain ⟨A5, c5, rfl, _⟩ := ownsRow_any hr5; replace hga := (hb.block _ (Array.getElem?_eq_some_iff.1 hga).1).trans hga; replace hgb := (hb.block _ (Array.getElem?_eq_some_iff.1 hgb).1).trans hgb; replace hgc := (hb.block _ (Array.getElem?_eq_some_iff.1 hgc).1).trans hgc; replace hcur := hcur.trans (hb.mono hcur.size))
        | (go_at_call 27; refine (HA.out _ _ _ _ _ _ _ hcur kb hgb HSAME.out).mono ?_; rintro e wx ⟨v6, rfl, hr6, hb⟩; replace hr5 := ownsRow_of_block hr5 (fun k hk => hb.block k (hr5.lt k hk).2); obtain ⟨A6, c6, rfl, hc6⟩ := ownsRow_any hr6; obtain ⟨A7, c7, he5, hc5⟩ := ownsRow_any hr5; injection he5 with he5 _ he7; subst he5 he7; obtain ⟨g5, rfl, _, l5, q5⟩ := hc5 0 L[0].ptr (by simp [hL0]); obtain ⟨g6, rfl, _, l6, q6⟩ := hc6 0 L[0].ptr (by simp [hL0]); rw [hLn] at q5 q6; unfold Nd.ptr at q5 q6; replace hga := (hb.block _ (Array.getElem?_eq_some_iff.1 hga).1).trans hga; replace hgb := (hb.block _ (Array.getElem?_eq_some_iff.1 hgb).1).trans hgb; replace hgc := (hb.block _ (Array.getElem?_eq_some_iff.1 hgc).1).trans hgc; replace hcur := hcur.trans (hb.mono hcur.size)))
      have h56 : ∀ i (hi : i < L.length), ∀ wy, Below wx.heap.size wx wy → wy.cell? ⟨g5, i, none⟩ = some (.pointer (some ⟨L[i].b, 0, none⟩)) ∧ wy.cell? ⟨g6, i, none⟩ = some (.pointer (some ⟨L[i].b, 0, none⟩)) := fun i hi wy hy => by
        obtain ⟨g5', e5, _, l5', q5'⟩ := hc5 i L[i].ptr (by simp [hi])
        obtain ⟨g6', e6, _, l6', q6'⟩ := hc6 i L[i].ptr (by simp [hi])
        have e5' : g5 = g5' := by simpa using e5
        have e6' : g6 = g6' := by simpa using e6
        subst e5' e6'
        exact ⟨(hy.cell (p := ⟨g5, i, none⟩) l5').trans q5', (hy.cell (p := ⟨g6, i, none⟩) l6').trans q6'⟩
      have hwx : ∀ wy, Below wx.heap.size wx wy → Below w2.heap.size w2 wy ∧ wy.heap[ga]? = wx.heap[ga]? ∧ wy.heap[gc]? = wx.heap[gc]? := fun wy hy => ⟨hcur.trans (hy.mono hcur.size), hy.block _ (Array.getElem?_eq_some_iff.1 hga).1, hy.block _ (Array.getElem?_eq_some_iff.1 hgc).1⟩
      have H56 := Lib.hid h56
      have HWX := Lib.hid hwx
      have HGA := Lib.hid (And.intro hga hgc)
      have hbxx := hbx.trans (hcur.mono hbx.size)
      clear h56 hwx hga hgb hgc hc5 hc6 hr5 hr6 q5 q6 hcur hb
      go_loopw [17] (fun iv wy => ∃ i : Nat, iv = .int .i64 i ∧ i ≤ L.length ∧ Below wx.heap.size wx wy) (fun iv _ => L.length - (intOf iv).toNat)
      case atStart => exact ⟨0, rfl, by omega, Below.refl _ _⟩
      case round =>
        obtain ⟨i, rfl, hi, hbr⟩ := hrel
        by_cases hlt : i < L.length
        · obtain ⟨e7, e9⟩ := H56.out i hlt _ hbr
          have hltI : (i : Int) < (L.length : Int) := by omega
          go_wp2_with fail
          go_quiet (fail)
          go_wp2_with fail
          go_roundw
          case rel => exact ⟨i + 1, by go_num, by omega, ⟨hbr.os, hbr.tape, hbr.output, hbr.size, hbr.block⟩⟩
          case measure => simp [intOf]; omega
        · have hge : ¬ ((i : Int) < (L.length : Int)) := by omega
          obtain ⟨hcur, hga, hgc⟩ := HWX.out _ hbr
          have hga := hga.trans HGA.out.1
          have hgc := hgc.trans HGA.out.2
          clear HGA
          obtain ⟨M, hM⟩ : ∃ M, atC n n.tk 0 n.tk k = M := ⟨_, rfl⟩
          have HM := Lib.hid hM
          by_cases hk0 : 0 ≤ k
          · by_cases hk1 : k < n.tk
            · have hMn : 0 < M.length := by
                have := HNE.out k hk0 hk1
                rw [hM] at this
                exact List.length_pos_iff.2 this
              have hMq : ((M.length : Int) == 0) = false := beq_eq_false_iff_ne.2 (by omega)
              clear hM
              go_wp2_with (first
                | (go_at_call 27; refine (HA.out _ _ _ _ _ _ _ hcur ka hga HM.out).mono ?_; rintro e wz ⟨v8, rfl, hr8, hb⟩; obtain ⟨A8, c8, rfl, _⟩ := ownsRow_any hr8; replace hgc := (hb.block _ (Array.getElem?_eq_some_iff.1 hgc).1).trans hgc; replace hcur := hcur.trans (hb.mono hcur.size))
                | (go_at_call 24; refine (HT.out _ hcur).mono ?_; rintro e wz ⟨rfl, hb⟩; replace hgc := (hb.block _ (Array.getElem?_eq_some_iff.1 hgc).1).trans hgc; replace hcur := hcur.trans (hb.mono hcur.size))
                | (go_at_call 27; refine (HA.out _ _ _ _ _ _ _ hcur kc hgc (HNONE.out _)).mono ?_; rintro e wz ⟨v9, rfl, hr9, hb⟩; obtain ⟨A9, c9, rfl, _⟩ := ownsRow_any hr9; replace hgc := (hb.block _ (Array.getElem?_eq_some_iff.1 hgc).1).trans hgc; replace hcur := hcur.trans (hb.mono hcur.size))
                | (go_at_call 20; refine (lives22 _).mono ?_; rintro e wz ⟨rfl, hb⟩; replace hcur := hcur.trans (hb.mono hcur.size)))
              go_ret
              exact ⟨rfl, hbx.trans (hcur.mono hbx.size)⟩
            · clear hM
              go_wp2_with (first
                | (go_at_call 27; refine (HA.out _ _ _ _ _ _ _ hcur ka hga HM.out).mono ?_; rintro e wz ⟨v8, rfl, hr8, hb⟩; obtain ⟨A8, c8, rfl, _⟩ := ownsRow_any hr8; replace hgc := (hb.block _ (Array.getElem?_eq_some_iff.1 hgc).1).trans hgc; replace hcur := hcur.trans (hb.mono hcur.size))
                | (go_at_call 24; refine (HT.out _ hcur).mono ?_; rintro e wz ⟨rfl, hb⟩; replace hgc := (hb.block _ (Array.getElem?_eq_some_iff.1 hgc).1).trans hgc; replace hcur := hcur.trans (hb.mono hcur.size))
                | (go_at_call 27; refine (HA.out _ _ _ _ _ _ _ hcur kc hgc (HNONE.out _)).mono ?_; rintro e wz ⟨v9, rfl, hr9, hb⟩; obtain ⟨A9, c9, rfl, _⟩ := ownsRow_any hr9; replace hgc := (hb.block _ (Array.getElem?_eq_some_iff.1 hgc).1).trans hgc; replace hcur := hcur.trans (hb.mono hcur.size))
                | (go_at_call 20; refine (lives22 _).mono ?_; rintro e wz ⟨rfl, hb⟩; replace hcur := hcur.trans (hb.mono hcur.size)))
              go_ret
              exact ⟨rfl, hbx.trans (hcur.mono hbx.size)⟩
          · clear hM
            go_wp2_with (first
              | (go_at_call 27; refine (HA.out _ _ _ _ _ _ _ hcur ka hga HM.out).mono ?_; rintro e wz ⟨v8, rfl, hr8, hb⟩; obtain ⟨A8, c8, rfl, _⟩ := ownsRow_any hr8; replace hgc := (hb.block _ (Array.getElem?_eq_some_iff.1 hgc).1).trans hgc; replace hcur := hcur.trans (hb.mono hcur.size))
              | (go_at_call 24; refine (HT.out _ hcur).mono ?_; rintro e wz ⟨rfl, hb⟩; replace hgc := (hb.block _ (Array.getElem?_eq_some_iff.1 hgc).1).trans hgc; replace hcur := hcur.trans (hb.mono hcur.size))
              | (go_at_call 27; refine (HA.out _ _ _ _ _ _ _ hcur kc hgc (HNONE.out _)).mono ?_; rintro e wz ⟨v9, rfl, hr9, hb⟩; obtain ⟨A9, c9, rfl, _⟩ := ownsRow_any hr9; replace hgc := (hb.block _ (Array.getElem?_eq_some_iff.1 hgc).1).trans hgc; replace hcur := hcur.trans (hb.mono hcur.size))
              | (go_at_call 20; refine (lives22 _).mono ?_; rintro e wz ⟨rfl, hb⟩; replace hcur := hcur.trans (hb.mono hcur.size)))
            go_ret
            exact ⟨rfl, hbx.trans (hcur.mono hbx.size)⟩

end Go.Proofs.Ytcjpmgfobnaoeaa
