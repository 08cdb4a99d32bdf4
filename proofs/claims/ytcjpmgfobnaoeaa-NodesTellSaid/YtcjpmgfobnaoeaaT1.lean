/- Merged out of own texts: A33, A35, A36, A37, A38, A45, A49, A53, A69, A70, A71, A54, A55, A56, A72, A73. -/
import Derived.Sort.CutIn
import Derived.Test.YtcjpmgfobnaoeaaT0
/- nodes.all: it gives the visits of a tree. -/
namespace Go.Proofs.Ytcjpmgfobnaoeaa
set_option linter.unusedVariables false
set_option linter.unusedSimpArgs false
open Go.RowKit Go.Shelf
attribute [local go_sem] Oper.semAt_some

/-- The mark of a loop that has been gone through. -/
def mk (D : Nat) : Deferred := { target := .collected D, args := #[] }

theorem leaves_marks {F : Fence} {n : Nat} {P : Program} {fn : Func} {tmps : Array Value} {R : Ending → World → Prop} {T : List TypeId} {n₀ m : Nat} : ∀ (ds : List Nat) (W : World), ds.Nodup →
    (∀ D ∈ ds, m ≤ D ∧ n₀ ≤ D ∧ W.heap[D]? = some (.deferred (some []))) → (∀ W', AT T n₀ m W W' → LeavesIn F n P fn tmps R [] .returning W') → LeavesInM F n P fn tmps R (ds.map mk) .returning W
  | [], W, _, _, h => h W (AT.refl _ _ _ _)
  | D :: ds, W, hn, hd, h => by
    obtain ⟨h1, h2, h3⟩ := hd D (by simp)
    refine ⟨by simp, .inl ⟨D, _, rfl, run_takeDeferred h3, ?_⟩⟩
    have hat : AT T n₀ m W (W.putObj D (.deferred none)) := AT.putObj _ h3 rfl h1 h2
    have hnd := List.nodup_cons.1 hn
    refine leaves_marks ds _ hnd.2 (fun D' hD' => ?_) (fun W' hW' => h W' (hat.trans hW'))
    obtain ⟨k1, k2, k3⟩ := hd D' (by simp [hD'])
    exact ⟨k1, k2, (World.putObj_heap_other (fun e => hnd.1 (by rw [← e]; exact hD'))).trans k3⟩

theorem Nd.In.kidsAt {w : World} {n : Nd} (h : n.In w) : KidsAt w.heap.size w n.ks n.kids := by
  have hr := h.head.2.1
  rcases hr.2 with ⟨h1, h2⟩ | ⟨g, cap, cur, h1, _, hg, _, _, _, h6⟩
  · exact ⟨⟨none, 0, by rw [h1, h2]⟩, fun i hi => by omega⟩
  · refine ⟨⟨_, _, h1⟩, fun i hi => ⟨g, cap, h1, (Array.getElem?_eq_some_iff.1 hg).1, ?_⟩⟩
    refine cell_of_heap hg ?_
    have e : (n.kids.map Nd.ptr)[i]? = some (n.kids[i]).ptr := by rw [List.getElem?_map, List.getElem?_eq_getElem hi]; rfl
    rw [← h6, List.getElem?_take] at e
    split at e
    · simpa using e
    · simp at e

/-- The cells of a visit; of several. -/
def vcells (v : Vs) : List Value := [v.1.ptr, .int .i64 v.2.1, .int .i64 v.2.2]
def visV (v : Vs) : Array Value := #[.agg #[v.1.ptr, .int .i64 v.2.1, .int .i64 v.2.2]]

theorem vcells_len (l : List Vs) : (l.flatMap vcells).length = l.length * 3 := by
  induction l with
  | nil => rfl
  | cons v l ih => rw [List.flatMap_cons, List.length_append, ih]; simp [vcells]; omega

/-- The last one of a row of visits. -/
theorem row_last {wr : World} {m : Nat} {tv : Value} {v : Vs} {rest : List Vs} (h : wr.ownsRow m 120 3 tv (rest.length + 1) ((v :: rest).reverse.flatMap vcells)) :
    ∃ g c, tv = .slice (some ⟨g, 0, none⟩) (rest.length + 1) c ∧ m ≤ g ∧ g < wr.heap.size ∧ rest.length + 1 ≤ c ∧ (∃ cur, wr.heap[g]? = some (.cells cur 120 (0, 0))) ∧
      (wr.cell? ⟨g, rest.length * 3, none⟩ = some v.1.ptr ∧ wr.cell? ⟨g, rest.length * 3 + 1, none⟩ = some (.int .i64 v.2.1) ∧ wr.cell? ⟨g, rest.length * 3 + 2, none⟩ = some (.int .i64 v.2.2)) ∧
      wr.ownsRow m 120 3 (.slice (some ⟨g, 0, none⟩) rest.length c) rest.length (rest.reverse.flatMap vcells) := by
  rcases h.2 with ⟨_, h0⟩ | ⟨g, c, cur, h1, h2, h3, h4, h5, h6, h7⟩
  · omega
  · have hl : (rest.reverse.flatMap vcells).length = rest.length * 3 := by rw [vcells_len, List.length_reverse]
    rw [List.reverse_cons, List.flatMap_append] at h7
    have hc : ∀ j u, (vcells v)[j]? = some u → wr.cell? ⟨g, rest.length * 3 + j, none⟩ = some u := fun j u hu => by
      refine cell_of_heap h3 ?_
      have e : (cur.toList.take ((rest.length + 1) * 3))[rest.length * 3 + j]? = some u := by
        rw [h7, List.getElem?_append_right (by omega), hl]
        simpa using hu
      rw [List.getElem?_take] at e
      split at e
      · simpa using e
      · simp at e
    refine ⟨g, c, h1, h2, (Array.getElem?_eq_some_iff.1 h3).1, h4, ⟨cur, h3⟩, ⟨hc 0 _ rfl, hc 1 _ rfl, hc 2 _ rfl⟩, hl, .inr ⟨g, c, cur, rfl, h2, h3, by omega, h5, h6, ?_⟩⟩
    have e := congrArg (List.take (rest.length * 3)) h7
    rw [List.take_take, Nat.min_eq_left (by omega), List.take_left' hl] at e
    exact e

/-- What stands between two rounds of the loop over what is still to do. -/
structure L85 (w₀ : World) (m bt : Nat) (J : List Vs → World → Prop) (xs st pre : List Vs) (ds : List Nat) (tv : Value) (g : Nat) (wr : World) : Prop where
  xs : xs = pre ++ st.flatMap preV
  j : J pre wr
  box : wr.heap[bt]? = some (.cells #[tv] 136 (0, 0))
  row : wr.ownsRow m 120 3 tv st.length (st.reverse.flatMap vcells)
  ok : ∀ v ∈ st, v.1.In w₀ ∧ v.1.WF ∧ 0 ≤ v.2.1 ∧ v.2.1 + v.1.bt ≤ 65536 ∧ 0 ≤ v.2.2 ∧ v.2.2 + v.1.ht ≤ 2000
  below : Below w₀.heap.size w₀ wr
  nd : ds.Nodup
  ds : ∀ D ∈ ds, m ≤ D ∧ wr.heap[D]? = some (.deferred (some []))
  g : (st.flatMap preV).length = g
  sz : m ≤ wr.heap.size

/-- The frame of that loop. -/
def F85 (t0 t1 t3 t8 t9 t10 t11 t12 t13 u4 u5 u14 u15 u16 u17 u18 u19 u20 u21 u22 u23 u24 u25 u26 u27 u28 u29 u30 u31 u32 u33 u34 u35 u36 u37 u38 u39 u40 u41 u42 u43 u44 u45 u46 : Value) : Array Value := #[t0, t1, undef, t3, u4, u5, undef, undef, t8, t9, t10, t11, t12, t13, u14, u15, u16, u17, u18, u19, u20, u21, u22, u23, u24, u25, u26, u27, u28, u29, u30, u31, u32, u33, u34, u35, u36, u37, u38, u39, u40, u41, u42, u43, u44, u45, u46, undef, undef, undef, undef, undef, undef, undef, undef, undef, undef, undef, undef, undef, undef, undef, undef, undef, undef]

theorem len_preV (l : List Vs) : l.length ≤ (l.flatMap preV).length := by
  induction l with
  | nil => simp
  | cons v l ih => rw [List.flatMap_cons, List.length_append, preV_eq, List.length_cons, List.length_cons]; omega
theorem row_any {w : World} {b e sz n : Nat} {v : Value} {xs : List Value} (h : w.ownsRow b e sz v n xs) : ∃ A c, v = .slice A n c := by
  rcases h.2 with ⟨h1, h2⟩ | ⟨g, c, cur, h1, _⟩
  · exact ⟨none, 0, by rw [h1, h2]⟩
  · exact ⟨_, c, h1⟩

theorem sumBt_take_succ : ∀ {l : List Nd} {x : Nat} (h : x < l.length), sumBt (l.take (x + 1)) = sumBt (l.take x) + (l[x]).bt
  | k :: ks, 0, _ => by simp [sumBt]
  | k :: ks, x + 1, h => by
    have := sumBt_take_succ (l := ks) (x := x) (by simpa using h)
    rw [List.take_succ_cons, sumBt_cons, this, List.take_succ_cons, sumBt_cons, List.getElem_cons_succ]
    omega
theorem sumBt_take_le {l : List Nd} (h : ∀ k ∈ l, 0 ≤ k.bt) (x : Nat) : sumBt (l.take x) ≤ sumBt l := by
  have e : sumBt l = sumBt (l.take x) + sumBt (l.drop x) := by
    unfold sumBt
    rw [← List.sum_append, ← List.map_append, List.take_append_drop]
  have := (sumBt_ge (l := l.drop x) fun k hk => h k (List.mem_of_mem_drop hk)).1
  omega
theorem kidsV_drop (a d : Int) {l : List Nd} {x : Nat} (h : x < l.length) : kidsV (a + sumBt (l.take x)) d (l.drop x) = (l[x], a + sumBt (l.take x), d) :: kidsV (a + sumBt (l.take (x + 1))) d (l.drop (x + 1)) := by
  rw [drop_cons h]
  show (l[x], a + sumBt (l.take x), d) :: kidsV (a + sumBt (l.take x) + (l[x]).bt) d (l.drop (x + 1)) = _
  rw [sumBt_take_succ h, Int.add_assoc]
theorem kidsV_len (d : Int) : ∀ (l : List Nd) (a : Int), (kidsV a d l).length = l.length
  | [], a => rfl
  | k :: ks, a => by show (kidsV _ _ _).length + 1 = _; rw [kidsV_len d ks]; rfl
theorem kidsV_ok (d : Int) : ∀ (l : List Nd) (a : Int), (∀ k ∈ l, 0 ≤ k.bt) → ∀ u ∈ kidsV a d l, u.1 ∈ l ∧ a ≤ u.2.1 ∧ u.2.1 + u.1.bt ≤ a + sumBt l ∧ u.2.2 = d
  | [], a, _, u, hu => by simp [kidsV] at hu
  | k :: ks, a, hk, u, hu => by
    have h0 := hk k (by simp)
    have hs := (sumBt_ge (l := ks) fun x hx => hk x (by simp [hx])).1
    rw [sumBt_cons]
    rcases List.mem_cons.1 hu with rfl | hu
    · exact ⟨by simp, Int.le_refl _, by show a + k.bt ≤ _; omega, rfl⟩
    · obtain ⟨h1, h2, h3, h4⟩ := kidsV_ok d ks (a + k.bt) (fun x hx => hk x (by simp [hx])) u hu
      exact ⟨by simp [h1], by omega, by omega, h4⟩

theorem info120 : (Try.prog.info? 120).map (fun i => (i.zero, i.size, i.bytes)) = some (some (.agg #[.pointer none, .int .i64 0, .int .i64 0]), 3, 24) := by kernel_rfl

/-- What stands between two rounds of the loop over the kids. -/
structure I85 (w₀ W3 : World) (m bt ba vb : Nat) (T : List TypeId) (v : Vs) (rest : List Vs) (i : Nat) (y : Int) (tv : Value) (Wc : World) : Prop where
  box : Wc.heap[bt]? = some (.cells #[tv] 136 (0, 0))
  at_ : Wc.heap[ba]? = some (.cells #[.int .i64 y] 3 (0, 0))
  ay : 0 < i → y = v.2.1 + sumBt (v.1.kids.take i)
  vbx : Wc.heap[vb]? = some (.cells #[.pointer (some ⟨v.1.b, 0, none⟩), .int .i64 v.2.1, .int .i64 v.2.2] 120 (0, 0))
  row : Wc.ownsRow m 120 3 tv (kidsV (v.2.1 + sumBt (v.1.kids.take i)) (v.2.2 + 1) (v.1.kids.drop i) ++ rest).length ((kidsV (v.2.1 + sumBt (v.1.kids.take i)) (v.2.2 + 1) (v.1.kids.drop i) ++ rest).reverse.flatMap vcells)
  vbr : some vb ≠ tv.ownBlock
  rel : AT T w₀.heap.size W3.heap.size W3 Wc

theorem row_at {A B : World} {T : List TypeId} {n₀ m base e sz n : Nat} {v : Value} {xs : List Value} (h : A.ownsRow base e sz v n xs) (hat : AT T n₀ m A B) (he : e ∉ T) : B.ownsRow base e sz v n xs := by
  refine ⟨h.1, ?_⟩
  rcases h.2 with h | ⟨g, c, cur, h1, h2, h3, h4⟩
  · exact .inl h
  · exact .inr ⟨g, c, cur, h1, h2, hat.keep h3 he, h4⟩

theorem I85.abides {w₀ W3 : World} {m bt ba vb : Nat} {T : List TypeId} {v : Vs} {rest : List Vs} {i : Nat} {y : Int} {tv : Value} {A B : World} {k : Nat} (h : I85 w₀ W3 m bt ba vb T v rest i y tv A) (hat : AT [45] w₀.heap.size k A B) (hk : W3.heap.size ≤ k) (hT : 45 ∈ T) : I85 w₀ W3 m bt ba vb T v rest i y tv B :=
  ⟨hat.keep h.box (by decide), hat.keep h.at_ (by decide), h.ay, hat.keep h.vbx (by decide), row_at h.row hat (by decide), h.vbr, h.rel.join' hat hk (by intro t ht; rw [List.mem_singleton.1 ht]; exact hT)⟩

set_option maxRecDepth 100000 in
set_option maxHeartbeats 8000000 in
theorem all1_gives (root : Nd) (w₀ w : World) (bn : Nat) (hin : root.In w₀) (hwf : root.WF) (hcn : root.cnt ≤ 1000) (hw : Below w₀.heap.size w₀ w) (hb : w.heap[bn]? = some (.cells #[root.ptr] 33 (0, 0))) :
    ∀ n, GivesT n Try.prog 85 #[.pointer (some ⟨bn, 0, none⟩)] visV [33, 120, 136, 3, 45] w₀.heap.size (preN 0 0 root) w := by
  intro n l J W hW hJ hY h0
  have hb' : W.heap[bn]? = some (.cells #[root.ptr] 33 (0, 0)) := (hW.block _ (Array.getElem?_eq_some_iff.1 hb).1).trans hb
  have hB : Below w₀.heap.size w₀ W := hw.trans (hW.mono hw.size)
  have c0 : W.cell? ⟨bn, 0, none⟩ = some (.pointer (some ⟨root.b, 0, none⟩)) := cell_of_heap hb' rfl
  have hm := callsIn_wide (n := n - 1) |>.2 (made_yes root W (hin.below hB) (by have := (Nd.WF.ok root hwf).ht1; omega))
  unfold Nd.ptr at hm
  have HY := Lib.hid hY
  have HJ := Lib.hid hJ
  have HIN := Lib.hid hin
  have HWF := Lib.hid hwf
  clear hb hb' hW hY hJ hw hin hwf
  refine callsIn_of_wp_marks Try.func85 rfl trivial ?_ rfl
  simp only [Try.ntmps85, List.size_toArray, List.length_cons, List.length_nil, Nat.reduceAdd, Nat.reduceSub, Array.replicate_succ, Array.replicate_zero, List.push_toArray, List.append_toArray, List.nil_append, List.cons_append]
  gi_wp2_with (first | (refine ⟨trivial, fun h => (by simp [Fence.wide] at h), ?_⟩; gi_at_call 70; refine hm.mono ?_; rintro e w2 ⟨rfl, h2⟩; rw [h2]; clear h2))
  have hbox : ∀ W2, W2 = (W.alloc (.cells #[.pointer (some ⟨root.b, 0, none⟩), .int .i64 0, .int .i64 0] 120)).alloc (.cells #[.slice (some ⟨W.heap.size, 0, none⟩) 1 1] 136) → Below W.heap.size W W2 ∧
      W2.heap[W.heap.size]? = some (.cells #[.pointer (some ⟨root.b, 0, none⟩), .int .i64 0, .int .i64 0] 120 (0, 0)) ∧ W2.heap[W.heap.size + 1]? = some (.cells #[.slice (some ⟨W.heap.size, 0, none⟩) 1 1] 136 (0, 0)) := by
    rintro W2 rfl
    exact ⟨((Below.refl _ _).alloc (Nat.le_refl _) _).alloc (by simp) _, by rw [Below.heap_alloc _ _ _ (by simp)]; exact heap_alloc_new _ _, heap_new2 _ _ _⟩
  obtain ⟨hb2, x0, x1⟩ := hbox _ rfl
  clear hbox
  generalize (W.alloc (.cells #[.pointer (some ⟨root.b, 0, none⟩), .int .i64 0, .int .i64 0] 120)).alloc (.cells #[.slice (some ⟨W.heap.size, 0, none⟩) 1 1] 136) = W2 at *
  refine wpIn_loop_ghost_k (fun g a wr => ∃ (st pre : List Vs) (ds : List Nat) (tv u4 u5 u14 u15 u16 u17 u18 u19 u20 u21 u22 u23 u24 u25 u26 u27 u28 u29 u30 u31 u32 u33 u34 u35 u36 u37 u38 u39 u40 u41 u42 u43 u44 u45 u46 : Value), a = { tmps := F85 (.func (.yield l) #[] #[]) (.pointer (some ⟨bn, 0, none⟩)) (.pointer (some ⟨W.heap.size + 1, 0, none⟩)) (.pointer (some ⟨root.b, 0, none⟩)) (.bool true) (.bool false) (.pointer (some ⟨root.b, 0, none⟩)) (.agg #[.pointer (some ⟨root.b, 0, none⟩), .int .i64 0, .int .i64 0]) (.slice (some ⟨W.heap.size, 0, none⟩) 1 1) u4 u5 u14 u15 u16 u17 u18 u19 u20 u21 u22 u23 u24 u25 u26 u27 u28 u29 u30 u31 u32 u33 u34 u35 u36 u37 u38 u39 u40 u41 u42 u43 u44 u45 u46, defers := ds.map mk } ∧
    L85 w₀ W.heap.size (W.heap.size + 1) J (preN 0 0 root) st pre ds tv g wr) (preN 0 0 root).length ?start ?round
  case start =>
    have hsz := hB.size
    have hht := ht_le_cnt root HWF.out
    have hok := Nd.WF.ok root HWF.out
    refine ⟨[(root, 0, 0)], [], [], .slice (some ⟨W.heap.size, 0, none⟩) 1 1, _, _, _, _, _, _, _, _, _, _, _, _, _, _, _, _, _, _, _, _, _, _, _, _, _, _, _, _, _, _, _, _, _, _, _, rfl, ?_⟩
    exact ⟨by simp [preV], HJ.out _ _ _ h0 (AT.of_below hb2 hsz), x1, row_new x0 (Nat.le_refl _) rfl (by decide), by
      intro v hv
      simp only [List.mem_singleton] at hv
      subst hv
      exact ⟨HIN.out, HWF.out, Int.le_refl _, by show (0:Int) + root.bt ≤ 65536; have := hok.bt1; omega, Int.le_refl _, by show (0:Int) + root.ht ≤ 2000; omega⟩, hB.trans (hb2.mono hsz), List.nodup_nil, by simp, by simp [preV], hb2.size⟩
  case round =>
    have hB0 := hB.size
    clear h0 hB c0 hm hb2 x0 x1
    rintro g a wr ⟨st, pre, ds, tv, u4, u5, u14, u15, u16, u17, u18, u19, u20, u21, u22, u23, u24, u25, u26, u27, u28, u29, u30, u31, u32, u33, u34, u35, u36, u37, u38, u39, u40, u41, u42, u43, u44, u45, u46, rfl, hL⟩ J' K hJ' hK
    unfold F85
    have hsz := hL.sz
    have hdst := hL.ds
    have HDS := Lib.hid (And.intro hL.nd hdst)
    rcases st with _ | ⟨v, rest⟩
    · obtain ⟨A, c, hv⟩ := row_any hL.row
      have hbx := hL.box
      rw [hv] at hbx
      have b0 : wr.cell? ⟨W.heap.size + 1, 0, none⟩ = some (.slice A 0 c) := cell_of_heap hbx rfl
      have HXJ := Lib.hid (show J (preN 0 0 root) wr by
        have h := hL.xs
        rw [List.flatMap_nil, List.append_nil] at h
        rw [h]
        exact hL.j)
      have hn0 := hB0
      clear hL hbx hv hdst
      gi_wp2_with fail
      exact leaves_marks (T := [33, 120, 136, 3, 45]) (n₀ := w₀.heap.size) (m := W.heap.size) ds wr HDS.out.1 (fun D hD => ⟨(HDS.out.2 D hD).1, Nat.le_trans hB0 (HDS.out.2 D hD).1, (HDS.out.2 D hD).2⟩)
        (fun W' hat => ⟨_, results_none rfl _ _ _, ⟨_, rfl⟩, HJ.out _ _ _ HXJ.out hat⟩)
    · obtain ⟨g3, c, hv, hg1, hg2, hc1, ⟨cur, hg3⟩, ⟨y0, y1, y2⟩, hrow⟩ := row_last hL.row
      have hbx := hL.box
      rw [hv] at hbx
      have b0 : wr.cell? ⟨W.heap.size + 1, 0, none⟩ = some (.slice (some ⟨g3, 0, none⟩) (rest.length + 1) c) := cell_of_heap hbx rfl
      have z0 : wr.frozen? ⟨W.heap.size + 1, 0, none⟩ = false := frozen_of_heap hbx
      have l1 : W.heap.size + 1 < wr.heap.size := (Array.getElem?_eq_some_iff.1 hbx).1
      have HL := Lib.hid hL
      have HBX := Lib.hid hbx
      have HROW := Lib.hid hrow
      have HG3 := Lib.hid hg3
      have q0 : (0 : Int) ≤ (rest.length : Int) := Int.natCast_nonneg _
      have hlen : rest.length + 1 ≤ 1000 := by
        have h1 := len_preV (v :: rest)
        have h2 := congrArg List.length hL.xs
        rw [List.length_append, preN_len] at h2
        simp only [List.length_cons] at h1
        omega
      have q1 : IntKind.i64.wrap ((rest.length : Int) + 1 - 1) = (rest.length : Int) := by rw [IntKind.wrap_i64]; omega
      have q2 : (0 : Int) < (rest.length : Int) + 1 := by omega
      have q3 : (rest.length : Int) < (rest.length : Int) + 1 := by omega
      unfold Nd.ptr at y0
      clear hL hbx hrow hg3 hv hdst
      gi_upto_region 5 with fail
      obtain ⟨Wy, hWy⟩ : ∃ Wy, (wr.setCell ⟨W.heap.size + 1, 0, none⟩ (.slice (some ⟨g3, 0, none⟩) rest.length c)).alloc (.cells #[.pointer (some ⟨v.1.b, 0, none⟩), .int .i64 v.2.1, .int .i64 v.2.2] 120) = Wy := ⟨_, rfl⟩
      have hsz1 : (wr.setCell ⟨W.heap.size + 1, 0, none⟩ (.slice (some ⟨g3, 0, none⟩) rest.length c)).heap.size = wr.heap.size := by simp
      have haty : AT [33, 120, 136, 3, 45] w₀.heap.size wr.heap.size wr Wy := by
        rw [← hWy]
        exact ((AT.refl _ _ _ wr).setCell (p := ⟨W.heap.size + 1, 0, none⟩) (by show _ ≤ W.heap.size + 1; omega) HBX.out (by simp) _).trans (AT.of_below (below_alloc _ _) (by rw [hsz1]; omega))
      have hvb : Wy.heap[wr.heap.size]? = some (.cells #[.pointer (some ⟨v.1.b, 0, none⟩), .int .i64 v.2.1, .int .i64 v.2.2] 120 (0, 0)) := by
        have h := heap_alloc_new (wr.setCell ⟨W.heap.size + 1, 0, none⟩ (.slice (some ⟨g3, 0, none⟩) rest.length c)) (.cells #[.pointer (some ⟨v.1.b, 0, none⟩), .int .i64 v.2.1, .int .i64 v.2.2] 120)
        rw [hsz1, hWy] at h
        exact h
      have hbt : Wy.heap[W.heap.size + 1]? = some (.cells #[.slice (some ⟨g3, 0, none⟩) rest.length c] 136 (0, 0)) := by
        rw [← hWy, Below.heap_alloc _ _ _ (by rw [hsz1]; exact l1)]
        exact setCell_heap (i := 0) HBX.out _
      have hne : g3 ≠ W.heap.size + 1 := by
        intro e
        obtain h1 := HG3.out
        rw [e, HBX.out] at h1
        simp at h1
      have hg3y : Wy.heap[g3]? = wr.heap[g3]? := by
        rw [← hWy, Below.heap_alloc _ _ _ (by rw [hsz1]; exact hg2)]
        exact Below.heap_setCell _ _ _ _ hne
      have hrowy := ownsRow_of_block HROW.out (w' := Wy) (fun k hk => by
        have hk' : g3 = k := by simpa [Value.ownBlock] using hk
        subst hk'
        exact hg3y)
      have hjy : J pre Wy := HJ.out _ _ _ HL.out.j (haty.mono' hsz)
      have hmy : ∀ D ∈ ds, Wy.heap[D]? = some (.deferred (some [])) := fun D hD => haty.same _ _ (HDS.out.2 D hD).2 (InT.not_of rfl) (.inr (Array.getElem?_eq_some_iff.1 (HDS.out.2 D hD).2).1)
      have hby := HL.out.below.trans haty.below
      have hszy : Wy.heap.size = wr.heap.size + 1 := by rw [← hWy]; simp
      rw [hWy]
      clear hWy hsz1 y0 y1 y2 b0 z0
      have hxs := HL.out.xs
      rw [List.flatMap_cons, preV_eq, List.cons_append] at hxs
      obtain ⟨fn, tmps, assign, body, hy, hR⟩ := HY.out pre v _ Wy hxs hjy (n - 1)
      obtain ⟨hvin, hvwf, hv0, hv1, hv2, hv3⟩ := HL.out.ok v (by simp)
      have HR := Lib.hid hR
      have HVB := Lib.hid hvb
      have HBT := Lib.hid hbt
      have HROWY := Lib.hid hrowy
      have HMY := Lib.hid hmy
      have d0 : Wy.cell? ⟨wr.heap.size, 0, none⟩ = some (.pointer (some ⟨v.1.b, 0, none⟩)) := cell_of_heap hvb rfl
      have d1 : Wy.cell? ⟨wr.heap.size, 1, none⟩ = some (.int .i64 v.2.1) := cell_of_heap hvb rfl
      have d2 : Wy.cell? ⟨wr.heap.size, 2, none⟩ = some (.int .i64 v.2.2) := cell_of_heap hvb rfl
      have HXS := Lib.hid hxs
      have HVI := Lib.hid hvin
      have HVW := Lib.hid hvwf
      unfold visV Nd.ptr at hy
      clear hR hvb hbt hrowy hmy hjy hxs haty hvin hvwf HG3 HROW HBX hne hg3y
      gi_upto_region 6 with fail
      refine ⟨fun h => by simp [Fence.wide] at h, HR.out.mono ?_⟩
      rintro e W3 ⟨rfl, hJ3, hk3⟩
      clear hy HR d0 d1 d2
      have hvb3 := hk3.keep HVB.out (by simp)
      have hbt3 := hk3.keep HBT.out (by simp)
      have hb3 := hby.trans hk3.below
      have c0 : W3.cell? ⟨wr.heap.size, 0, none⟩ = some (.pointer (some ⟨v.1.b, 0, none⟩)) := cell_of_heap hvb3 rfl
      have c1 : W3.cell? ⟨wr.heap.size, 1, none⟩ = some (.int .i64 v.2.1) := cell_of_heap hvb3 rfl
      have cn : W3.cell? ⟨v.1.b, 1, none⟩ = some (.int .i64 v.1.bt) := (HVI.out.below hb3).cells.c1
      have hw1 : IntKind.i64.wrap (v.2.1 + v.1.bt) = v.2.1 + v.1.bt := by rw [IntKind.wrap_i64]; have := (Nd.WF.ok _ HVW.out).bt0; omega
      have hm : Try.prog.follows .mixedOrders = true := by kernel_rfl
      gi_upto_region 6 with fail
      refine wpIn_region_free free_wide (S := fun W => W.cell? ⟨wr.heap.size, 0, none⟩ = some (.pointer (some ⟨v.1.b, 0, none⟩)) ∧ W.cell? ⟨wr.heap.size, 1, none⟩ = some (.int .i64 v.2.1) ∧ W.cell? ⟨v.1.b, 1, none⟩ = some (.int .i64 v.1.bt)) hm (by rfl) ⟨c0, c1, cn⟩ 11 rfl (fun hH => ?_)
      refine AnyL.take (i := 0) (v := ?_) rfl (by kernel_rfl) (by kernel_rfl) (by kernel_rfl) (fun _ _ _ h => h) (Or.inl ⟨by rfl, ?_⟩) hH ?_
      rotate_left
      · (intro w hSw; (try dsimp only at hSw); go_simp; (try with_reducible rfl))
      (try simp only [List.getElem_toArray, List.getElem_cons_succ, List.getElem_cons_zero, Act.put, List.setIfInBounds_toArray, List.set_cons_zero, List.set_cons_succ])
      refine AnyL.take (i := 1) (v := ?_) rfl (by kernel_rfl) (by kernel_rfl) (by kernel_rfl) (fun _ _ _ h => h) (Or.inl ⟨by rfl, ?_⟩) hH ?_
      rotate_left
      · (intro w hSw; (try dsimp only at hSw); go_simp; (try with_reducible rfl))
      (try simp only [List.getElem_toArray, List.getElem_cons_succ, List.getElem_cons_zero, Act.put, List.setIfInBounds_toArray, List.set_cons_zero, List.set_cons_succ])
      refine AnyL.take (i := 2) (v := ?_) rfl (by kernel_rfl) (by kernel_rfl) (by kernel_rfl) (fun _ _ _ h => h) (Or.inl ⟨by rfl, ?_⟩) hH ?_
      rotate_left
      · (intro w hSw; (try dsimp only at hSw); go_simp; (try with_reducible rfl))
      (try simp only [List.getElem_toArray, List.getElem_cons_succ, List.getElem_cons_zero, Act.put, List.setIfInBounds_toArray, List.set_cons_zero, List.set_cons_succ])
      refine AnyL.take (i := 3) (v := ?_) rfl (by kernel_rfl) (by kernel_rfl) (by kernel_rfl) (fun _ _ _ h => h) (Or.inl ⟨by rfl, ?_⟩) hH ?_
      rotate_left
      · (intro w hSw; (try dsimp only at hSw); go_simp; (try with_reducible rfl))
      (try simp only [List.getElem_toArray, List.getElem_cons_succ, List.getElem_cons_zero, Act.put, List.setIfInBounds_toArray, List.set_cons_zero, List.set_cons_succ])
      refine AnyL.take (i := 4) (v := ?_) rfl (by kernel_rfl) (by kernel_rfl) (by kernel_rfl) (fun _ _ _ h => h) (Or.inl ⟨by rfl, ?_⟩) hH ?_
      rotate_left
      · (intro w hSw; (try dsimp only at hSw); go_simp; (try with_reducible rfl))
      (try simp only [List.getElem_toArray, List.getElem_cons_succ, List.getElem_cons_zero, Act.put, List.setIfInBounds_toArray, List.set_cons_zero, List.set_cons_succ])
      refine AnyL.take (i := 5) (v := ?_) rfl (by kernel_rfl) (by kernel_rfl) (by kernel_rfl) (fun _ _ _ h => h) (Or.inl ⟨by rfl, ?_⟩) hH ?_
      rotate_left
      · (intro w hSw; (try dsimp only at hSw); go_simp; (try with_reducible rfl))
      (try simp only [List.getElem_toArray, List.getElem_cons_succ, List.getElem_cons_zero, Act.put, List.setIfInBounds_toArray, List.set_cons_zero, List.set_cons_succ])
      refine AnyL.take (i := 6) (v := ?_) rfl (by kernel_rfl) (by kernel_rfl) (by kernel_rfl) (fun _ _ _ h => h) (Or.inl ⟨by rfl, ?_⟩) hH ?_
      rotate_left
      · (intro w hSw; (try dsimp only at hSw); go_simp; (try with_reducible rfl))
      (try simp only [List.getElem_toArray, List.getElem_cons_succ, List.getElem_cons_zero, Act.put, List.setIfInBounds_toArray, List.set_cons_zero, List.set_cons_succ])
      refine AnyL.take (i := 7) (v := ?_) rfl (by kernel_rfl) (by kernel_rfl) (by kernel_rfl) (fun _ _ _ h => h) (Or.inl ⟨by rfl, ?_⟩) hH ?_
      rotate_left
      · (intro w hSw; (try dsimp only at hSw); go_simp; (try with_reducible rfl))
      (try simp only [List.getElem_toArray, List.getElem_cons_succ, List.getElem_cons_zero, Act.put, List.setIfInBounds_toArray, List.set_cons_zero, List.set_cons_succ])
      refine AnyL.take (i := 8) (v := ?_) rfl (by kernel_rfl) (by kernel_rfl) (by kernel_rfl) (fun _ _ _ h => h) (Or.inl ⟨by rfl, ?_⟩) hH ?_
      rotate_left
      · (intro w hSw; (try dsimp only at hSw); go_simp; (try with_reducible rfl))
      (try simp only [List.getElem_toArray, List.getElem_cons_succ, List.getElem_cons_zero, Act.put, List.setIfInBounds_toArray, List.set_cons_zero, List.set_cons_succ])
      refine AnyL.step (i := 9) (by kernel_rfl) rfl (fun K hK => ?_)
      (try simp only [List.getElem_toArray, List.getElem_cons_succ, List.getElem_cons_zero])
      go_simp
      refine hK.out _ _ (.inr ⟨Lib.cell?_alloc_some _ c0, Lib.cell?_alloc_some _ c1, Lib.cell?_alloc_some _ cn⟩) ?_
      clear hK K
      (try simp only [List.getElem_toArray, List.getElem_cons_succ, List.getElem_cons_zero, Act.put, List.setIfInBounds_toArray, List.set_cons_zero, List.set_cons_succ])
      refine AnyL.step (i := 10) (by kernel_rfl) rfl (fun K hK => ?_)
      (try simp only [List.getElem_toArray, List.getElem_cons_succ, List.getElem_cons_zero])
      go_simp
      refine hK.out _ _ (.inl (by kernel_rfl)) ?_
      clear hK K
      (try simp only [List.getElem_toArray, List.getElem_cons_succ, List.getElem_cons_zero, Act.put, List.setIfInBounds_toArray, List.set_cons_zero, List.set_cons_succ])
      refine AnyL.done (by kernel_rfl) ?_ _
      dsimp only [OnNormal]
      obtain ⟨W4, hW4⟩ : ∃ W4, (W3.alloc (.cells #[.int .i64 (v.2.1 + v.1.bt)] 3)).drew = W4 := ⟨_, rfl⟩
      have hb34 : Below W3.heap.size W3 W4 := by rw [← hW4]; exact (below_alloc _ _).drew
      have hat4 : W4.heap[W3.heap.size]? = some (.cells #[.int .i64 (v.2.1 + v.1.bt)] 3 (0, 0)) := by
        rw [← hW4]
        exact heap_alloc_new W3 (.cells #[.int .i64 (v.2.1 + v.1.bt)] 3)
      rw [hW4]
      clear hW4 c0 c1 cn hH
      have hb4 := hb3.trans (hb34.mono hb3.size)
      have hvb4 := (hb34.block _ (Array.getElem?_eq_some_iff.1 hvb3).1).trans hvb3
      obtain ⟨A, ck, hks⟩ := (HVI.out.kidsAt).val
      have c0 : W4.cell? ⟨wr.heap.size, 0, none⟩ = some (.pointer (some ⟨v.1.b, 0, none⟩)) := cell_of_heap hvb4 rfl
      have cn : W4.cell? ⟨v.1.b, 10, none⟩ = some (.slice A v.1.kids.length ck) := by rw [← hks]; exact (HVI.out.below hb4).cells.c10
      have hbk := callsIn_wide (n := n - 1) |>.2 (back_call A v.1.kids.length ck W4)
      gi_wp2_with (first | (refine ⟨trivial, fun h => (by simp [Fence.wide] at h), ?_⟩; gi_at_call 86; refine hbk.mono ?_; rintro e w5 ⟨rfl, h5⟩; rw [h5]; clear h5 hbk))
      have hkid := HVI.out.kidsAt
      obtain ⟨W5, hW5⟩ : ∃ W5, W4.alloc (.cells #[.slice A v.1.kids.length ck] 45) = W5 := ⟨_, rfl⟩
      have hb45 : Below W4.heap.size W4 W5 := by rw [← hW5]; exact below_alloc _ _
      have hbb5 : W5.heap[W4.heap.size]? = some (.cells #[.slice A v.1.kids.length ck] 45 (0, 0)) := by rw [← hW5]; exact heap_alloc_new _ _
      have hsz5 : W5.heap.size = W4.heap.size + 1 := by rw [← hW5]; simp
      rw [hW5]
      clear hW5 c0 cn hvb4
      have hb35 : Below W3.heap.size W3 W5 := hb34.trans (hb45.mono hb34.size)
      have hb5 := hb3.trans (hb35.mono hb3.size)
      have hvok := Nd.WF.ok v.1 HVW.out
      have hkl : v.1.kids.length ≤ 262144 := hvok.klen
      have hsz34 := hb34.size
      have hszy3 := hk3.below.size
      have hkidsat : KidsAt w₀.heap.size W5 (.slice A v.1.kids.length ck) v.1.kids := by
        rw [← hks]
        exact ⟨hkid.val, fun i hi => by
          obtain ⟨g, c, e1, e2, e3⟩ := hkid.get i hi
          exact ⟨g, c, e1, e2, (hb5.cell (p := ⟨g, i, none⟩) e2).trans e3⟩⟩
      have hrow3 : W3.ownsRow W.heap.size 120 3 (.slice (some ⟨g3, 0, none⟩) rest.length c) rest.length (rest.reverse.flatMap vcells) := by
        obtain ⟨cur, hc⟩ : ∃ cur, Wy.heap[g3]? = some (.cells cur 120 (0, 0)) := by
          rcases HROWY.out.2 with ⟨h, _⟩ | ⟨g, c', cur, h, _, h3, _⟩
          · cases h
          · cases h; exact ⟨cur, h3⟩
        exact ownsRow_of_block HROWY.out (w' := W3) (fun k hk => by
          have hk' : g3 = k := by simpa [Value.ownBlock] using hk
          subst hk'
          rw [hc]
          exact hk3.keep hc (by simp))
      have hrow5 := ownsRow_of_block hrow3 (w' := W5) (fun k hk => hb35.block k (hrow3.lt k hk).2)
      have hi0 : I85 w₀ W3 W.heap.size (W.heap.size + 1) W3.heap.size wr.heap.size [33, 120, 136, 3, 45] v rest v.1.kids.length (v.2.1 + v.1.bt) (.slice (some ⟨g3, 0, none⟩) rest.length c) W5 := by
        refine ⟨(hb35.block _ (Array.getElem?_eq_some_iff.1 hbt3).1).trans hbt3, (hb45.block _ (Array.getElem?_eq_some_iff.1 hat4).1).trans hat4, ?_, (hb35.block _ (Array.getElem?_eq_some_iff.1 hvb3).1).trans hvb3, ?_, ?_, AT.of_below hb35 (Nat.le_trans (by omega) hszy3)⟩
        · intro h0
          rw [List.take_length]
          rcases HVW.out.cases with ⟨_, h2, _⟩ | ⟨_, _, _, h4, _⟩
          · rw [h2] at h0; simp at h0
          · rw [h4]
        · rw [List.drop_length]
          exact hrow5
        · intro e
          have e' : wr.heap.size = g3 := by simpa [Value.ownBlock] using e
          omega
      refine wpIn_rangeT (gf := 89) (lb := #[.pointer (some ⟨W4.heap.size, 0, none⟩)]) rfl (enters_of Try.func89 (by kernel_rfl) rfl) (back1_gives v.1.kids (.slice A v.1.kids.length ck) W4.heap.size w₀.heap.size W5 (by omega) hbb5 hkidsat (by omega)) (Below.refl _ _) (by omega) (fun _ => rfl)
        (fun p Wc => ∃ i y tv, p.length + i = v.1.kids.length ∧ I85 w₀ W3 W.heap.size (W.heap.size + 1) W3.heap.size wr.heap.size [33, 120, 136, 3, 45] v rest i y tv Wc)
        (fun p X Y ⟨i, y, tv, h1, h2⟩ hat => ⟨i, y, tv, h1, h2.abides hat (by omega) (by simp)⟩)
        ⟨v.1.kids.length, _, _, by simp, hi0⟩
        (fun x a' _ => a' = { tmps := List.toArray (((.func (.yield l) #[] #[]) : Value) :: ((.pointer (some ⟨bn, 0, none⟩)) : Value) :: undef :: ((.pointer (some ⟨W.heap.size + 1, 0, none⟩)) : Value) :: ((.pointer (some ⟨wr.heap.size, 0, none⟩)) : Value) :: ((.pointer (some ⟨W3.heap.size, 0, none⟩)) : Value) :: undef :: kp v.1.kids x :: ((.pointer (some ⟨root.b, 0, none⟩)) : Value) :: ((.bool true) : Value) :: ((.bool false) : Value) :: ((.pointer (some ⟨root.b, 0, none⟩)) : Value) :: ((.agg #[.pointer (some ⟨root.b, 0, none⟩), .int .i64 0, .int .i64 0]) : Value) :: ((.slice (some ⟨W.heap.size, 0, none⟩) 1 1) : Value) :: ((.slice (some ⟨g3, 0, none⟩) (rest.length + 1) c) : Value) :: ((.int .i64 ((rest.length : Int) + 1)) : Value) :: ((.bool true) : Value) :: ((.slice (some ⟨g3, 0, none⟩) (rest.length + 1) c) : Value) :: ((.slice (some ⟨g3, 0, none⟩) (rest.length + 1) c) : Value) :: ((.int .i64 ((rest.length : Int) + 1)) : Value) :: ((.int .i64 (rest.length : Int)) : Value) :: ((.pointer (some ⟨g3, rest.length * 3, none⟩)) : Value) :: ((.agg #[.pointer (some ⟨v.1.b, 0, none⟩), .int .i64 v.2.1, .int .i64 v.2.2]) : Value) :: ((.slice (some ⟨g3, 0, none⟩) (rest.length + 1) c) : Value) :: ((.slice (some ⟨g3, 0, none⟩) (rest.length + 1) c) : Value) :: ((.int .i64 ((rest.length : Int) + 1)) : Value) :: ((.int .i64 (rest.length : Int)) : Value) :: ((.slice (some ⟨g3, 0, none⟩) rest.length c) : Value) :: ((.func (.yield l) #[] #[]) : Value) :: ((.agg #[.pointer (some ⟨v.1.b, 0, none⟩), .int .i64 v.2.1, .int .i64 v.2.2]) : Value) :: ((.bool true) : Value) :: ((.bool false) : Value) :: ((.pointer (some ⟨wr.heap.size, 1, none⟩)) : Value) :: ((.int .i64 v.2.1) : Value) :: ((.pointer (some ⟨wr.heap.size, 0, none⟩)) : Value) :: ((.pointer (some ⟨v.1.b, 0, none⟩)) : Value) :: ((.pointer (some ⟨v.1.b, 0, none⟩)) : Value) :: ((.pointer (some ⟨v.1.b, 0, none⟩)) : Value) :: ((.pointer (some ⟨v.1.b, 1, none⟩)) : Value) :: ((.int .i64 v.1.bt) : Value) :: ((.int .i64 (v.2.1 + v.1.bt)) : Value) :: ((.pointer (some ⟨wr.heap.size, 0, none⟩)) : Value) :: ((.pointer (some ⟨v.1.b, 0, none⟩)) : Value) :: ((.pointer (some ⟨v.1.b, 0, none⟩)) : Value) :: ((.pointer (some ⟨v.1.b, 10, none⟩)) : Value) :: ((.slice A v.1.kids.length ck) : Value) :: ((.func (.func 89) #[] #[.pointer (some ⟨W4.heap.size, 0, none⟩)]) : Value) :: ((.int .i64 (x : Int)) : Value) :: kp v.1.kids x :: undef :: undef :: undef :: undef :: undef :: undef :: undef :: undef :: undef :: undef :: undef :: undef :: undef :: undef :: undef :: undef :: []), defers := [] })
        (fun _ _ _ _ h _ => h) ?assign ?body ?done
      case assign =>
        intro l2 m2 p x W6 hI _ _
        gi_wp2_with fail
        exact ⟨by first | rfl | trivial, KT.refl _ _ _, hI⟩
      case body =>
        rintro l2 m2 p x rs a₁ W6 hxs ⟨i, y, tv, hpi, hI⟩ rfl
        obtain ⟨_, hpx⟩ := down_at hxs
        obtain rfl : i = x + 1 := by omega
        have hxl : x < v.1.kids.length := by omega
        have hkm : v.1.kids[x] ∈ v.1.kids := List.getElem_mem hxl
        have hkin := HVI.out.head.2.2 _ hkm
        have hkwf := HVW.out.kid _ hkm
        have hkok := Nd.WF.ok _ hkwf
        have hks1 := hvok.kbt _ hkm
        have hb6 := hb3.trans hI.rel.below
        have hyv := hI.ay (by omega)
        rw [sumBt_take_succ hxl] at hyv
        have hst0 : 0 ≤ sumBt (v.1.kids.take x) := (sumBt_ge fun q hq => (Nd.WF.ok q (HVW.out.kid q (List.mem_of_mem_take hq))).bt0).1
        have hkd := kidsV_drop v.2.1 (v.2.2 + 1) hxl
        have hle := sumBt_take_le (l := v.1.kids) (fun q hq => (Nd.WF.ok q (HVW.out.kid q hq)).bt0) x
        have hle2 := HVW.out.sum.2
        rw [kp_at hxl]
        have hkb := (hkin.below hb6).cells.c1
        obtain ⟨kd, hkd0⟩ : ∃ kd, kd = v.1.kids[x] := ⟨_, rfl⟩
        rw [← hkd0] at hkd hkin hkwf hkok hks1 hyv hkb ⊢
        have b1 := hkok.bt0
        have b2 := hkok.bt1
        have hw2 : IntKind.i64.wrap (y - kd.bt) = v.2.1 + sumBt (v.1.kids.take x) := by rw [IntKind.wrap_i64]; omega
        have hw3 : IntKind.i64.wrap (v.2.2 + 1) = v.2.2 + 1 := by have := hvok.ht1; rw [IntKind.wrap_i64]; omega
        have e0 : W6.cell? ⟨W3.heap.size, 0, none⟩ = some (.int .i64 y) := cell_of_heap hI.at_ rfl
        have z0 : W6.frozen? ⟨W3.heap.size, 0, none⟩ = false := frozen_of_heap hI.at_
        unfold Nd.ptr
        have HI := Lib.hid hI
        have HKD := Lib.hid hkd
        have HKD0 := Lib.hid hkd0
        have HYV := Lib.hid hyv
        clear hI hkd hkd0 hyv hi0 hrow5 hrow3
        gi_wp2_with fail
        refine wpIn_region_free (free_round l2) (S := fun W => W.cell? ⟨W3.heap.size, 0, none⟩ = some (.int .i64 y) ∧ W.cell? ⟨kd.b, 1, none⟩ = some (.int .i64 kd.bt)) hm (by rfl) ⟨e0, hkb⟩ 8 rfl (fun hH => ?_)
        refine AnyL.take (i := 0) (v := ?_) rfl (by kernel_rfl) (by kernel_rfl) (by kernel_rfl) (fun _ _ _ h => h) (Or.inl ⟨by rfl, ?_⟩) hH ?_
        rotate_left
        · (intro w hSw; (try dsimp only at hSw); go_simp; (try with_reducible rfl))
        (try simp only [List.getElem_toArray, List.getElem_cons_succ, List.getElem_cons_zero, Act.put, List.setIfInBounds_toArray, List.set_cons_zero, List.set_cons_succ])
        refine AnyL.take (i := 1) (v := ?_) rfl (by kernel_rfl) (by kernel_rfl) (by kernel_rfl) (fun _ _ _ h => h) (Or.inl ⟨by rfl, ?_⟩) hH ?_
        rotate_left
        · (intro w hSw; (try dsimp only at hSw); go_simp; (try with_reducible rfl))
        (try simp only [List.getElem_toArray, List.getElem_cons_succ, List.getElem_cons_zero, Act.put, List.setIfInBounds_toArray, List.set_cons_zero, List.set_cons_succ])
        refine AnyL.take (i := 2) (v := ?_) rfl (by kernel_rfl) (by kernel_rfl) (by kernel_rfl) (fun _ _ _ h => h) (Or.inl ⟨by rfl, ?_⟩) hH ?_
        rotate_left
        · (intro w hSw; (try dsimp only at hSw); go_simp; (try with_reducible rfl))
        (try simp only [List.getElem_toArray, List.getElem_cons_succ, List.getElem_cons_zero, Act.put, List.setIfInBounds_toArray, List.set_cons_zero, List.set_cons_succ])
        refine AnyL.take (i := 3) (v := ?_) rfl (by kernel_rfl) (by kernel_rfl) (by kernel_rfl) (fun _ _ _ h => h) (Or.inl ⟨by rfl, ?_⟩) hH ?_
        rotate_left
        · (intro w hSw; (try dsimp only at hSw); go_simp; (try with_reducible rfl))
        (try simp only [List.getElem_toArray, List.getElem_cons_succ, List.getElem_cons_zero, Act.put, List.setIfInBounds_toArray, List.set_cons_zero, List.set_cons_succ])
        refine AnyL.take (i := 4) (v := ?_) rfl (by kernel_rfl) (by kernel_rfl) (by kernel_rfl) (fun _ _ _ h => h) (Or.inl ⟨by rfl, ?_⟩) hH ?_
        rotate_left
        · (intro w hSw; (try dsimp only at hSw); go_simp; (try with_reducible rfl))
        (try simp only [List.getElem_toArray, List.getElem_cons_succ, List.getElem_cons_zero, Act.put, List.setIfInBounds_toArray, List.set_cons_zero, List.set_cons_succ])
        refine AnyL.take (i := 5) (v := ?_) rfl (by kernel_rfl) (by kernel_rfl) (by kernel_rfl) (fun _ _ _ h => h) (Or.inl ⟨by rfl, ?_⟩) hH ?_
        rotate_left
        · (intro w hSw; (try dsimp only at hSw); go_simp; (try with_reducible rfl))
        (try simp only [List.getElem_toArray, List.getElem_cons_succ, List.getElem_cons_zero, Act.put, List.setIfInBounds_toArray, List.set_cons_zero, List.set_cons_succ])
        refine AnyL.take (i := 6) (v := ?_) rfl (by kernel_rfl) (by kernel_rfl) (by kernel_rfl) (fun _ _ _ h => h) (Or.inl ⟨by rfl, ?_⟩) hH ?_
        rotate_left
        · (intro w hSw; (try dsimp only at hSw); go_simp; (try with_reducible rfl))
        (try simp only [List.getElem_toArray, List.getElem_cons_succ, List.getElem_cons_zero, Act.put, List.setIfInBounds_toArray, List.set_cons_zero, List.set_cons_succ])
        refine AnyL.step (i := 7) (by kernel_rfl) rfl (fun K hK => ?_)
        (try simp only [List.getElem_toArray, List.getElem_cons_succ, List.getElem_cons_zero])
        go_simp
        refine hK.out _ _ (.inl (by kernel_rfl)) ?_
        clear hK K
        (try simp only [List.getElem_toArray, List.getElem_cons_succ, List.getElem_cons_zero, Act.put, List.setIfInBounds_toArray, List.set_cons_zero, List.set_cons_succ])
        refine AnyL.done (by kernel_rfl) ?_ _
        dsimp only [OnNormal]
        clear hH
        obtain ⟨ny, hny⟩ : ∃ ny, ny = v.2.1 + sumBt (v.1.kids.take x) := ⟨_, rfl⟩
        rw [← hny]
        obtain ⟨W7, hW7⟩ : ∃ W7, (W6.setCell ⟨W3.heap.size, 0, none⟩ (.int .i64 ny)).drew = W7 := ⟨_, rfl⟩
        have hsz7 : W7.heap.size = W6.heap.size := by rw [← hW7]; simp [World.drew]
        have hblk : ∀ k, k ≠ W3.heap.size → W7.heap[k]? = W6.heap[k]? := fun k hk => by rw [← hW7]; exact Below.heap_setCell _ _ _ _ hk
        have hat7 : W7.heap[W3.heap.size]? = some (.cells #[.int .i64 ny] 3 (0, 0)) := by rw [← hW7]; exact setCell_heap (i := 0) HI.out.at_ _
        have hn3 : w₀.heap.size ≤ W3.heap.size := hb3.size
        have hn6 : W3.heap.size ≤ W6.heap.size := HI.out.rel.below.size
        have kt7 : KT [45] w₀.heap.size W6 W7 := by
          rw [← hW7]
          exact ((KT.refl _ _ W6).setCell (p := ⟨W3.heap.size, 0, none⟩) hn3 HI.out.at_ (by decide) _).trans ⟨(Below.refl _ _).drew, fun k o hk _ => hk⟩
        have at7 : AT [33, 120, 136, 3, 45] w₀.heap.size W3.heap.size W6 W7 := by
          rw [← hW7]
          exact ((AT.refl _ _ _ W6).setCell (p := ⟨W3.heap.size, 0, none⟩) hn3 HI.out.at_ (by decide) _).trans ⟨(Below.refl _ _).drew, fun k o hk _ _ => hk⟩
        have hbox7 := (hblk (W.heap.size + 1) (by omega)).trans HI.out.box
        have hvb7 := (hblk wr.heap.size (by omega)).trans HI.out.vbx
        have hrow7 := ownsRow_of_block HI.out.row (w' := W7) (fun k hk => hblk k (fun e => own_ne HI.out.row HI.out.at_ (by decide) (by rw [hk, e])))
        have hvbr := HI.out.vbr
        rw [hW7]
        clear hW7 hblk e0 z0 hkb
        have hql : (kidsV (v.2.1 + sumBt (v.1.kids.take (x + 1))) (v.2.2 + 1) (v.1.kids.drop (x + 1)) ++ rest).length ≤ 300000 := by
          rw [List.length_append, kidsV_len, List.length_drop]; omega
        have HQ := Lib.hid (show (kidsV (v.2.1 + sumBt (v.1.kids.take x)) (v.2.2 + 1) (v.1.kids.drop x) ++ rest).length = (kidsV (v.2.1 + sumBt (v.1.kids.take (x + 1))) (v.2.2 + 1) (v.1.kids.drop (x + 1)) ++ rest).length + 1 ∧
            (kidsV (v.2.1 + sumBt (v.1.kids.take x)) (v.2.2 + 1) (v.1.kids.drop x) ++ rest).reverse.flatMap vcells = (kidsV (v.2.1 + sumBt (v.1.kids.take (x + 1))) (v.2.2 + 1) (v.1.kids.drop (x + 1)) ++ rest).reverse.flatMap vcells ++ [.pointer (some ⟨kd.b, 0, none⟩), .int .i64 ny, .int .i64 (v.2.2 + 1)] by
          rw [HKD.out, hny]
          refine ⟨rfl, ?_⟩
          rw [List.cons_append, List.reverse_cons, List.flatMap_append]
          rfl)
        generalize kidsV (v.2.1 + sumBt (v.1.kids.take (x + 1))) (v.2.2 + 1) (v.1.kids.drop (x + 1)) ++ rest = st7 at hrow7 hql HQ
        obtain ⟨A2, c2, htv⟩ := row_any hrow7
        subst htv
        have f0 : W7.cell? ⟨W.heap.size + 1, 0, none⟩ = some (.slice A2 st7.length c2) := cell_of_heap hbox7 rfl
        have f1 : W7.cell? ⟨W3.heap.size, 0, none⟩ = some (.int .i64 ny) := cell_of_heap hat7 rfl
        have f2 : W7.cell? ⟨wr.heap.size, 2, none⟩ = some (.int .i64 v.2.2) := cell_of_heap hvb7 rfl
        have hl7 : W.heap.size + 1 < W7.heap.size := by omega
        have hm7 : W.heap.size ≤ W7.heap.size := by omega
        have HSZ7 := Lib.hid hsz7
        clear hsz7
        have HBOX7 := Lib.hid hbox7
        have HAT7 := Lib.hid hat7
        have HVB7 := Lib.hid hvb7
        have HROW7 := Lib.hid hrow7
        have HVBR := Lib.hid hvbr
        have HNY := Lib.hid hny
        have HKT7 := Lib.hid kt7
        have HAT77 := Lib.hid at7
        clear hbox7 hat7 hvb7 hvbr hny kt7 at7 hrow7
        gi_wp2_with (first | (gi_at_builtin; refine wpListIn_push rfl (.tmp 56) (.tmp 63) 136 rfl 120 _ 3 24 info120 Try.underlying136 rfl (by decide) W.heap.size (.slice A2 st7.length c2) st7.length (st7.reverse.flatMap vcells) rfl HROW7.out [.pointer (some ⟨kd.b, 0, none⟩), .int .i64 ny, .int .i64 (v.2.2 + 1)] rfl rfl (by simp [Value.oneCell']) (by omega) (by omega) (by omega) ?_; intro g9 c9 W9 hown9 hgr9 hg9; have G9 := (hgr9.block (W.heap.size + 1) (by simp; omega) (own_ne HROW7.out HBOX7.out (by decide))).trans ((Below.heap_alloc _ _ _ hl7).trans HBOX7.out); have f9 := cell_of_heap (i := 0) (v := .slice A2 st7.length c2) G9 rfl; have z9 : W9.frozen? ⟨W.heap.size + 1, 0, none⟩ = false := frozen_of_heap G9; have HG9 := Lib.hid G9; have HOWN9 := Lib.hid hown9; have HGR9 := Lib.hid hgr9; have HGG9 := Lib.hid hg9; clear G9 hown9 hgr9 hg9))
        have hsz7 := HSZ7.out
        have al7 := below_alloc W7 (.cells #[.pointer (some ⟨kd.b, 0, none⟩), .int .i64 ny, .int .i64 (v.2.2 + 1)] 120)
        have hgr := HGR9.out
        have hrb := row_block (HROW7.out.alloc (.cells #[.pointer (some ⟨kd.b, 0, none⟩), .int .i64 ny, .int .i64 (v.2.2 + 1)] 120))
        have hals := al7.size
        have kt9 : KT [45] w₀.heap.size W7 W9 := (KT.of_below al7 (by omega)).grown hgr (Nat.le_trans (by omega) hals) (fun k hk => by
          obtain ⟨h1, c, h2⟩ := hrb k hk
          exact ⟨by omega, c, _, _, h2, by decide⟩)
        have at9 : AT [33, 120, 136, 3, 45] w₀.heap.size W3.heap.size W7 W9 := (AT.of_below al7 (by omega)).grown hgr (Nat.le_trans (by omega) hals) (fun k hk => by
          obtain ⟨h1, c, h2⟩ := hrb k hk
          exact ⟨by omega, c, _, _, h2, by decide⟩)
        have hlt9 : ∀ {k : Nat} {o : Obj}, W7.heap[k]? = some o → k < (W7.alloc (.cells #[.pointer (some ⟨kd.b, 0, none⟩), .int .i64 ny, .int .i64 (v.2.2 + 1)] 120)).heap.size := fun h => Nat.lt_of_lt_of_le (Array.getElem?_eq_some_iff.1 h).1 hals
        have hat9 := (hgr.block _ (hlt9 HAT7.out) (own_ne HROW7.out HAT7.out (by decide))).trans ((Below.heap_alloc _ _ _ (Array.getElem?_eq_some_iff.1 HAT7.out).1).trans HAT7.out)
        have hvb9 := (hgr.block _ (hlt9 HVB7.out) HVBR.out).trans ((Below.heap_alloc _ _ _ (Array.getElem?_eq_some_iff.1 HVB7.out).1).trans HVB7.out)
        have hvlt := (Array.getElem?_eq_some_iff.1 HVB7.out).1
        obtain ⟨q1, q2⟩ := HQ.out
        refine ⟨(HKT7.out.trans kt9).setCell (p := ⟨W.heap.size + 1, 0, none⟩) (by show _ ≤ W.heap.size + 1; omega) HG9.out (by decide) _, x, ny, .slice (some ⟨g9, 0, none⟩) (st7.length + 1) c9, by rw [List.length_append, List.length_singleton]; omega, ?_⟩
        refine ⟨setCell_heap (i := 0) HG9.out _, (Below.heap_setCell _ _ _ _ (by show W3.heap.size ≠ W.heap.size + 1; omega)).trans hat9, fun _ => HNY.out, (Below.heap_setCell _ _ _ _ (by show wr.heap.size ≠ W.heap.size + 1; omega)).trans hvb9, ?_, ?_, ?_⟩
        · rw [q1, q2]
          exact ownsRow_of_block HOWN9.out (fun k hk => Below.heap_setCell _ _ _ _ (fun e => own_ne HOWN9.out HG9.out (by decide) (by rw [hk]; exact congrArg some e.symm)))
        · intro e
          have e' : wr.heap.size = g9 := by simpa [Value.ownBlock] using e
          rcases HGG9.out with h | h
          · exact HVBR.out (by rw [h, e'])
          · omega
        · exact HI.out.rel.trans (HAT77.out.trans (at9.setCell (p := ⟨W.heap.size + 1, 0, none⟩) (by show _ ≤ W.heap.size + 1; omega) HG9.out (by decide) _))
      case done =>
        rintro D W8 hD ⟨i, y, tv, hpi, hI⟩ hDW
        rw [down_len] at hpi
        obtain rfl : i = 0 := by omega
        have hk0 : kidsV (v.2.1 + sumBt (v.1.kids.take 0)) (v.2.2 + 1) (v.1.kids.drop 0) = kidsV v.2.1 (v.2.2 + 1) v.1.kids := by
          rw [List.take_zero, List.drop_zero, sumBt_nil, Int.add_zero]
        have hrow := hI.row
        rw [hk0] at hrow
        have hn8 := hI.rel.below.size
        have hm3 : W.heap.size ≤ W3.heap.size := by omega
        show K _ _
        refine hK _ _ (Handed.intro ((kidsV v.2.1 (v.2.2 + 1) v.1.kids ++ rest).flatMap preV).length ?_ (hJ' _ _ _ ⟨kidsV v.2.1 (v.2.2 + 1) v.1.kids ++ rest, pre ++ [v], D :: ds, tv, _, _, _, _, _, _, _, _, _, _, _, _, _, _, _, _, _, _, _, _, _, _, _, _, _, _, _, _, _, _, _, _, _, _, _, rfl, ?_⟩))
        · rw [← HL.out.g, List.flatMap_cons, List.flatMap_append, preV_eq v, List.length_append, List.length_append, List.length_cons]
          omega
        · refine ⟨?_, HJ.out _ _ _ hJ3 (hI.rel.mono' hm3), hI.box, hrow, ?_, hb3.trans hI.rel.below, ?_, ?_, rfl, by omega⟩
          · rw [HXS.out, List.flatMap_append, List.append_assoc]
            rfl
          · intro u hu
            rcases List.mem_append.1 hu with hu | hu
            · obtain ⟨k1, k2, k3, k4⟩ := kidsV_ok (v.2.2 + 1) v.1.kids v.2.1 (fun q hq => (Nd.WF.ok q (HVW.out.kid q hq)).bt0) u hu
              have ks := HVW.out.sum.2
              have kh := hvok.kht _ k1
              exact ⟨HVI.out.head.2.2 _ k1, HVW.out.kid _ k1, by omega, by omega, by omega, by omega⟩
            · exact HL.out.ok u (List.mem_cons_of_mem _ hu)
          · refine List.nodup_cons.2 ⟨fun h => ?_, HDS.out.1⟩
            have := (Array.getElem?_eq_some_iff.1 (HMY.out D h)).1
            have := hb35.size
            omega
          · intro D' hD'
            rcases List.mem_cons.1 hD' with rfl | hD'
            · exact ⟨by have := hb35.size; omega, hDW⟩
            · have h3 := hk3.same _ _ (HMY.out D' hD') (.inr rfl)
              exact ⟨(HDS.out.2 D' hD').1, hI.rel.same _ _ h3 (InT.not_of rfl) (.inr (Array.getElem?_eq_some_iff.1 h3).1)⟩

end Go.Proofs.Ytcjpmgfobnaoeaa

/- nodes.Leaves: the tokens of a tree. -/
namespace Go.Proofs.Ytcjpmgfobnaoeaa
set_option linter.unusedVariables false
set_option linter.unusedSimpArgs false
open Go.RowKit Go.Shelf
attribute [local go_sem] Oper.semAt_some

/-- The tokens of visits: kind, lead, width. -/
def tokV (v : Vs) : List (Int × Int × Int) := if v.1.pr < 0 then [(v.1.sy, v.1.ld, v.1.wd)] else []
def tokC (t : Int × Int × Int) : List Value := [.int .i64 t.1, .int .i64 t.2.1, .int .i64 t.2.2]
theorem info72 : (Try.prog.info? 72).map (fun i => (i.zero, i.size, i.bytes)) = some (some (.agg #[.int .i64 0, .int .i64 0, .int .i64 0]), 3, 24) := by kernel_rfl

/-- What holds of a node and goes down to its kids holds of all that is visited. -/
theorem preN_all {p : Nd → Prop} (hp : ∀ m, p m → ∀ k ∈ m.kids, p k) : ∀ n : Nd, p n → ∀ a d, ∀ v ∈ preN a d n, p v.1 := by
  refine Nd.ind ?_
  intro n ih h a d v hv
  have hk : ∀ l : List Nd, (∀ k ∈ l, k ∈ n.kids) → ∀ a d, ∀ v ∈ preK a d l, p v.1 := by
    intro l
    induction l with
    | nil => intro _ a d v hv; simp [preK] at hv
    | cons k ks ihl =>
      intro hl a d v hv
      rw [preK_cons] at hv
      rcases List.mem_append.1 hv with hv | hv
      · exact ih k (hl k (by simp)) (hp n h k (hl k (by simp))) a d v hv
      · exact ihl (fun m hm => hl m (by simp [hm])) _ _ v hv
  rw [preN_kids] at hv
  rcases List.mem_cons.1 hv with rfl | hv
  · exact h
  · exact hk n.kids (fun _ h => h) _ _ v hv

set_option maxRecDepth 100000 in
set_option maxHeartbeats 8000000 in
theorem leaves_call (n : Nd) (w : World) (hin : n.In w) (hwf : n.WF) (hcn : n.cnt ≤ 1000) : Calls Try.prog 42 #[n.ptr] w fun e w' =>
    ∃ v, e = .returned v ∧ w'.ownsRow w.heap.size 72 3 v ((preN 0 0 n).flatMap tokV).length (((preN 0 0 n).flatMap tokV).flatMap tokC) ∧ Below w.heap.size w w' := by
  refine (callsIn_wide (n := 3)).1 ?_
  have hb0 : ∀ W, W = (w.alloc (.cells #[.slice none 0 0] 25)).alloc (.cells #[n.ptr] 33) → Below w.heap.size w W ∧ W.heap[w.heap.size]? = some (.cells #[.slice none 0 0] 25 (0, 0)) ∧ W.heap[w.heap.size + 1]? = some (.cells #[n.ptr] 33 (0, 0)) := by
    rintro W rfl
    exact ⟨((Below.refl _ _).alloc (Nat.le_refl _) _).alloc (by simp) _, by rw [Below.heap_alloc _ _ _ (by simp)]; exact heap_alloc_new _ _, heap_new2 _ _ _⟩
  have hal := fun W => callsIn_wide (n := 2) |>.2 (all_call (some ⟨n.b, 0, none⟩) W)
  have HB := Lib.hid hb0
  have HIN := Lib.hid hin
  have HWF := Lib.hid hwf
  have HAL := Lib.hid hal
  clear hb0 hin hwf hal
  unfold Nd.ptr at HB ⊢
  refine callsIn_of_wp_marks Try.func42 rfl trivial ?_ rfl
  simp only [Try.ntmps42, List.size_toArray, List.length_cons, List.length_nil, Nat.reduceAdd, Nat.reduceSub, Array.replicate_succ, Array.replicate_zero, List.push_toArray, List.append_toArray, List.nil_append, List.cons_append]
  gi_wp2_with (first | (refine ⟨trivial, ?_⟩; gi_at_call 69; refine (HAL.out _).mono ?_; rintro e w5 ⟨rfl, h5⟩; rw [h5]; clear h5))
  obtain ⟨hb1, x0, x1⟩ := HB.out _ rfl
  have hsz1 : ((w.alloc (.cells #[.slice none 0 0] 25)).alloc (.cells #[.pointer (some ⟨n.b, 0, none⟩)] 33)).heap.size = w.heap.size + 2 := by simp
  generalize (w.alloc (.cells #[.slice none 0 0] 25)).alloc (.cells #[.pointer (some ⟨n.b, 0, none⟩)] 33) = W1 at *
  have hlen : ((preN 0 0 n).flatMap tokV).length ≤ 1000 := by
    have h : ∀ l : List Vs, (l.flatMap tokV).length ≤ l.length := by
      intro l
      induction l with
      | nil => simp
      | cons v l ih =>
        rw [List.flatMap_cons, List.length_append, List.length_cons]
        have : (tokV v).length ≤ 1 := by unfold tokV; split <;> simp
        omega
    have := h (preN 0 0 n)
    rw [preN_len] at this
    omega
  refine wpIn_rangeT (gf := 85) (lb := #[.pointer (some ⟨w.heap.size + 1, 0, none⟩)]) rfl (enters_of Try.func85 (by kernel_rfl) rfl) (all1_gives n w W1 (w.heap.size + 1) HIN.out HWF.out hcn hb1 x1) (Below.refl _ _) hb1.size (fun _ => rfl)
    (fun p Wc => ∃ tv, Wc.heap[w.heap.size]? = some (.cells #[tv] 25 (0, 0)) ∧ Wc.ownsRow w.heap.size 72 3 tv (p.flatMap tokV).length ((p.flatMap tokV).flatMap tokC) ∧ Below w.heap.size w Wc)
    (fun p X Y ⟨tv, h1, h2, h3⟩ hat => ⟨tv, hat.keep h1 (by decide), row_at h2 hat (by decide), h3.trans hat.below⟩)
    ⟨_, x0, World.ownsRow_nil _ _ _ _, hb1⟩
    (fun x a' Wc => ∃ bx, Wc.heap[bx]? = some (.cells #[.pointer (some ⟨x.1.b, 0, none⟩), .int .i64 x.2.1, .int .i64 x.2.2] 120 (0, 0)) ∧ a' = { tmps := #[((.pointer (some ⟨n.b, 0, none⟩)) : Value), undef, ((.slice none 0 0) : Value), (.pointer (some ⟨w.heap.size, 0, none⟩)), (.pointer (some ⟨bx, 0, none⟩)), undef, undef, (.pointer (some ⟨n.b, 0, none⟩)), (.func (.func 85) #[] #[.pointer (some ⟨w.heap.size + 1, 0, none⟩)]), (.agg #[.pointer (some ⟨x.1.b, 0, none⟩), .int .i64 x.2.1, .int .i64 x.2.2]), undef, undef, undef, undef, undef, undef, undef, undef, undef, undef, undef, undef], defers := [] })
    (fun x a' X Y ⟨bx, h1, h2⟩ hat => ⟨bx, hat.keep h1 (by decide), h2⟩) ?assign ?body ?done
  case assign =>
    rintro l m p x Wc ⟨tv, h1, h2, h3⟩ _ hs
    unfold visV Nd.ptr
    gi_wp2_with fail
    exact ⟨⟨Wc.heap.size, heap_alloc_new _ _, rfl⟩, KT.of_below (below_alloc _ _) (by omega), tv, (Below.heap_alloc _ _ _ (by omega)).trans h1, h2.alloc _, h3.alloc h3.size _⟩
  case body =>
    rintro l m p x rs a₁ Wc hxs ⟨tv, h1, h2, h3⟩ ⟨bx, hbx, rfl⟩
    have hmem : x ∈ preN 0 0 n := by rw [hxs]; simp
    have hwin := preN_in n HWF.out 0 0 x hmem
    have hxin : x.1.In w := preN_all (p := fun m => m.In w) (fun m hm => hm.head.2.2) n HIN.out 0 0 x hmem
    obtain ⟨L, hL⟩ : ∃ L, p.flatMap tokV = L := ⟨_, rfl⟩
    have hq : L.length ≤ 1000 := by
      rw [hxs, List.flatMap_append, List.length_append, hL] at hlen
      omega
    have HL := Lib.hid hL
    rw [hL] at h2
    clear hL
    obtain ⟨A, c, htv⟩ := row_any h2
    subst htv
    have hok := Nd.WF.ok _ hwin.wf
    have c0 : Wc.cell? ⟨bx, 0, none⟩ = some (.pointer (some ⟨x.1.b, 0, none⟩)) := cell_of_heap hbx rfl
    have hht := hok.ht1
    have H1 := Lib.hid h1
    have H2 := Lib.hid h2
    have hl1 := (Array.getElem?_eq_some_iff.1 h1).1
    by_cases hpr : x.1.pr < 0
    · have htk := CallsIn.inRound l (callsIn_wide (n := m - 1) |>.2 (token_leaf x.1 Wc (hxin.below h3) (by omega) hpr))
      have htv : tokV x = [(x.1.sy, x.1.ld, x.1.wd)] := by unfold tokV; rw [if_pos hpr]
      have HTV := Lib.hid htv
      unfold Nd.ptr at htk
      clear h1 h2 htv hwin hok hxs hmem hlen hbx
      gi_upto_region 6 with (first
        | (refine ⟨trivial, fun h => (by simp [Fence.wide] at h), ?_⟩; gi_at_call 60; refine htk.mono ?_; rintro e w2 ⟨rfl, hb2⟩))
      have hw3 : ∀ w3, w3 = w2.alloc (.cells #[.int .i64 x.1.sy, .int .i64 x.1.ld, .int .i64 x.1.wd] 72) → Below Wc.heap.size Wc w3 ∧ w3.heap[w2.heap.size]? = some (.cells #[.int .i64 x.1.sy, .int .i64 x.1.ld, .int .i64 x.1.wd] 72 (0, 0)) := by
        rintro w3 rfl
        exact ⟨hb2.alloc hb2.size _, heap_alloc_new _ _⟩
      obtain ⟨hb3, ht3⟩ := hw3 _ rfl
      generalize w2.alloc (.cells #[.int .i64 x.1.sy, .int .i64 x.1.ld, .int .i64 x.1.wd] 72) = w3 at *
      have hl3 := Nat.lt_of_lt_of_le hl1 hb3.size
      have E1 := Lib.hid ((hb3.block _ hl1).trans H1.out)
      have R2 := Lib.hid (ownsRow_of_block H2.out (w' := w3) (fun k hk => hb3.block k (H2.out.lt k hk).2))
      have f0 : w3.cell? ⟨w.heap.size, 0, none⟩ = some (.slice A L.length c) := cell_of_heap E1.out rfl
      have f1 : w3.cell? ⟨w2.heap.size, 0, none⟩ = some (.int .i64 x.1.sy) := cell_of_heap ht3 rfl
      have f2 : w3.cell? ⟨w2.heap.size, 1, none⟩ = some (.int .i64 x.1.ld) := cell_of_heap ht3 rfl
      have f3 : w3.cell? ⟨w2.heap.size, 2, none⟩ = some (.int .i64 x.1.wd) := cell_of_heap ht3 rfl
      clear hw3 ht3 htk
      gi_wp2_with (first
        | (gi_at_builtin; refine wpListIn_push rfl (.tmp 17) (.tmp 19) 25 rfl 72 _ 3 24 info72 Try.underlying25 rfl (by decide) w.heap.size (.slice A L.length c) L.length (L.flatMap tokC) rfl R2.out [.int .i64 x.1.sy, .int .i64 x.1.ld, .int .i64 x.1.wd] rfl rfl (by simp [Value.oneCell']) (by omega) (by omega) (by omega) ?_; intro g9 c9 W9 hown9 hgr9 hg9; have G9 := (hgr9.block w.heap.size (by simp; omega) (own_ne R2.out E1.out (by decide))).trans ((Below.heap_alloc _ _ _ hl3).trans E1.out); have f9 := cell_of_heap (i := 0) (v := .slice A L.length c) G9 rfl; have z9 : W9.frozen? ⟨w.heap.size, 0, none⟩ = false := frozen_of_heap G9; have HG9 := Lib.hid G9; have HOWN9 := Lib.hid hown9; have HGR9 := Lib.hid hgr9; clear G9 hown9 hgr9 hg9))
      have hbl := hb3.trans ((below_alloc w3 (.cells #[.int .i64 x.1.sy, .int .i64 x.1.ld, .int .i64 x.1.wd] 72)).mono hb3.size)
      have hbs := hbl.size
      have kt9 := (KT.of_below (T := [33, 120, 136, 3, 45]) (n₀ := w.heap.size) hbl (by omega)).grown HGR9.out (Nat.le_trans (by omega) hbs) (fun k hk => by
        obtain ⟨h1, c, h2⟩ := row_block (R2.out.alloc _) k hk
        exact ⟨by omega, c, _, _, h2, by decide⟩)
      have kt := kt9.setCell (p := ⟨w.heap.size, 0, none⟩) (Nat.le_refl _) HG9.out (by decide) (.slice (some ⟨g9, 0, none⟩) (L.length + 1) c9)
      refine ⟨kt, _, setCell_heap (i := 0) HG9.out _, ?_, h3.trans kt.below⟩
      rw [List.flatMap_append, List.flatMap_singleton, HTV.out, HL.out, List.flatMap_append, List.length_append]
      exact ownsRow_of_block HOWN9.out (fun k hk => Below.heap_setCell _ _ _ _ (fun e => own_ne HOWN9.out HG9.out (by decide) (by rw [hk]; exact congrArg some e.symm)))
    · have htk := CallsIn.inRound l (callsIn_wide (n := m - 1) |>.2 (token_node x.1 Wc (hxin.below h3) (by omega) (by omega)))
      have htv : tokV x = [] := by unfold tokV; rw [if_neg hpr]
      have HTV := Lib.hid htv
      unfold Nd.ptr at htk
      clear h1 h2 htv hwin hok hxs hmem hlen hbx
      gi_wp2_with (first
        | (refine ⟨trivial, fun h => (by simp [Fence.wide] at h), ?_⟩; gi_at_call 60; refine htk.mono ?_; rintro e w2 ⟨rfl, hb2⟩))
      have hbl := hb2.trans (((Below.refl w2.heap.size w2).alloc (Nat.le_refl _) (.cells #[.int .i64 0, .int .i64 0, .int .i64 0] 72)).mono hb2.size)
      have hn : w.heap.size ≤ Wc.heap.size := by omega
      refine ⟨KT.of_below hbl hn, _, (hbl.block _ hl1).trans H1.out, ?_, h3.trans (hbl.mono hn)⟩
      rw [List.flatMap_append, List.flatMap_singleton, HTV.out, HL.out, List.append_nil]
      exact ownsRow_of_block H2.out (fun k hk => hbl.block k (H2.out.lt k hk).2)
  case done =>
    rintro D Wc hD ⟨tv, h1, h2, h3⟩ hDW
    obtain ⟨L, hL⟩ : ∃ L, (preN 0 0 n).flatMap tokV = L := ⟨_, rfl⟩
    have HL := Lib.hid hL
    rw [hL] at h2
    clear hL
    obtain ⟨A, c, htv⟩ := row_any h2
    subst htv
    have c0 : Wc.cell? ⟨w.heap.size, 0, none⟩ = some (.slice A L.length c) := cell_of_heap h1 rfl
    have H2 := Lib.hid h2
    have HDW := Lib.hid hDW
    clear h1 h2 hDW hlen
    gi_wp2_with fail
    refine leaves_marks (T := []) (n₀ := w.heap.size) (m := w.heap.size) [D] Wc (by simp) (fun D' hD' => ?_) (fun W' hat => ⟨.slice A L.length c, (by simp [results, Try.results42, go_sem]), .slice A L.length c, rfl, (by rw [HL.out]; exact row_at H2.out hat (by simp)), h3.trans hat.below⟩)
    obtain rfl := List.mem_singleton.1 hD'
    exact ⟨by omega, by omega, HDW.out⟩

end Go.Proofs.Ytcjpmgfobnaoeaa

/- nodes.Spots: the places of a tree. -/
namespace Go.Proofs.Ytcjpmgfobnaoeaa
set_option linter.unusedVariables false
set_option linter.unusedSimpArgs false
open Go.RowKit Go.Shelf
attribute [local go_sem] Oper.semAt_some

set_option maxRecDepth 100000 in
set_option maxHeartbeats 8000000 in
theorem spots_call (n : Nd) (w : World) (hin : n.In w) (hwf : n.WF) (hcn : n.cnt ≤ 1000) : Calls Try.prog 31 #[n.ptr] w fun e w' =>
    ∃ v, e = .returned v ∧ w'.ownsRow w.heap.size 66 5 v (preN 0 0 n).length (spots (spotsN n)) ∧ Below w.heap.size w w' := by
  refine (callsIn_wide (n := 3)).1 ?_
  have hb0 : ∀ W, W = (w.alloc (.cells #[.slice none 0 0] 50)).alloc (.cells #[n.ptr] 33) → Below w.heap.size w W ∧ W.heap[w.heap.size]? = some (.cells #[.slice none 0 0] 50 (0, 0)) ∧ W.heap[w.heap.size + 1]? = some (.cells #[n.ptr] 33 (0, 0)) := by
    rintro W rfl
    exact ⟨((Below.refl _ _).alloc (Nat.le_refl _) _).alloc (by simp) _, by rw [Below.heap_alloc _ _ _ (by simp)]; exact heap_alloc_new _ _, heap_new2 _ _ _⟩
  have hal := fun W => callsIn_wide (n := 2) |>.2 (all_call (some ⟨n.b, 0, none⟩) W)
  have HB := Lib.hid hb0
  have HIN := Lib.hid hin
  have HWF := Lib.hid hwf
  have HAL := Lib.hid hal
  clear hb0 hin hwf hal
  unfold Nd.ptr at HB ⊢
  refine callsIn_of_wp_marks Try.func31 rfl trivial ?_ rfl
  simp only [Try.ntmps31, List.size_toArray, List.length_cons, List.length_nil, Nat.reduceAdd, Nat.reduceSub, Array.replicate_succ, Array.replicate_zero, List.push_toArray, List.append_toArray, List.nil_append, List.cons_append]
  gi_wp2_with (first | (refine ⟨trivial, ?_⟩; gi_at_call 69; refine (HAL.out _).mono ?_; rintro e w5 ⟨rfl, h5⟩; rw [h5]; clear h5))
  obtain ⟨hb1, x0, x1⟩ := HB.out _ rfl
  have hsz1 : ((w.alloc (.cells #[.slice none 0 0] 50)).alloc (.cells #[.pointer (some ⟨n.b, 0, none⟩)] 33)).heap.size = w.heap.size + 2 := by simp
  generalize (w.alloc (.cells #[.slice none 0 0] 50)).alloc (.cells #[.pointer (some ⟨n.b, 0, none⟩)] 33) = W1 at *
  have hlen : (preN 0 0 n).length ≤ 1000 := by rw [preN_len]; exact hcn
  have hm : Try.prog.follows .mixedOrders = true := by kernel_rfl
  refine wpIn_rangeT (gf := 85) (lb := #[.pointer (some ⟨w.heap.size + 1, 0, none⟩)]) rfl (enters_of Try.func85 (by kernel_rfl) rfl) (all1_gives n w W1 (w.heap.size + 1) HIN.out HWF.out hcn hb1 x1) (Below.refl _ _) hb1.size (fun _ => rfl)
    (fun p Wc => ∃ tv, Wc.heap[w.heap.size]? = some (.cells #[tv] 50 (0, 0)) ∧ Wc.ownsRow w.heap.size 66 5 tv p.length (spots (p.map spotV)) ∧ Below w.heap.size w Wc)
    (fun p X Y ⟨tv, h1, h2, h3⟩ hat => ⟨tv, hat.keep h1 (by decide), row_at h2 hat (by decide), h3.trans hat.below⟩)
    ⟨_, x0, World.ownsRow_nil _ _ _ _, hb1⟩
    (fun x a' Wc => ∃ bx, Wc.heap[bx]? = some (.cells #[.pointer (some ⟨x.1.b, 0, none⟩), .int .i64 x.2.1, .int .i64 x.2.2] 120 (0, 0)) ∧ a' = { tmps := #[((.pointer (some ⟨n.b, 0, none⟩)) : Value), undef, ((.slice none 0 0) : Value), (.pointer (some ⟨w.heap.size, 0, none⟩)), (.pointer (some ⟨bx, 0, none⟩)), undef, (.pointer (some ⟨n.b, 0, none⟩)), (.func (.func 85) #[] #[.pointer (some ⟨w.heap.size + 1, 0, none⟩)]), (.agg #[.pointer (some ⟨x.1.b, 0, none⟩), .int .i64 x.2.1, .int .i64 x.2.2]), undef, undef, undef, undef, undef, undef, undef, undef, undef, undef, undef, undef, undef, undef, undef, undef, undef, undef, undef, undef, undef, undef, undef, undef, undef, undef, undef, undef, undef, undef, undef, undef, undef, undef, undef, undef, undef, undef, undef, undef, undef], defers := [] })
    (fun x a' X Y ⟨bx, h1, h2⟩ hat => ⟨bx, hat.keep h1 (by decide), h2⟩) ?assign ?body ?done
  case assign =>
    rintro l m p x Wc ⟨tv, h1, h2, h3⟩ _ hs
    unfold visV Nd.ptr
    gi_wp2_with fail
    exact ⟨⟨Wc.heap.size, heap_alloc_new _ _, rfl⟩, KT.of_below (below_alloc _ _) (by omega), tv, (Below.heap_alloc _ _ _ (by omega)).trans h1, h2.alloc _, h3.alloc h3.size _⟩
  case body =>
    rintro l m p x rs a₁ Wc hxs ⟨tv, h1, h2, h3⟩ ⟨bx, hbx, rfl⟩
    have hmem : x ∈ preN 0 0 n := by rw [hxs]; simp
    have hwin := preN_in n HWF.out 0 0 x hmem
    have hxin : x.1.In w := preN_all (p := fun m => m.In w) (fun m hm => hm.head.2.2) n HIN.out 0 0 x hmem
    have hpl : p.length ≤ 1000 := by
      rw [hxs, List.length_append] at hlen
      omega
    obtain ⟨A, c, htv⟩ := row_any h2
    subst htv
    have hok := Nd.WF.ok _ hwin.wf
    have hnok := Nd.WF.ok _ HWF.out
    have k1 := hwin.ge
    have k2 := hwin.le
    have k3 := hok.ld0
    have k4 := hok.ld1
    have k5 := hnok.bt1
    have hw1 : IntKind.i64.wrap (x.2.1 + x.1.ld) = x.2.1 + x.1.ld := by rw [IntKind.wrap_i64]; omega
    have hw2 : IntKind.i64.wrap (x.2.1 + x.1.bt) = x.2.1 + x.1.bt := by rw [IntKind.wrap_i64]; omega
    have hn1 : w.heap.size ≤ Wc.heap.size := h3.size
    have c0 : Wc.cell? ⟨bx, 0, none⟩ = some (.pointer (some ⟨x.1.b, 0, none⟩)) := cell_of_heap hbx rfl
    have c1 : Wc.cell? ⟨bx, 1, none⟩ = some (.int .i64 x.2.1) := cell_of_heap hbx rfl
    have c2 : Wc.cell? ⟨x.1.b, 2, none⟩ = some (.int .i64 x.1.ld) := (hxin.below h3).cells.c2
    have c3 : Wc.cell? ⟨x.1.b, 1, none⟩ = some (.int .i64 x.1.bt) := (hxin.below h3).cells.c1
    have H1 := Lib.hid h1
    have H2 := Lib.hid h2
    have HBX := Lib.hid hbx
    have HXIN := Lib.hid hxin
    have hl1 := (Array.getElem?_eq_some_iff.1 h1).1
    clear h1 h2 hwin hok hnok hxs hmem hlen hbx hxin
    gi_upto_region 4 with fail
    refine wpIn_region_free (free_round l) (S := fun W => W.cell? ⟨bx, 0, none⟩ = some (.pointer (some ⟨x.1.b, 0, none⟩)) ∧ W.cell? ⟨bx, 1, none⟩ = some (.int .i64 x.2.1) ∧ W.cell? ⟨x.1.b, 2, none⟩ = some (.int .i64 x.1.ld) ∧ W.cell? ⟨x.1.b, 1, none⟩ = some (.int .i64 x.1.bt)) hm (by rfl) ⟨c0, c1, c2, c3⟩ 21 rfl (fun hH => ?_)
    refine AnyL.take (i := 0) (v := ?_) rfl (by kernel_rfl) (by kernel_rfl) (by kernel_rfl) (fun _ _ _ h => h) (Or.inl ⟨by rfl, ?_⟩) hH ?_
    rotate_left
    · (intro w hSw; (try dsimp only at hSw); go_simp; (try with_reducible rfl))
    (try simp only [List.getElem_toArray, List.getElem_cons_succ, List.getElem_cons_zero, Act.put, List.setIfInBounds_toArray, List.set_cons_zero, List.set_cons_succ])
    refine AnyL.take (i := 1) (v := ?_) rfl (by kernel_rfl) (by kernel_rfl) (by kernel_rfl) (fun _ _ _ h => h) (Or.inl ⟨by rfl, ?_⟩) hH ?_
    rotate_left
    · (intro w hSw; (try dsimp only at hSw); go_simp; (try with_reducible rfl))
    (try simp only [List.getElem_toArray, List.getElem_cons_succ, List.getElem_cons_zero, Act.put, List.setIfInBounds_toArray, List.set_cons_zero, List.set_cons_succ])
    refine AnyL.take (i := 2) (v := ?_) rfl (by kernel_rfl) (by kernel_rfl) (by kernel_rfl) (fun _ _ _ h => h) (Or.inl ⟨by rfl, ?_⟩) hH ?_
    rotate_left
    · (intro w hSw; (try dsimp only at hSw); go_simp; (try with_reducible rfl))
    (try simp only [List.getElem_toArray, List.getElem_cons_succ, List.getElem_cons_zero, Act.put, List.setIfInBounds_toArray, List.set_cons_zero, List.set_cons_succ])
    refine AnyL.take (i := 3) (v := ?_) rfl (by kernel_rfl) (by kernel_rfl) (by kernel_rfl) (fun _ _ _ h => h) (Or.inl ⟨by rfl, ?_⟩) hH ?_
    rotate_left
    · (intro w hSw; (try dsimp only at hSw); go_simp; (try with_reducible rfl))
    (try simp only [List.getElem_toArray, List.getElem_cons_succ, List.getElem_cons_zero, Act.put, List.setIfInBounds_toArray, List.set_cons_zero, List.set_cons_succ])
    refine AnyL.take (i := 4) (v := ?_) rfl (by kernel_rfl) (by kernel_rfl) (by kernel_rfl) (fun _ _ _ h => h) (Or.inl ⟨by rfl, ?_⟩) hH ?_
    rotate_left
    · (intro w hSw; (try dsimp only at hSw); go_simp; (try with_reducible rfl))
    (try simp only [List.getElem_toArray, List.getElem_cons_succ, List.getElem_cons_zero, Act.put, List.setIfInBounds_toArray, List.set_cons_zero, List.set_cons_succ])
    refine AnyL.take (i := 5) (v := ?_) rfl (by kernel_rfl) (by kernel_rfl) (by kernel_rfl) (fun _ _ _ h => h) (Or.inl ⟨by rfl, ?_⟩) hH ?_
    rotate_left
    · (intro w hSw; (try dsimp only at hSw); go_simp; (try with_reducible rfl))
    (try simp only [List.getElem_toArray, List.getElem_cons_succ, List.getElem_cons_zero, Act.put, List.setIfInBounds_toArray, List.set_cons_zero, List.set_cons_succ])
    refine AnyL.take (i := 6) (v := ?_) rfl (by kernel_rfl) (by kernel_rfl) (by kernel_rfl) (fun _ _ _ h => h) (Or.inl ⟨by rfl, ?_⟩) hH ?_
    rotate_left
    · (intro w hSw; (try dsimp only at hSw); go_simp; (try with_reducible rfl))
    (try simp only [List.getElem_toArray, List.getElem_cons_succ, List.getElem_cons_zero, Act.put, List.setIfInBounds_toArray, List.set_cons_zero, List.set_cons_succ])
    refine AnyL.take (i := 7) (v := ?_) rfl (by kernel_rfl) (by kernel_rfl) (by kernel_rfl) (fun _ _ _ h => h) (Or.inl ⟨by rfl, ?_⟩) hH ?_
    rotate_left
    · (intro w hSw; (try dsimp only at hSw); go_simp; (try with_reducible rfl))
    (try simp only [List.getElem_toArray, List.getElem_cons_succ, List.getElem_cons_zero, Act.put, List.setIfInBounds_toArray, List.set_cons_zero, List.set_cons_succ])
    refine AnyL.take (i := 8) (v := ?_) rfl (by kernel_rfl) (by kernel_rfl) (by kernel_rfl) (fun _ _ _ h => h) (Or.inl ⟨by rfl, ?_⟩) hH ?_
    rotate_left
    · (intro w hSw; (try dsimp only at hSw); go_simp; (try with_reducible rfl))
    (try simp only [List.getElem_toArray, List.getElem_cons_succ, List.getElem_cons_zero, Act.put, List.setIfInBounds_toArray, List.set_cons_zero, List.set_cons_succ])
    refine AnyL.take (i := 9) (v := ?_) rfl (by kernel_rfl) (by kernel_rfl) (by kernel_rfl) (fun _ _ _ h => h) (Or.inl ⟨by rfl, ?_⟩) hH ?_
    rotate_left
    · (intro w hSw; (try dsimp only at hSw); go_simp; (try with_reducible rfl))
    (try simp only [List.getElem_toArray, List.getElem_cons_succ, List.getElem_cons_zero, Act.put, List.setIfInBounds_toArray, List.set_cons_zero, List.set_cons_succ])
    refine AnyL.take (i := 10) (v := ?_) rfl (by kernel_rfl) (by kernel_rfl) (by kernel_rfl) (fun _ _ _ h => h) (Or.inl ⟨by rfl, ?_⟩) hH ?_
    rotate_left
    · (intro w hSw; (try dsimp only at hSw); go_simp; (try with_reducible rfl))
    (try simp only [List.getElem_toArray, List.getElem_cons_succ, List.getElem_cons_zero, Act.put, List.setIfInBounds_toArray, List.set_cons_zero, List.set_cons_succ])
    refine AnyL.take (i := 11) (v := ?_) rfl (by kernel_rfl) (by kernel_rfl) (by kernel_rfl) (fun _ _ _ h => h) (Or.inl ⟨by rfl, ?_⟩) hH ?_
    rotate_left
    · (intro w hSw; (try dsimp only at hSw); go_simp; (try with_reducible rfl))
    (try simp only [List.getElem_toArray, List.getElem_cons_succ, List.getElem_cons_zero, Act.put, List.setIfInBounds_toArray, List.set_cons_zero, List.set_cons_succ])
    refine AnyL.take (i := 12) (v := ?_) rfl (by kernel_rfl) (by kernel_rfl) (by kernel_rfl) (fun _ _ _ h => h) (Or.inl ⟨by rfl, ?_⟩) hH ?_
    rotate_left
    · (intro w hSw; (try dsimp only at hSw); go_simp; (try with_reducible rfl))
    (try simp only [List.getElem_toArray, List.getElem_cons_succ, List.getElem_cons_zero, Act.put, List.setIfInBounds_toArray, List.set_cons_zero, List.set_cons_succ])
    refine AnyL.take (i := 13) (v := ?_) rfl (by kernel_rfl) (by kernel_rfl) (by kernel_rfl) (fun _ _ _ h => h) (Or.inl ⟨by rfl, ?_⟩) hH ?_
    rotate_left
    · (intro w hSw; (try dsimp only at hSw); go_simp; (try with_reducible rfl))
    (try simp only [List.getElem_toArray, List.getElem_cons_succ, List.getElem_cons_zero, Act.put, List.setIfInBounds_toArray, List.set_cons_zero, List.set_cons_succ])
    refine AnyL.take (i := 14) (v := ?_) rfl (by kernel_rfl) (by kernel_rfl) (by kernel_rfl) (fun _ _ _ h => h) (Or.inl ⟨by rfl, ?_⟩) hH ?_
    rotate_left
    · (intro w hSw; (try dsimp only at hSw); go_simp; (try with_reducible rfl))
    (try simp only [List.getElem_toArray, List.getElem_cons_succ, List.getElem_cons_zero, Act.put, List.setIfInBounds_toArray, List.set_cons_zero, List.set_cons_succ])
    refine AnyL.take (i := 15) (v := ?_) rfl (by kernel_rfl) (by kernel_rfl) (by kernel_rfl) (fun _ _ _ h => h) (Or.inl ⟨by rfl, ?_⟩) hH ?_
    rotate_left
    · (intro w hSw; (try dsimp only at hSw); go_simp; (try with_reducible rfl))
    (try simp only [List.getElem_toArray, List.getElem_cons_succ, List.getElem_cons_zero, Act.put, List.setIfInBounds_toArray, List.set_cons_zero, List.set_cons_succ])
    refine AnyL.take (i := 16) (v := ?_) rfl (by kernel_rfl) (by kernel_rfl) (by kernel_rfl) (fun _ _ _ h => h) (Or.inl ⟨by rfl, ?_⟩) hH ?_
    rotate_left
    · (intro w hSw; (try dsimp only at hSw); go_simp; (try with_reducible rfl))
    (try simp only [List.getElem_toArray, List.getElem_cons_succ, List.getElem_cons_zero, Act.put, List.setIfInBounds_toArray, List.set_cons_zero, List.set_cons_succ])
    refine AnyL.take (i := 17) (v := ?_) rfl (by kernel_rfl) (by kernel_rfl) (by kernel_rfl) (fun _ _ _ h => h) (Or.inl ⟨by rfl, ?_⟩) hH ?_
    rotate_left
    · (intro w hSw; (try dsimp only at hSw); go_simp; (try with_reducible rfl))
    (try simp only [List.getElem_toArray, List.getElem_cons_succ, List.getElem_cons_zero, Act.put, List.setIfInBounds_toArray, List.set_cons_zero, List.set_cons_succ])
    refine AnyL.take (i := 18) (v := ?_) rfl (by kernel_rfl) (by kernel_rfl) (by kernel_rfl) (fun _ _ _ h => h) (Or.inl ⟨by rfl, ?_⟩) hH ?_
    rotate_left
    · (intro w hSw; (try dsimp only at hSw); go_simp; (try with_reducible rfl))
    (try simp only [List.getElem_toArray, List.getElem_cons_succ, List.getElem_cons_zero, Act.put, List.setIfInBounds_toArray, List.set_cons_zero, List.set_cons_succ])
    refine AnyL.step (i := 19) (by kernel_rfl) rfl (fun K hK => ?_)
    (try simp only [List.getElem_toArray, List.getElem_cons_succ, List.getElem_cons_zero])
    go_simp
    refine hK.out _ _ (.inr ⟨Lib.cell?_alloc_some _ c0, Lib.cell?_alloc_some _ c1, Lib.cell?_alloc_some _ c2, Lib.cell?_alloc_some _ c3⟩) ?_
    clear hK K
    (try simp only [List.getElem_toArray, List.getElem_cons_succ, List.getElem_cons_zero, Act.put, List.setIfInBounds_toArray, List.set_cons_zero, List.set_cons_succ])
    refine AnyL.step (i := 20) (by kernel_rfl) rfl (fun K hK => ?_)
    (try simp only [List.getElem_toArray, List.getElem_cons_succ, List.getElem_cons_zero])
    go_simp
    refine hK.out _ _ (.inl (by kernel_rfl)) ?_
    clear hK K
    (try simp only [List.getElem_toArray, List.getElem_cons_succ, List.getElem_cons_zero, Act.put, List.setIfInBounds_toArray, List.set_cons_zero, List.set_cons_succ])
    refine AnyL.done (by kernel_rfl) ?_ _
    dsimp only [OnNormal]
    clear c0 c1 c2 c3 hw1 hw2 hH
    have hw7 : ∀ w7, w7 = (Wc.alloc (.cells #[.int .i64 (x.2.1 + x.1.ld), .int .i64 (x.2.1 + x.1.bt)] 64)).drew → Below Wc.heap.size Wc w7 ∧ w7.heap[Wc.heap.size]? = some (.cells #[.int .i64 (x.2.1 + x.1.ld), .int .i64 (x.2.1 + x.1.bt)] 64 (0, 0)) := by
      rintro w7 rfl
      exact ⟨(below_alloc _ _).drew, heap_alloc_new Wc _⟩
    obtain ⟨hb7, hs7⟩ := hw7 _ rfl
    generalize (Wc.alloc (.cells #[.int .i64 (x.2.1 + x.1.ld), .int .i64 (x.2.1 + x.1.bt)] 64)).drew = w7 at *
    have e2 : w7.cell? ⟨bx, 2, none⟩ = some (.int .i64 x.2.2) := cell_of_heap ((hb7.block _ (Array.getElem?_eq_some_iff.1 HBX.out).1).trans HBX.out) rfl
    have e3 : w7.cell? ⟨Wc.heap.size, 0, none⟩ = some (.int .i64 (x.2.1 + x.1.ld)) := cell_of_heap hs7 rfl
    have e4 : w7.frozen? ⟨Wc.heap.size, 0, none⟩ = false := frozen_of_heap hs7
    have HS7 := Lib.hid hs7
    clear hw7 hs7
    by_cases hd : x.2.2 = 0
    · have hq : (x.2.2 == 0) = true := by rw [hd]; rfl
      have HD := Lib.hid hd
      clear hd
      gi_upto_region 7 with fail
      have hs8 := setCell_heap (i := 0) HS7.out (.int .i64 0)
      have hb8 := hb7.setCell (p := ⟨Wc.heap.size, 0, none⟩) (Nat.le_refl _) (.int .i64 0)
      obtain ⟨fa, hfa⟩ : ∃ fa, fa = (0 : Int) := ⟨_, rfl⟩
      have HFA := Lib.hid (show spotV x = ⟨x.1.sy, x.1.pr, fa, x.2.1 + x.1.bt, x.2.2⟩ by unfold spotV; rw [if_pos HD.out, hfa])
      rw [← hfa] at hs8 hb8 ⊢
      clear hfa e2 e3 e4 HS7 HD hq
      generalize w7.setCell ⟨Wc.heap.size, 0, none⟩ (.int .i64 fa) = W8 at *
      have hb8l := hb8.size
      have hl8 := Nat.lt_of_lt_of_le hl1 hb8.size
      have E1 := Lib.hid ((hb8.block _ hl1).trans H1.out)
      have R2 := Lib.hid (ownsRow_of_block H2.out (w' := W8) (fun k hk => hb8.block k (H2.out.lt k hk).2))
      have EX := Lib.hid ((hb8.block _ (Array.getElem?_eq_some_iff.1 HBX.out).1).trans HBX.out)
      have E3 := Lib.hid (h3.trans (hb8.mono hn1))
      have hlx : bx < W8.heap.size := (Array.getElem?_eq_some_iff.1 EX.out).1
      have hls : Wc.heap.size < W8.heap.size := (Array.getElem?_eq_some_iff.1 hs8).1
      have hlb : x.1.b < W8.heap.size := World.block_lt_of_cell? W8 _ (HXIN.out.below E3.out).cells.c4
      have f0 : W8.cell? ⟨w.heap.size, 0, none⟩ = some (.slice A p.length c) := cell_of_heap E1.out rfl
      have f1 : W8.cell? ⟨bx, 0, none⟩ = some (.pointer (some ⟨x.1.b, 0, none⟩)) := cell_of_heap EX.out rfl
      have f2 : W8.cell? ⟨bx, 2, none⟩ = some (.int .i64 x.2.2) := cell_of_heap EX.out rfl
      have f3 : W8.cell? ⟨x.1.b, 4, none⟩ = some (.int .i64 x.1.sy) := (HXIN.out.below E3.out).cells.c4
      have f4 : W8.cell? ⟨x.1.b, 5, none⟩ = some (.int .i64 x.1.pr) := (HXIN.out.below E3.out).cells.c5
      have f5 : W8.cell? ⟨Wc.heap.size, 0, none⟩ = some (.int .i64 fa) := cell_of_heap hs8 rfl
      have f6 : W8.cell? ⟨Wc.heap.size, 1, none⟩ = some (.int .i64 (x.2.1 + x.1.bt)) := cell_of_heap hs8 rfl
      have HS8 := Lib.hid hs8
      have HX4 := Lib.hid (HXIN.out.below E3.out).cells
      clear hs8
      refine wpIn_region_free (free_round l) (S := fun W => W.cell? ⟨w.heap.size, 0, none⟩ = some (.slice A p.length c) ∧ W.cell? ⟨bx, 0, none⟩ = some (.pointer (some ⟨x.1.b, 0, none⟩)) ∧ W.cell? ⟨bx, 2, none⟩ = some (.int .i64 x.2.2) ∧ W.cell? ⟨x.1.b, 4, none⟩ = some (.int .i64 x.1.sy) ∧ W.cell? ⟨x.1.b, 5, none⟩ = some (.int .i64 x.1.pr) ∧ W.cell? ⟨Wc.heap.size, 0, none⟩ = some (.int .i64 fa) ∧ W.cell? ⟨Wc.heap.size, 1, none⟩ = some (.int .i64 (x.2.1 + x.1.bt))) hm (by rfl) ⟨f0, f1, f2, f3, f4, f5, f6⟩ 18 rfl (fun hH => ?_)
      refine AnyL.take (i := 0) (v := ?_) rfl (by kernel_rfl) (by kernel_rfl) (by kernel_rfl) (fun _ _ _ h => h) (Or.inl ⟨by rfl, ?_⟩) hH ?_
      rotate_left
      · (intro w hSw; (try dsimp only at hSw); go_simp; (try with_reducible rfl))
      (try simp only [List.getElem_toArray, List.getElem_cons_succ, List.getElem_cons_zero, Act.put, List.setIfInBounds_toArray, List.set_cons_zero, List.set_cons_succ])
      refine AnyL.take (i := 1) (v := ?_) rfl (by kernel_rfl) (by kernel_rfl) (by kernel_rfl) (fun _ _ _ h => h) (Or.inl ⟨by rfl, ?_⟩) hH ?_
      rotate_left
      · (intro w hSw; (try dsimp only at hSw); go_simp; (try with_reducible rfl))
      (try simp only [List.getElem_toArray, List.getElem_cons_succ, List.getElem_cons_zero, Act.put, List.setIfInBounds_toArray, List.set_cons_zero, List.set_cons_succ])
      refine AnyL.take (i := 2) (v := ?_) rfl (by kernel_rfl) (by kernel_rfl) (by kernel_rfl) (fun _ _ _ h => h) (Or.inl ⟨by rfl, ?_⟩) hH ?_
      rotate_left
      · (intro w hSw; (try dsimp only at hSw); go_simp; (try with_reducible rfl))
      (try simp only [List.getElem_toArray, List.getElem_cons_succ, List.getElem_cons_zero, Act.put, List.setIfInBounds_toArray, List.set_cons_zero, List.set_cons_succ])
      refine AnyL.take (i := 3) (v := ?_) rfl (by kernel_rfl) (by kernel_rfl) (by kernel_rfl) (fun _ _ _ h => h) (Or.inl ⟨by rfl, ?_⟩) hH ?_
      rotate_left
      · (intro w hSw; (try dsimp only at hSw); go_simp; (try with_reducible rfl))
      (try simp only [List.getElem_toArray, List.getElem_cons_succ, List.getElem_cons_zero, Act.put, List.setIfInBounds_toArray, List.set_cons_zero, List.set_cons_succ])
      refine AnyL.take (i := 4) (v := ?_) rfl (by kernel_rfl) (by kernel_rfl) (by kernel_rfl) (fun _ _ _ h => h) (Or.inl ⟨by rfl, ?_⟩) hH ?_
      rotate_left
      · (intro w hSw; (try dsimp only at hSw); go_simp; (try with_reducible rfl))
      (try simp only [List.getElem_toArray, List.getElem_cons_succ, List.getElem_cons_zero, Act.put, List.setIfInBounds_toArray, List.set_cons_zero, List.set_cons_succ])
      refine AnyL.take (i := 5) (v := ?_) rfl (by kernel_rfl) (by kernel_rfl) (by kernel_rfl) (fun _ _ _ h => h) (Or.inl ⟨by rfl, ?_⟩) hH ?_
      rotate_left
      · (intro w hSw; (try dsimp only at hSw); go_simp; (try with_reducible rfl))
      (try simp only [List.getElem_toArray, List.getElem_cons_succ, List.getElem_cons_zero, Act.put, List.setIfInBounds_toArray, List.set_cons_zero, List.set_cons_succ])
      refine AnyL.take (i := 6) (v := ?_) rfl (by kernel_rfl) (by kernel_rfl) (by kernel_rfl) (fun _ _ _ h => h) (Or.inl ⟨by rfl, ?_⟩) hH ?_
      rotate_left
      · (intro w hSw; (try dsimp only at hSw); go_simp; (try with_reducible rfl))
      (try simp only [List.getElem_toArray, List.getElem_cons_succ, List.getElem_cons_zero, Act.put, List.setIfInBounds_toArray, List.set_cons_zero, List.set_cons_succ])
      refine AnyL.take (i := 7) (v := ?_) rfl (by kernel_rfl) (by kernel_rfl) (by kernel_rfl) (fun _ _ _ h => h) (Or.inl ⟨by rfl, ?_⟩) hH ?_
      rotate_left
      · (intro w hSw; (try dsimp only at hSw); go_simp; (try with_reducible rfl))
      (try simp only [List.getElem_toArray, List.getElem_cons_succ, List.getElem_cons_zero, Act.put, List.setIfInBounds_toArray, List.set_cons_zero, List.set_cons_succ])
      refine AnyL.take (i := 8) (v := ?_) rfl (by kernel_rfl) (by kernel_rfl) (by kernel_rfl) (fun _ _ _ h => h) (Or.inl ⟨by rfl, ?_⟩) hH ?_
      rotate_left
      · (intro w hSw; (try dsimp only at hSw); go_simp; (try with_reducible rfl))
      (try simp only [List.getElem_toArray, List.getElem_cons_succ, List.getElem_cons_zero, Act.put, List.setIfInBounds_toArray, List.set_cons_zero, List.set_cons_succ])
      refine AnyL.take (i := 9) (v := ?_) rfl (by kernel_rfl) (by kernel_rfl) (by kernel_rfl) (fun _ _ _ h => h) (Or.inl ⟨by rfl, ?_⟩) hH ?_
      rotate_left
      · (intro w hSw; (try dsimp only at hSw); go_simp; (try with_reducible rfl))
      (try simp only [List.getElem_toArray, List.getElem_cons_succ, List.getElem_cons_zero, Act.put, List.setIfInBounds_toArray, List.set_cons_zero, List.set_cons_succ])
      refine AnyL.take (i := 10) (v := ?_) rfl (by kernel_rfl) (by kernel_rfl) (by kernel_rfl) (fun _ _ _ h => h) (Or.inl ⟨by rfl, ?_⟩) hH ?_
      rotate_left
      · (intro w hSw; (try dsimp only at hSw); go_simp; (try with_reducible rfl))
      (try simp only [List.getElem_toArray, List.getElem_cons_succ, List.getElem_cons_zero, Act.put, List.setIfInBounds_toArray, List.set_cons_zero, List.set_cons_succ])
      refine AnyL.take (i := 11) (v := ?_) rfl (by kernel_rfl) (by kernel_rfl) (by kernel_rfl) (fun _ _ _ h => h) (Or.inl ⟨by rfl, ?_⟩) hH ?_
      rotate_left
      · (intro w hSw; (try dsimp only at hSw); go_simp; (try with_reducible rfl))
      (try simp only [List.getElem_toArray, List.getElem_cons_succ, List.getElem_cons_zero, Act.put, List.setIfInBounds_toArray, List.set_cons_zero, List.set_cons_succ])
      refine AnyL.take (i := 12) (v := ?_) rfl (by kernel_rfl) (by kernel_rfl) (by kernel_rfl) (fun _ _ _ h => h) (Or.inl ⟨by rfl, ?_⟩) hH ?_
      rotate_left
      · (intro w hSw; (try dsimp only at hSw); go_simp; (try with_reducible rfl))
      (try simp only [List.getElem_toArray, List.getElem_cons_succ, List.getElem_cons_zero, Act.put, List.setIfInBounds_toArray, List.set_cons_zero, List.set_cons_succ])
      refine AnyL.take (i := 13) (v := ?_) rfl (by kernel_rfl) (by kernel_rfl) (by kernel_rfl) (fun _ _ _ h => h) (Or.inl ⟨by rfl, ?_⟩) hH ?_
      rotate_left
      · (intro w hSw; (try dsimp only at hSw); go_simp; (try with_reducible rfl))
      (try simp only [List.getElem_toArray, List.getElem_cons_succ, List.getElem_cons_zero, Act.put, List.setIfInBounds_toArray, List.set_cons_zero, List.set_cons_succ])
      refine AnyL.take (i := 14) (v := ?_) rfl (by kernel_rfl) (by kernel_rfl) (by kernel_rfl) (fun _ _ _ h => h) (Or.inl ⟨by rfl, ?_⟩) hH ?_
      rotate_left
      · (intro w hSw; (try dsimp only at hSw); go_simp; (try with_reducible rfl))
      (try simp only [List.getElem_toArray, List.getElem_cons_succ, List.getElem_cons_zero, Act.put, List.setIfInBounds_toArray, List.set_cons_zero, List.set_cons_succ])
      refine AnyL.step (i := 15) (by kernel_rfl) rfl (fun K hK => ?_)
      (try simp only [List.getElem_toArray, List.getElem_cons_succ, List.getElem_cons_zero])
      go_simp
      refine hK.out _ _ (.inr ⟨Lib.cell?_alloc_some _ f0, Lib.cell?_alloc_some _ f1, Lib.cell?_alloc_some _ f2, Lib.cell?_alloc_some _ f3, Lib.cell?_alloc_some _ f4, Lib.cell?_alloc_some _ f5, Lib.cell?_alloc_some _ f6⟩) ?_
      clear hK K
      (try simp only [List.getElem_toArray, List.getElem_cons_succ, List.getElem_cons_zero, Act.put, List.setIfInBounds_toArray, List.set_cons_zero, List.set_cons_succ])
      refine AnyL.step (i := 16) (by kernel_rfl) rfl (fun K hK => ?_)
      (try simp only [List.getElem_toArray, List.getElem_cons_succ, List.getElem_cons_zero])
      rw [if_pos (by rfl)]
      refine wp_push (.tmp 32) (.tmp 47) 50 rfl 66 _ 5 40 info66 Try.underlying50 rfl (by decide) w.heap.size (.slice A p.length c) p.length (spots (p.map spotV)) (by simp [Act.eval, Act.put]) (R2.out.alloc _) W8.heap.size [.int .i64 x.1.sy, .int .i64 x.1.pr, .int .i64 fa, .int .i64 (x.2.1 + x.1.bt), .int .i64 x.2.2] (by simp [Act.eval, Act.put]) (heap_alloc_new W8 _) rfl (by simp [Value.oneCell']) (by omega) (by omega) (by simp; omega) ?_
      intro g9 c9 W9 hown9 hgr9
      have far : ∀ k, k < W8.heap.size → some k ≠ (Value.slice A p.length c).ownBlock → W9.heap[k]? = W8.heap[k]? := fun k hk hne => (hgr9.far k (by simp; omega) hne).trans (Below.heap_alloc _ _ _ hk)
      have G9 := (far _ hl8 (own_ne R2.out E1.out (by decide))).trans E1.out
      have GX := (far _ hlx (own_ne R2.out EX.out (by decide))).trans EX.out
      have GS := (far _ hls (own_ne R2.out HS8.out (by decide))).trans HS8.out
      have hb89 : Below w.heap.size w W9 := E3.out.trans ((((below_alloc W8 _).mono (by omega)).drew : Below w.heap.size W8 (W8.alloc (.cells #[.int .i64 x.1.sy, .int .i64 x.1.pr, .int .i64 fa, .int .i64 (x.2.1 + x.1.bt), .int .i64 x.2.2] 66)).drew).trans hgr9.below)
      have GN := (HXIN.out.below hb89).cells
      have g0 : W9.cell? ⟨w.heap.size, 0, none⟩ = some (.slice A p.length c) := cell_of_heap G9 rfl
      have z9 : W9.frozen? ⟨w.heap.size, 0, none⟩ = false := frozen_of_heap G9
      have HG9 := Lib.hid G9
      have HOWN9 := Lib.hid hown9
      have HGR9 := Lib.hid hgr9
      have hS9 := Lib.hid (show W9.cell? ⟨bx, 0, none⟩ = some (.pointer (some ⟨x.1.b, 0, none⟩)) ∧ W9.cell? ⟨bx, 2, none⟩ = some (.int .i64 x.2.2) ∧ W9.cell? ⟨x.1.b, 4, none⟩ = some (.int .i64 x.1.sy) ∧ W9.cell? ⟨x.1.b, 5, none⟩ = some (.int .i64 x.1.pr) ∧ W9.cell? ⟨Wc.heap.size, 0, none⟩ = some (.int .i64 fa) ∧ W9.cell? ⟨Wc.heap.size, 1, none⟩ = some (.int .i64 (x.2.1 + x.1.bt)) from ⟨cell_of_heap GX rfl, cell_of_heap GX rfl, GN.c4, GN.c5, cell_of_heap GS rfl, cell_of_heap GS rfl⟩)
      clear G9 hown9 hgr9 GX GS GN far
      refine hK.out _ _ (.inr ⟨g0, hS9.out⟩) ?_
      clear hK K
      (try simp only [List.getElem_toArray, List.getElem_cons_succ, List.getElem_cons_zero, Act.put, List.setIfInBounds_toArray, List.set_cons_zero, List.set_cons_succ])
      refine AnyL.step (i := 17) (by kernel_rfl) rfl (fun K hK => ?_)
      (try simp only [List.getElem_toArray, List.getElem_cons_succ, List.getElem_cons_zero])
      go_simp
      refine hK.out _ _ (.inl (by kernel_rfl)) ?_
      clear hK K
      (try simp only [List.getElem_toArray, List.getElem_cons_succ, List.getElem_cons_zero, Act.put, List.setIfInBounds_toArray, List.set_cons_zero, List.set_cons_succ])
      refine AnyL.done (by kernel_rfl) ?_ _
      dsimp only [OnNormal]
      have kt8 : KT [33, 120, 136, 3, 45] w.heap.size Wc (W8.alloc (.cells #[.int .i64 x.1.sy, .int .i64 x.1.pr, .int .i64 fa, .int .i64 (x.2.1 + x.1.bt), .int .i64 x.2.2] 66)).drew := KT.of_below (hb8.trans ((below_alloc W8 (.cells #[.int .i64 x.1.sy, .int .i64 x.1.pr, .int .i64 fa, .int .i64 (x.2.1 + x.1.bt), .int .i64 x.2.2] 66)).drew.mono hb8l)) hn1
      have kt := (kt8.grew HGR9.out ((R2.out.alloc (.cells #[.int .i64 x.1.sy, .int .i64 x.1.pr, .int .i64 fa, .int .i64 (x.2.1 + x.1.bt), .int .i64 x.2.2] 66)).drew) (by decide)).setCell (p := ⟨w.heap.size, 0, none⟩) (Nat.le_refl _) HG9.out (by decide) (.slice (some ⟨g9, 0, none⟩) (p.length + 1) c9)
      show KT _ _ _ _ ∧ _
      refine ⟨kt, _, setCell_heap (i := 0) HG9.out _, ?_, h3.trans kt.below⟩
      rw [List.map_append, List.length_append]
      have e1 : spots (p.map spotV ++ [x].map spotV) = spots (p.map spotV) ++ [.int .i64 x.1.sy, .int .i64 x.1.pr, .int .i64 fa, .int .i64 (x.2.1 + x.1.bt), .int .i64 x.2.2] := by
        unfold spots
        rw [List.flatMap_append, List.map_singleton, List.flatMap_singleton, HFA.out]
        rfl
      rw [e1]
      exact ownsRow_of_block HOWN9.out (fun k hk => Below.heap_setCell _ _ _ _ (fun e => own_ne HOWN9.out HG9.out (by decide) (by rw [hk]; exact congrArg some e.symm)))
    · have hq : (x.2.2 == 0) = false := beq_eq_false_iff_ne.2 hd
      have HD := Lib.hid hd
      clear hd
      gi_upto_region 7 with fail
      have hs8 := HS7.out
      have hb8 := hb7
      obtain ⟨fa, hfa⟩ : ∃ fa, fa = x.2.1 + x.1.ld := ⟨_, rfl⟩
      have HFA := Lib.hid (show spotV x = ⟨x.1.sy, x.1.pr, fa, x.2.1 + x.1.bt, x.2.2⟩ by unfold spotV; rw [if_neg HD.out, hfa])
      rw [← hfa] at hs8
      clear hfa e2 e3 e4 HS7 HD hq hb7
      obtain ⟨W8, hW8⟩ : ∃ W8, W8 = w7 := ⟨_, rfl⟩
      rw [← hW8] at hs8 hb8 ⊢
      clear hW8
      have hb8l := hb8.size
      have hl8 := Nat.lt_of_lt_of_le hl1 hb8.size
      have E1 := Lib.hid ((hb8.block _ hl1).trans H1.out)
      have R2 := Lib.hid (ownsRow_of_block H2.out (w' := W8) (fun k hk => hb8.block k (H2.out.lt k hk).2))
      have EX := Lib.hid ((hb8.block _ (Array.getElem?_eq_some_iff.1 HBX.out).1).trans HBX.out)
      have E3 := Lib.hid (h3.trans (hb8.mono hn1))
      have hlx : bx < W8.heap.size := (Array.getElem?_eq_some_iff.1 EX.out).1
      have hls : Wc.heap.size < W8.heap.size := (Array.getElem?_eq_some_iff.1 hs8).1
      have hlb : x.1.b < W8.heap.size := World.block_lt_of_cell? W8 _ (HXIN.out.below E3.out).cells.c4
      have f0 : W8.cell? ⟨w.heap.size, 0, none⟩ = some (.slice A p.length c) := cell_of_heap E1.out rfl
      have f1 : W8.cell? ⟨bx, 0, none⟩ = some (.pointer (some ⟨x.1.b, 0, none⟩)) := cell_of_heap EX.out rfl
      have f2 : W8.cell? ⟨bx, 2, none⟩ = some (.int .i64 x.2.2) := cell_of_heap EX.out rfl
      have f3 : W8.cell? ⟨x.1.b, 4, none⟩ = some (.int .i64 x.1.sy) := (HXIN.out.below E3.out).cells.c4
      have f4 : W8.cell? ⟨x.1.b, 5, none⟩ = some (.int .i64 x.1.pr) := (HXIN.out.below E3.out).cells.c5
      have f5 : W8.cell? ⟨Wc.heap.size, 0, none⟩ = some (.int .i64 fa) := cell_of_heap hs8 rfl
      have f6 : W8.cell? ⟨Wc.heap.size, 1, none⟩ = some (.int .i64 (x.2.1 + x.1.bt)) := cell_of_heap hs8 rfl
      have HS8 := Lib.hid hs8
      have HX4 := Lib.hid (HXIN.out.below E3.out).cells
      clear hs8
      refine wpIn_region_free (free_round l) (S := fun W => W.cell? ⟨w.heap.size, 0, none⟩ = some (.slice A p.length c) ∧ W.cell? ⟨bx, 0, none⟩ = some (.pointer (some ⟨x.1.b, 0, none⟩)) ∧ W.cell? ⟨bx, 2, none⟩ = some (.int .i64 x.2.2) ∧ W.cell? ⟨x.1.b, 4, none⟩ = some (.int .i64 x.1.sy) ∧ W.cell? ⟨x.1.b, 5, none⟩ = some (.int .i64 x.1.pr) ∧ W.cell? ⟨Wc.heap.size, 0, none⟩ = some (.int .i64 fa) ∧ W.cell? ⟨Wc.heap.size, 1, none⟩ = some (.int .i64 (x.2.1 + x.1.bt))) hm (by rfl) ⟨f0, f1, f2, f3, f4, f5, f6⟩ 18 rfl (fun hH => ?_)
      refine AnyL.take (i := 0) (v := ?_) rfl (by kernel_rfl) (by kernel_rfl) (by kernel_rfl) (fun _ _ _ h => h) (Or.inl ⟨by rfl, ?_⟩) hH ?_
      rotate_left
      · (intro w hSw; (try dsimp only at hSw); go_simp; (try with_reducible rfl))
      (try simp only [List.getElem_toArray, List.getElem_cons_succ, List.getElem_cons_zero, Act.put, List.setIfInBounds_toArray, List.set_cons_zero, List.set_cons_succ])
      refine AnyL.take (i := 1) (v := ?_) rfl (by kernel_rfl) (by kernel_rfl) (by kernel_rfl) (fun _ _ _ h => h) (Or.inl ⟨by rfl, ?_⟩) hH ?_
      rotate_left
      · (intro w hSw; (try dsimp only at hSw); go_simp; (try with_reducible rfl))
      (try simp only [List.getElem_toArray, List.getElem_cons_succ, List.getElem_cons_zero, Act.put, List.setIfInBounds_toArray, List.set_cons_zero, List.set_cons_succ])
      refine AnyL.take (i := 2) (v := ?_) rfl (by kernel_rfl) (by kernel_rfl) (by kernel_rfl) (fun _ _ _ h => h) (Or.inl ⟨by rfl, ?_⟩) hH ?_
      rotate_left
      · (intro w hSw; (try dsimp only at hSw); go_simp; (try with_reducible rfl))
      (try simp only [List.getElem_toArray, List.getElem_cons_succ, List.getElem_cons_zero, Act.put, List.setIfInBounds_toArray, List.set_cons_zero, List.set_cons_succ])
      refine AnyL.take (i := 3) (v := ?_) rfl (by kernel_rfl) (by kernel_rfl) (by kernel_rfl) (fun _ _ _ h => h) (Or.inl ⟨by rfl, ?_⟩) hH ?_
      rotate_left
      · (intro w hSw; (try dsimp only at hSw); go_simp; (try with_reducible rfl))
      (try simp only [List.getElem_toArray, List.getElem_cons_succ, List.getElem_cons_zero, Act.put, List.setIfInBounds_toArray, List.set_cons_zero, List.set_cons_succ])
      refine AnyL.take (i := 4) (v := ?_) rfl (by kernel_rfl) (by kernel_rfl) (by kernel_rfl) (fun _ _ _ h => h) (Or.inl ⟨by rfl, ?_⟩) hH ?_
      rotate_left
      · (intro w hSw; (try dsimp only at hSw); go_simp; (try with_reducible rfl))
      (try simp only [List.getElem_toArray, List.getElem_cons_succ, List.getElem_cons_zero, Act.put, List.setIfInBounds_toArray, List.set_cons_zero, List.set_cons_succ])
      refine AnyL.take (i := 5) (v := ?_) rfl (by kernel_rfl) (by kernel_rfl) (by kernel_rfl) (fun _ _ _ h => h) (Or.inl ⟨by rfl, ?_⟩) hH ?_
      rotate_left
      · (intro w hSw; (try dsimp only at hSw); go_simp; (try with_reducible rfl))
      (try simp only [List.getElem_toArray, List.getElem_cons_succ, List.getElem_cons_zero, Act.put, List.setIfInBounds_toArray, List.set_cons_zero, List.set_cons_succ])
      refine AnyL.take (i := 6) (v := ?_) rfl (by kernel_rfl) (by kernel_rfl) (by kernel_rfl) (fun _ _ _ h => h) (Or.inl ⟨by rfl, ?_⟩) hH ?_
      rotate_left
      · (intro w hSw; (try dsimp only at hSw); go_simp; (try with_reducible rfl))
      (try simp only [List.getElem_toArray, List.getElem_cons_succ, List.getElem_cons_zero, Act.put, List.setIfInBounds_toArray, List.set_cons_zero, List.set_cons_succ])
      refine AnyL.take (i := 7) (v := ?_) rfl (by kernel_rfl) (by kernel_rfl) (by kernel_rfl) (fun _ _ _ h => h) (Or.inl ⟨by rfl, ?_⟩) hH ?_
      rotate_left
      · (intro w hSw; (try dsimp only at hSw); go_simp; (try with_reducible rfl))
      (try simp only [List.getElem_toArray, List.getElem_cons_succ, List.getElem_cons_zero, Act.put, List.setIfInBounds_toArray, List.set_cons_zero, List.set_cons_succ])
      refine AnyL.take (i := 8) (v := ?_) rfl (by kernel_rfl) (by kernel_rfl) (by kernel_rfl) (fun _ _ _ h => h) (Or.inl ⟨by rfl, ?_⟩) hH ?_
      rotate_left
      · (intro w hSw; (try dsimp only at hSw); go_simp; (try with_reducible rfl))
      (try simp only [List.getElem_toArray, List.getElem_cons_succ, List.getElem_cons_zero, Act.put, List.setIfInBounds_toArray, List.set_cons_zero, List.set_cons_succ])
      refine AnyL.take (i := 9) (v := ?_) rfl (by kernel_rfl) (by kernel_rfl) (by kernel_rfl) (fun _ _ _ h => h) (Or.inl ⟨by rfl, ?_⟩) hH ?_
      rotate_left
      · (intro w hSw; (try dsimp only at hSw); go_simp; (try with_reducible rfl))
      (try simp only [List.getElem_toArray, List.getElem_cons_succ, List.getElem_cons_zero, Act.put, List.setIfInBounds_toArray, List.set_cons_zero, List.set_cons_succ])
      refine AnyL.take (i := 10) (v := ?_) rfl (by kernel_rfl) (by kernel_rfl) (by kernel_rfl) (fun _ _ _ h => h) (Or.inl ⟨by rfl, ?_⟩) hH ?_
      rotate_left
      · (intro w hSw; (try dsimp only at hSw); go_simp; (try with_reducible rfl))
      (try simp only [List.getElem_toArray, List.getElem_cons_succ, List.getElem_cons_zero, Act.put, List.setIfInBounds_toArray, List.set_cons_zero, List.set_cons_succ])
      refine AnyL.take (i := 11) (v := ?_) rfl (by kernel_rfl) (by kernel_rfl) (by kernel_rfl) (fun _ _ _ h => h) (Or.inl ⟨by rfl, ?_⟩) hH ?_
      rotate_left
      · (intro w hSw; (try dsimp only at hSw); go_simp; (try with_reducible rfl))
      (try simp only [List.getElem_toArray, List.getElem_cons_succ, List.getElem_cons_zero, Act.put, List.setIfInBounds_toArray, List.set_cons_zero, List.set_cons_succ])
      refine AnyL.take (i := 12) (v := ?_) rfl (by kernel_rfl) (by kernel_rfl) (by kernel_rfl) (fun _ _ _ h => h) (Or.inl ⟨by rfl, ?_⟩) hH ?_
      rotate_left
      · (intro w hSw; (try dsimp only at hSw); go_simp; (try with_reducible rfl))
      (try simp only [List.getElem_toArray, List.getElem_cons_succ, List.getElem_cons_zero, Act.put, List.setIfInBounds_toArray, List.set_cons_zero, List.set_cons_succ])
      refine AnyL.take (i := 13) (v := ?_) rfl (by kernel_rfl) (by kernel_rfl) (by kernel_rfl) (fun _ _ _ h => h) (Or.inl ⟨by rfl, ?_⟩) hH ?_
      rotate_left
      · (intro w hSw; (try dsimp only at hSw); go_simp; (try with_reducible rfl))
      (try simp only [List.getElem_toArray, List.getElem_cons_succ, List.getElem_cons_zero, Act.put, List.setIfInBounds_toArray, List.set_cons_zero, List.set_cons_succ])
      refine AnyL.take (i := 14) (v := ?_) rfl (by kernel_rfl) (by kernel_rfl) (by kernel_rfl) (fun _ _ _ h => h) (Or.inl ⟨by rfl, ?_⟩) hH ?_
      rotate_left
      · (intro w hSw; (try dsimp only at hSw); go_simp; (try with_reducible rfl))
      (try simp only [List.getElem_toArray, List.getElem_cons_succ, List.getElem_cons_zero, Act.put, List.setIfInBounds_toArray, List.set_cons_zero, List.set_cons_succ])
      refine AnyL.step (i := 15) (by kernel_rfl) rfl (fun K hK => ?_)
      (try simp only [List.getElem_toArray, List.getElem_cons_succ, List.getElem_cons_zero])
      go_simp
      refine hK.out _ _ (.inr ⟨Lib.cell?_alloc_some _ f0, Lib.cell?_alloc_some _ f1, Lib.cell?_alloc_some _ f2, Lib.cell?_alloc_some _ f3, Lib.cell?_alloc_some _ f4, Lib.cell?_alloc_some _ f5, Lib.cell?_alloc_some _ f6⟩) ?_
      clear hK K
      (try simp only [List.getElem_toArray, List.getElem_cons_succ, List.getElem_cons_zero, Act.put, List.setIfInBounds_toArray, List.set_cons_zero, List.set_cons_succ])
      refine AnyL.step (i := 16) (by kernel_rfl) rfl (fun K hK => ?_)
      (try simp only [List.getElem_toArray, List.getElem_cons_succ, List.getElem_cons_zero])
      rw [if_pos (by rfl)]
      refine wp_push (.tmp 32) (.tmp 47) 50 rfl 66 _ 5 40 info66 Try.underlying50 rfl (by decide) w.heap.size (.slice A p.length c) p.length (spots (p.map spotV)) (by simp [Act.eval, Act.put]) (R2.out.alloc _) W8.heap.size [.int .i64 x.1.sy, .int .i64 x.1.pr, .int .i64 fa, .int .i64 (x.2.1 + x.1.bt), .int .i64 x.2.2] (by simp [Act.eval, Act.put]) (heap_alloc_new W8 _) rfl (by simp [Value.oneCell']) (by omega) (by omega) (by simp; omega) ?_
      intro g9 c9 W9 hown9 hgr9
      have far : ∀ k, k < W8.heap.size → some k ≠ (Value.slice A p.length c).ownBlock → W9.heap[k]? = W8.heap[k]? := fun k hk hne => (hgr9.far k (by simp; omega) hne).trans (Below.heap_alloc _ _ _ hk)
      have G9 := (far _ hl8 (own_ne R2.out E1.out (by decide))).trans E1.out
      have GX := (far _ hlx (own_ne R2.out EX.out (by decide))).trans EX.out
      have GS := (far _ hls (own_ne R2.out HS8.out (by decide))).trans HS8.out
      have hb89 : Below w.heap.size w W9 := E3.out.trans ((((below_alloc W8 _).mono (by omega)).drew : Below w.heap.size W8 (W8.alloc (.cells #[.int .i64 x.1.sy, .int .i64 x.1.pr, .int .i64 fa, .int .i64 (x.2.1 + x.1.bt), .int .i64 x.2.2] 66)).drew).trans hgr9.below)
      have GN := (HXIN.out.below hb89).cells
      have g0 : W9.cell? ⟨w.heap.size, 0, none⟩ = some (.slice A p.length c) := cell_of_heap G9 rfl
      have z9 : W9.frozen? ⟨w.heap.size, 0, none⟩ = false := frozen_of_heap G9
      have HG9 := Lib.hid G9
      have HOWN9 := Lib.hid hown9
      have HGR9 := Lib.hid hgr9
      have hS9 := Lib.hid (show W9.cell? ⟨bx, 0, none⟩ = some (.pointer (some ⟨x.1.b, 0, none⟩)) ∧ W9.cell? ⟨bx, 2, none⟩ = some (.int .i64 x.2.2) ∧ W9.cell? ⟨x.1.b, 4, none⟩ = some (.int .i64 x.1.sy) ∧ W9.cell? ⟨x.1.b, 5, none⟩ = some (.int .i64 x.1.pr) ∧ W9.cell? ⟨Wc.heap.size, 0, none⟩ = some (.int .i64 fa) ∧ W9.cell? ⟨Wc.heap.size, 1, none⟩ = some (.int .i64 (x.2.1 + x.1.bt)) from ⟨cell_of_heap GX rfl, cell_of_heap GX rfl, GN.c4, GN.c5, cell_of_heap GS rfl, cell_of_heap GS rfl⟩)
      clear G9 hown9 hgr9 GX GS GN far
      refine hK.out _ _ (.inr ⟨g0, hS9.out⟩) ?_
      clear hK K
      (try simp only [List.getElem_toArray, List.getElem_cons_succ, List.getElem_cons_zero, Act.put, List.setIfInBounds_toArray, List.set_cons_zero, List.set_cons_succ])
      refine AnyL.step (i := 17) (by kernel_rfl) rfl (fun K hK => ?_)
      (try simp only [List.getElem_toArray, List.getElem_cons_succ, List.getElem_cons_zero])
      go_simp
      refine hK.out _ _ (.inl (by kernel_rfl)) ?_
      clear hK K
      (try simp only [List.getElem_toArray, List.getElem_cons_succ, List.getElem_cons_zero, Act.put, List.setIfInBounds_toArray, List.set_cons_zero, List.set_cons_succ])
      refine AnyL.done (by kernel_rfl) ?_ _
      dsimp only [OnNormal]
      have kt8 : KT [33, 120, 136, 3, 45] w.heap.size Wc (W8.alloc (.cells #[.int .i64 x.1.sy, .int .i64 x.1.pr, .int .i64 fa, .int .i64 (x.2.1 + x.1.bt), .int .i64 x.2.2] 66)).drew := KT.of_below (hb8.trans ((below_alloc W8 (.cells #[.int .i64 x.1.sy, .int .i64 x.1.pr, .int .i64 fa, .int .i64 (x.2.1 + x.1.bt), .int .i64 x.2.2] 66)).drew.mono hb8l)) hn1
      have kt := (kt8.grew HGR9.out ((R2.out.alloc (.cells #[.int .i64 x.1.sy, .int .i64 x.1.pr, .int .i64 fa, .int .i64 (x.2.1 + x.1.bt), .int .i64 x.2.2] 66)).drew) (by decide)).setCell (p := ⟨w.heap.size, 0, none⟩) (Nat.le_refl _) HG9.out (by decide) (.slice (some ⟨g9, 0, none⟩) (p.length + 1) c9)
      show KT _ _ _ _ ∧ _
      refine ⟨kt, _, setCell_heap (i := 0) HG9.out _, ?_, h3.trans kt.below⟩
      rw [List.map_append, List.length_append]
      have e1 : spots (p.map spotV ++ [x].map spotV) = spots (p.map spotV) ++ [.int .i64 x.1.sy, .int .i64 x.1.pr, .int .i64 fa, .int .i64 (x.2.1 + x.1.bt), .int .i64 x.2.2] := by
        unfold spots
        rw [List.flatMap_append, List.map_singleton, List.flatMap_singleton, HFA.out]
        rfl
      rw [e1]
      exact ownsRow_of_block HOWN9.out (fun k hk => Below.heap_setCell _ _ _ _ (fun e => own_ne HOWN9.out HG9.out (by decide) (by rw [hk]; exact congrArg some e.symm)))
  case done =>
    rintro D Wc hD ⟨tv, h1, h2, h3⟩ hDW
    obtain ⟨L, hL⟩ : ∃ L, (preN 0 0 n).length = L := ⟨_, rfl⟩
    have HL := Lib.hid hL
    rw [hL] at h2
    clear hL
    obtain ⟨A, c, htv⟩ := row_any h2
    subst htv
    have c0 : Wc.cell? ⟨w.heap.size, 0, none⟩ = some (.slice A L c) := cell_of_heap h1 rfl
    have H2 := Lib.hid h2
    have HDW := Lib.hid hDW
    clear h1 h2 hDW hlen
    gi_wp2_with fail
    refine leaves_marks (T := []) (n₀ := w.heap.size) (m := w.heap.size) [D] Wc (by simp) (fun D' hD' => ?_) (fun W' hat => ⟨.slice A L c, (by simp [results, Try.results31, go_sem]), .slice A L c, rfl, (by rw [HL.out]; exact row_at H2.out hat (by simp)), h3.trans hat.below⟩)
    obtain rfl := List.mem_singleton.1 hD'
    exact ⟨by omega, by omega, HDW.out⟩

end Go.Proofs.Ytcjpmgfobnaoeaa


/- Two lists of spots; the document's way down. -/
namespace Go.Proofs.Ytcjpmgfobnaoeaa
set_option linter.unusedVariables false
set_option linter.unusedSimpArgs false
open Go.RowKit

/-- The slice holds these spots. -/
def SpotsAt (w : World) (v : Value) (l : List Sp) : Prop := ∃ A c, v = .slice A l.length c ∧ ∀ i (hi : i < l.length), ∃ g, A = some ⟨g, 0, none⟩ ∧ g < w.heap.size ∧
    w.cell? ⟨g, i * 5, none⟩ = some (.int .i64 l[i].sy) ∧ w.cell? ⟨g, i * 5 + 1, none⟩ = some (.int .i64 l[i].pr) ∧ w.cell? ⟨g, i * 5 + 2, none⟩ = some (.int .i64 l[i].fa) ∧ w.cell? ⟨g, i * 5 + 3, none⟩ = some (.int .i64 l[i].fz) ∧ w.cell? ⟨g, i * 5 + 4, none⟩ = some (.int .i64 l[i].dp)

theorem SpotsAt.of_row {w : World} {base n : Nat} {v : Value} {l : List Sp} (h : w.ownsRow base 66 5 v n (spots l)) : SpotsAt w v l := by
  obtain ⟨_, A, c, h1, h2⟩ := spots_row h
  exact ⟨A, c, h1, fun i hi => by obtain ⟨g, k1, _, k2, k3⟩ := h2 i hi; exact ⟨g, k1, k2, k3⟩⟩
theorem SpotsAt.keep {w w' : World} {v : Value} {l : List Sp} (h : SpotsAt w v l) (hb : Below w.heap.size w w') : SpotsAt w' v l := by
  obtain ⟨A, c, h1, h2⟩ := h
  refine ⟨A, c, h1, fun i hi => ?_⟩
  obtain ⟨g, k1, k2, q0, q1, q2, q3, q4⟩ := h2 i hi
  exact ⟨g, k1, Nat.lt_of_lt_of_le k2 hb.size, (hb.cell (p := ⟨g, _, none⟩) k2).trans q0, (hb.cell (p := ⟨g, _, none⟩) k2).trans q1, (hb.cell (p := ⟨g, _, none⟩) k2).trans q2, (hb.cell (p := ⟨g, _, none⟩) k2).trans q3, (hb.cell (p := ⟨g, _, none⟩) k2).trans q4⟩
attribute [local irreducible] Calls
set_option maxRecDepth 100000 in
set_option maxHeartbeats 4000000 in
/-- SameSpots of lists that are the same. -/
theorem sameSpots_call (v u : Value) (l : List Sp) (w : World) (h1 : SpotsAt w v l) (h2 : SpotsAt w u l) (hl : l.length ≤ 1000000) : Calls Try.prog 35 #[v, u] w fun e w' => e = .returned (.bool true) ∧ Below w.heap.size w w' := by
  obtain ⟨A, c, rfl, h1⟩ := h1
  obtain ⟨B, d, rfl, h2⟩ := h2
  have H1 := Lib.hid h1
  have H2 := Lib.hid h2
  clear h1 h2
  have hq : ((l.length : Int) != (l.length : Int)) = false := by simp
  go_enter Try.func35, Try.ntmps35
  go_wp2_with fail
  go_loopw [5] (fun iv wx => ∃ i : Nat, iv = .int .i64 i ∧ i ≤ l.length ∧ Below w.heap.size w wx) (fun iv _ => l.length - (intOf iv).toNat)
  case atStart => exact ⟨0, rfl, by omega, Below.refl _ _⟩
  case round =>
    obtain ⟨i, rfl, hi, hbr⟩ := hrel
    by_cases hlt : i < l.length
    · obtain ⟨g, rfl, lg, q0, q1, q2, q3, q4⟩ := H1.out i hlt
      obtain ⟨k, rfl, lk, r0, r1, r2, r3, r4⟩ := H2.out i hlt
      generalize l[i] = s at q0 q1 q2 q3 q4 r0 r1 r2 r3 r4
      replace q0 := (hbr.cell (p := ⟨g, _, none⟩) lg).trans q0
      replace q1 := (hbr.cell (p := ⟨g, _, none⟩) lg).trans q1
      replace q2 := (hbr.cell (p := ⟨g, _, none⟩) lg).trans q2
      replace q3 := (hbr.cell (p := ⟨g, _, none⟩) lg).trans q3
      replace q4 := (hbr.cell (p := ⟨g, _, none⟩) lg).trans q4
      replace r0 := (hbr.cell (p := ⟨k, _, none⟩) lk).trans r0
      replace r1 := (hbr.cell (p := ⟨k, _, none⟩) lk).trans r1
      replace r2 := (hbr.cell (p := ⟨k, _, none⟩) lk).trans r2
      replace r3 := (hbr.cell (p := ⟨k, _, none⟩) lk).trans r3
      replace r4 := (hbr.cell (p := ⟨k, _, none⟩) lk).trans r4
      have e0 : (s.sy == s.sy) = true := beq_self_eq_true _
      have e1 : (s.pr == s.pr) = true := beq_self_eq_true _
      have e2 : (s.fa == s.fa) = true := beq_self_eq_true _
      have e3 : (s.fz == s.fz) = true := beq_self_eq_true _
      have e4 : (s.dp == s.dp) = true := beq_self_eq_true _
      have hltI : (i : Int) < (l.length : Int) := by omega
      have hi0 : (0 : Int) ≤ (i : Int) := Int.natCast_nonneg _
      go_wp2_with fail
      go_quiet (fail)
      go_wp2_with fail
      go_roundw
      case rel => exact ⟨i + 1, by go_num, by omega, ⟨hbr.os, hbr.tape, hbr.output, hbr.size, hbr.block⟩⟩
      case measure => simp [intOf]; omega
    · have hge : ¬ ((i : Int) < (l.length : Int)) := by omega
      go_wp2_with fail
      go_ret
      exact ⟨rfl, hbr⟩

end Go.Proofs.Ytcjpmgfobnaoeaa

/- The chapter's node: lives of layer 20. -/
namespace Go.Proofs.Ytcjpmgfobnaoeaa
set_option linter.unusedVariables false
set_option linter.unusedSimpArgs false
open Go.RowKit

/-- The chapter's node. -/
def chNd (g : Nat) (ks : Value) (g1 g2 : Nat) : Nd := makeNd g ks 5 7 0 0 false [leafNd g1 0 2 3 0 true, leafNd g2 1 0 1 0 true]
theorem chNd_e0 (g1 g2 : Nat) : makeE 5 [0, 1] 7 0 0 [leafNd g1 0 2 3 0 true, leafNd g2 1 0 1 0 true] = 0 := by rfl
theorem chNd_e1 (g1 g2 : Nat) : makeE 5 [1, 0] 7 0 0 [leafNd g1 0 2 3 0 true, leafNd g2 1 0 1 0 true] = 200 := by rfl
theorem chNd_spots (g : Nat) (ks : Value) (g1 g2 : Nat) : spotsN (chNd g ks g1 g2) = [⟨5, 7, 0, 6, 0⟩, ⟨0, -1, 2, 5, 1⟩, ⟨1, -1, 5, 6, 1⟩] := by rfl
theorem chNd_lit (w : World) (b : Nat) (h : w.heap[b]? = some (.cells #[.int .i64 5, .int .i64 7, .int .i64 0, .int .i64 6, .int .i64 0, .int .i64 0, .int .i64 (-1), .int .i64 2, .int .i64 5, .int .i64 1, .int .i64 1, .int .i64 (-1), .int .i64 5, .int .i64 6, .int .i64 1] 66 (0, 0))) : SpotsAt w (.slice (some ⟨b, 0, none⟩) 3 3) [⟨5, 7, 0, 6, 0⟩, ⟨0, -1, 2, 5, 1⟩, ⟨1, -1, 5, 6, 1⟩] := by
  have hl := (Array.getElem?_eq_some_iff.1 h).1
  refine ⟨_, 3, rfl, fun i hi => ⟨b, rfl, hl, ?_⟩⟩
  rcases i with _ | _ | _ | i
  · exact ⟨cell_of_heap h rfl, cell_of_heap h rfl, cell_of_heap h rfl, cell_of_heap h rfl, cell_of_heap h rfl⟩
  · exact ⟨cell_of_heap h rfl, cell_of_heap h rfl, cell_of_heap h rfl, cell_of_heap h rfl, cell_of_heap h rfl⟩
  · exact ⟨cell_of_heap h rfl, cell_of_heap h rfl, cell_of_heap h rfl, cell_of_heap h rfl, cell_of_heap h rfl⟩
  · simp at hi; omega

attribute [local irreducible] Calls
set_option maxRecDepth 100000 in
set_option maxHeartbeats 8000000 in
theorem lives20 (w : World) : Calls Try.prog 30 #[] w fun e w' => e = .returned (.bool true) ∧ Below w.heap.size w w' := by
  have l1 := fun W => leaf_ok 0 2 3 0 true W (by decide)
  have l2 := fun W => leaf_ok 1 0 1 0 true W (by decide)
  have l3 : ∀ W, Calls Try.prog 45 #[.agg #[.int .i64 32, .int .i64 0, .int .i64 0], .int .i64 0, .bool true] W fun e w' => e = .returned (.tuple #[.pointer none, .int .i64 2]) ∧ Below W.heap.size W w' := fun W => leaf_bad 32 0 0 0 true W (by decide)
  have hints : ∀ (W : World) (x y : Int), (W.alloc (.cells #[.int .i64 x, .int .i64 y] 3)).heap[W.heap.size]? = some (.cells #[.int .i64 x, .int .i64 y] 3 (0, 0)) := fun W x y => heap_alloc_new W _
  have hmk : ∀ (W : World) (g1 g2 : Nat) (x y : Int) (p q : Value), W.heap[g1]? = some (.cells (leafNd g1 0 2 3 0 true).cs 87 (0, 0)) → W.heap[g2]? = some (.cells (leafNd g2 1 0 1 0 true).cs 87 (0, 0)) → p = .pointer (some ⟨g1, 0, none⟩) → q = .pointer (some ⟨g2, 0, none⟩) →
      Calls Try.prog 33 #[.agg #[.int .i64 5, .slice (some ⟨W.heap.size, 0, none⟩) 2 2, .bool false], .int .i64 7, .agg #[.int .i64 0, .int .i64 0, .bool false], .slice (some ⟨W.heap.size + 1, 0, none⟩) 2 2] ((W.alloc (.cells #[.int .i64 x, .int .i64 y] 3)).alloc (.cells #[p, q] 33))
        (MakeSays ((W.alloc (.cells #[.int .i64 x, .int .i64 y] 3)).alloc (.cells #[p, q] 33)) 5 [x, y] 7 0 0 false [leafNd g1 0 2 3 0 true, leafNd g2 1 0 1 0 true]) := by
    rintro W g1 g2 x y p q h1 h2 rfl rfl
    have hb : Below W.heap.size W ((W.alloc (.cells #[.int .i64 x, .int .i64 y] 3)).alloc (.cells #[.pointer (some ⟨g1, 0, none⟩), .pointer (some ⟨g2, 0, none⟩)] 33)) := ((Below.refl _ _).alloc (Nat.le_refl _) _).alloc (by simp) _
    have e0 : ((W.alloc (.cells #[.int .i64 x, .int .i64 y] 3)).alloc (.cells #[.pointer (some ⟨g1, 0, none⟩), .pointer (some ⟨g2, 0, none⟩)] 33)).heap[W.heap.size]? = some (.cells #[.int .i64 x, .int .i64 y] 3 (0, 0)) := by
      rw [Below.heap_alloc _ _ _ (by simp)]; exact heap_alloc_new _ _
    have e1 : ((W.alloc (.cells #[.int .i64 x, .int .i64 y] 3)).alloc (.cells #[.pointer (some ⟨g1, 0, none⟩), .pointer (some ⟨g2, 0, none⟩)] 33)).heap[W.heap.size + 1]? = some (.cells #[.pointer (some ⟨g1, 0, none⟩), .pointer (some ⟨g2, 0, none⟩)] 33 (0, 0)) := heap_new2 _ _ _
    refine make_any 5 _ [x, y] false 7 0 0 false _ [leafNd g1 0 2 3 0 true, leafNd g2 1 0 1 0 true] _ ⟨_, _, rfl, fun j hj => ?_⟩ ⟨_, _, rfl, fun j hj => ?_⟩ ?_ ?_ ?_ (by simp) (by simp)
    · rcases j with _ | _ | j
      · exact ⟨_, _, rfl, cell_of_heap e0 rfl⟩
      · exact ⟨_, _, rfl, cell_of_heap e0 rfl⟩
      · simp at hj; omega
    · rcases j with _ | _ | j
      · exact ⟨_, _, rfl, cell_of_heap e1 rfl⟩
      · exact ⟨_, _, rfl, cell_of_heap e1 rfl⟩
      · simp at hj; omega
    · intro m hm
      simp only [List.mem_cons, List.not_mem_nil, or_false] at hm
      rcases hm with rfl | rfl
      · exact (leafNd_in h1).below hb
      · exact (leafNd_in h2).below hb
    · intro m hm
      simp only [List.mem_cons, List.not_mem_nil, or_false] at hm
      rcases hm with rfl | rfl
      · exact leafNd_wf (by decide)
      · exact leafNd_wf (by decide)
    · intro m hm
      simp only [List.mem_cons, List.not_mem_nil, or_false] at hm
      rcases hm with rfl | rfl
      · show (1 : Int) ≤ 1000000; omega
      · show (1 : Int) ≤ 1000000; omega
  have HM := Lib.hid hmk
  have HL1 := Lib.hid l1
  have HL2 := Lib.hid l2
  have HL3 := Lib.hid l3
  clear l1 l2 l3 hmk hints
  have hcur := Below.refl w.heap.size w
  go_enter Try.func30, Try.ntmps30
  have al2 : ∀ (W : World) (a b : Obj), Below W.heap.size W ((W.alloc a).alloc b) := fun W a b => ((Below.refl _ _).alloc (Nat.le_refl _) _).alloc (by simp) _
  have AL2 := Lib.hid al2
  clear al2
  go_upto_region 6 with (first
    | (go_at_call 45; refine (HL1.out _).mono ?_; rintro e w1 ⟨g1, rfl, hg1, hl1, hb1⟩; replace hcur := hcur.trans (hb1.mono hcur.size); have G1 := Lib.hid hg1; clear hg1 HL1)
    | (go_at_call 45; refine (HL2.out _).mono ?_; rintro e w2 ⟨g2, rfl, hg2, hl2, hb2⟩; replace hcur := hcur.trans (hb2.mono hcur.size); have G2 := Lib.hid hg2; have H1 := Lib.hid ((hb2.block _ (Array.getElem?_eq_some_iff.1 G1.out).1).trans G1.out); clear hg2 HL2)
    | (go_at_call 33; refine (HM.out _ g1 g2 0 1 _ _ H1.out G2.out rfl rfl).mono ?_; rintro e w3 hsay; obtain ⟨hb3, g, ks, rfl, hgl, hgh, hrow⟩ := hsay.ok (chNd_e0 g1 g2); have h23 := (AL2.out w2 _ _).trans (hb3.mono (AL2.out w2 _ _).size); replace hcur := hcur.trans (h23.mono hcur.size); have J1 := Lib.hid ((h23.block _ (Array.getElem?_eq_some_iff.1 H1.out).1).trans H1.out); have J2 := Lib.hid ((h23.block _ (Array.getElem?_eq_some_iff.1 G2.out).1).trans G2.out); have GH := Lib.hid hgh; have GR := Lib.hid hrow; clear hgh hrow)
    | (go_at_call 33; refine (HM.out _ g1 g2 1 0 _ _ J1.out J2.out rfl rfl).mono ?_; rintro e w4 hsay; obtain ⟨hb4, he4⟩ := hsay.bad (by rw [chNd_e1]; decide); rw [chNd_e1] at he4; subst he4; have h34 := (AL2.out w3 _ _).trans (hb4.mono (AL2.out w3 _ _).size); replace hcur := hcur.trans (h34.mono hcur.size))
    | (go_at_call 45; refine (HL3.out _).mono ?_; rintro e w5 ⟨rfl, hb5⟩; replace hcur := hcur.trans (hb5.mono hcur.size); have h35 := h34.trans (hb5.mono h34.size)))
  have hin : (chNd g ks g1 g2).In w3 := makeNd_in GH.out GR.out (by
    intro m hm
    simp only [List.mem_cons, List.not_mem_nil, or_false] at hm
    rcases hm with rfl | rfl
    · exact leafNd_in J1.out
    · exact leafNd_in J2.out)
  have hwf : (chNd g ks g1 g2).WF := makeNd_wf (body := [0, 1]) (by
    intro m hm
    simp only [List.mem_cons, List.not_mem_nil, or_false] at hm
    rcases hm with rfl | rfl
    · exact leafNd_wf (by decide)
    · exact leafNd_wf (by decide)) (chNd_e0 g1 g2)
  have hby : ∀ W, Below w3.heap.size w3 W → Calls Try.prog 36 #[.pointer (some ⟨g, 0, none⟩)] W fun e w' => e = .returned (.int .i64 6) ∧ Below W.heap.size W w' := fun W hW => bytes_some (chNd g ks g1 g2) W (hin.below hW)
  have htk : ∀ W, Below w3.heap.size w3 W → Calls Try.prog 24 #[.pointer (some ⟨g, 0, none⟩)] W fun e w' => e = .returned (.int .i64 2) ∧ Below W.heap.size W w' := fun W hW => tokens_some (chNd g ks g1 g2) W (hin.below hW)
  have hld : ∀ W, Below w3.heap.size w3 W → Calls Try.prog 37 #[.pointer (some ⟨g, 0, none⟩)] W fun e w' => e = .returned (.int .i64 2) ∧ Below W.heap.size W w' := fun W hW => lead_some (chNd g ks g1 g2) W (hin.below hW)
  have hht : ∀ W, Below w3.heap.size w3 W → Calls Try.prog 62 #[.pointer (some ⟨g, 0, none⟩)] W fun e w' => e = .returned (.int .i64 2) ∧ Below W.heap.size W w' := fun W hW => height_some (chNd g ks g1 g2) W (hin.below hW)
  have hsp : ∀ W, Below w3.heap.size w3 W → Calls Try.prog 31 #[.pointer (some ⟨g, 0, none⟩)] W fun e w' => ∃ v, e = .returned v ∧ SpotsAt w' v [⟨5, 7, 0, 6, 0⟩, ⟨0, -1, 2, 5, 1⟩, ⟨1, -1, 5, 6, 1⟩] ∧ Below W.heap.size W w' := fun W hW => by
    refine (spots_call (chNd g ks g1 g2) W (hin.below hW) hwf (show 3 ≤ 1000 by decide)).mono ?_
    rintro e w' ⟨v, rfl, hr, hb⟩
    rw [chNd_spots] at hr
    exact ⟨v, rfl, SpotsAt.of_row hr, hb⟩
  have hss : ∀ W u v, SpotsAt W u [⟨5, 7, 0, 6, 0⟩, ⟨0, -1, 2, 5, 1⟩, ⟨1, -1, 5, 6, 1⟩] → SpotsAt W v [⟨5, 7, 0, 6, 0⟩, ⟨0, -1, 2, 5, 1⟩, ⟨1, -1, 5, 6, 1⟩] → Calls Try.prog 35 #[u, v] W fun e w' => e = .returned (.bool true) ∧ Below W.heap.size W w' := fun W u v h h' => sameSpots_call u v _ W h h' (by simp)
  have HBY := Lib.hid hby
  have HTK := Lib.hid htk
  have HLD := Lib.hid hld
  have HHT := Lib.hid hht
  have HSP := Lib.hid hsp
  have HSS := Lib.hid hss
  clear hby htk hld hht hsp hss hin hwf
  go_wp2_with (first
    | (go_at_call 36; refine (HBY.out _ h35).mono ?_; rintro e w6 ⟨rfl, hb6⟩; replace hcur := hcur.trans (hb6.mono hcur.size); replace h35 := h35.trans (hb6.mono h35.size))
    | (go_at_call 24; refine (HTK.out _ h35).mono ?_; rintro e w7 ⟨rfl, hb7⟩; replace hcur := hcur.trans (hb7.mono hcur.size); replace h35 := h35.trans (hb7.mono h35.size))
    | (go_at_call 37; refine (HLD.out _ h35).mono ?_; rintro e w8 ⟨rfl, hb8⟩; replace hcur := hcur.trans (hb8.mono hcur.size); replace h35 := h35.trans (hb8.mono h35.size))
    | (go_at_call 62; refine (HHT.out _ h35).mono ?_; rintro e w9 ⟨rfl, hb9⟩; replace hcur := hcur.trans (hb9.mono hcur.size); replace h35 := h35.trans (hb9.mono h35.size))
    | (go_at_call 31; refine (HSP.out _ h35).mono ?_; rintro e w10 ⟨v10, rfl, hs10, hb10⟩; replace hcur := hcur.trans (hb10.mono hcur.size); have S10 := Lib.hid hs10; clear hs10)
    | (go_at_call 35; refine (HSS.out _ _ _ (S10.out.keep (below_alloc _ _)) (chNd_lit _ _ (heap_alloc_new _ _))).mono ?_; rintro e w11 ⟨rfl, hb11⟩; replace hcur := (hcur.alloc hcur.size _).trans (hb11.mono (hcur.alloc hcur.size _).size)))
  go_ret
  exact ⟨rfl, hcur⟩

end Go.Proofs.Ytcjpmgfobnaoeaa


/- Two trees that are the same: what SameTree, like and stamped compute, and how these hang together. Plain. -/
namespace Go.Proofs.Ytcjpmgfobnaoeaa
set_option linter.unusedVariables false
set_option linter.unusedSimpArgs false

mutual
/-- The tree without bytes. -/
def Nd.tree : Nd → Tr
  | .mk _ _ _ _ _ sy pr _ _ _ _ _ kids => .mk sy pr (NdsTree kids)
def NdsTree : List Nd → List Tr
  | [] => []
  | n :: ns => n.tree :: NdsTree ns
end
theorem NdsTree_eq : ∀ l : List Nd, NdsTree l = l.map Nd.tree
  | [] => rfl
  | n :: ns => by unfold NdsTree; rw [NdsTree_eq ns]; rfl
theorem Nd.tree_eq (n : Nd) : n.tree = .mk n.sy n.pr (n.kids.map Nd.tree) := by cases n; unfold Nd.tree; rw [NdsTree_eq]; rfl
theorem Nd.tree_sy (n : Nd) : n.tree.sy = n.sy := by rw [n.tree_eq]; rfl
theorem Nd.tree_pr (n : Nd) : n.tree.pr = n.pr := by rw [n.tree_eq]; rfl
theorem Nd.tree_kids (n : Nd) : n.tree.kids = n.kids.map Nd.tree := by rw [n.tree_eq]; rfl

mutual
/-- SameTree. -/
def Tr.same : Tr → Tr → Bool
  | .mk s p k, .mk s' p' k' => s == s' && (p == p' && TrsSame k k')
def TrsSame : List Tr → List Tr → Bool
  | [], [] => true
  | t :: ts, u :: us => t.same u && TrsSame ts us
  | [], _ :: _ => false
  | _ :: _, [] => false
end
theorem Tr.same_eq (t u : Tr) : t.same u = (t.sy == u.sy && (t.pr == u.pr && TrsSame t.kids u.kids)) := by cases t; cases u; unfold Tr.same; rfl
/-! Lists: pairwise. -/
theorem trsSame_iff : ∀ l m : List Tr, TrsSame l m = true ↔ l.length = m.length ∧ ∀ i (h : i < l.length) (h' : i < m.length), l[i].same m[i] = true
  | [], [] => by simp [TrsSame]
  | [], u :: us => by simp [TrsSame]
  | t :: ts, [] => by simp [TrsSame]
  | t :: ts, u :: us => by
    unfold TrsSame
    rw [Bool.and_eq_true, trsSame_iff ts us]
    constructor
    · rintro ⟨h1, h2, h3⟩
      refine ⟨by simp [h2], fun i h h' => ?_⟩
      cases i with
      | zero => exact h1
      | succ i => exact h3 i (by simpa using h) (by simpa using h')
    · rintro ⟨h1, h2⟩
      exact ⟨h2 0 (by simp) (by simp), by simpa using h1, fun i h h' => h2 (i + 1) (by simpa using h) (by simpa using h')⟩
/-- Two trees are the same just if they are equal. -/
theorem Tr.same_iff : ∀ t u : Tr, t.same u = true ↔ t = u := by
  refine Tr.ind ?_
  intro t ih u
  have hk : TrsSame t.kids u.kids = true ↔ t.kids = u.kids := by
    rw [trsSame_iff]
    constructor
    · rintro ⟨h1, h2⟩
      exact List.ext_getElem h1 fun i h h' => (ih _ (List.getElem_mem h) _).1 (h2 i h h')
    · intro h
      refine ⟨by rw [h], fun i h1 h2 => (ih _ (List.getElem_mem h1) _).2 ?_⟩
      simp only [h]
  rw [Tr.same_eq]
  simp only [Bool.and_eq_true, beq_iff_eq]
  rw [hk]
  cases t; cases u
  constructor
  · rintro ⟨h1, h2, h3⟩
    simp only [Tr.sy, Tr.pr, Tr.kids] at h1 h2 h3
    rw [h1, h2, h3]
  · intro h
    injection h with h1 h2 h3
    exact ⟨h1, h2, h3⟩

end Go.Proofs.Ytcjpmgfobnaoeaa

/- Plain: the reference's Tree and spots on a tree out of data; what they are on a node's. -/
namespace Go.Proofs.Ytcjpmgfobnaoeaa
set_option linter.unusedVariables false
set_option linter.unusedSimpArgs false
open PNodesTell (S79 S72 S57 S66 S64 S24 rd_T79 rd_T72)
open Go.RowKit Go.Proofs.YtcjpmgfobnaoeaaW.PrintWords Go.Proofs.YtcjpmgfobnaoeaaW.PrintMore

/-! ### Tree -/
mutual
/-- The tree without bytes. -/
def Pn.tree : Pn → Tr
  | .mk sy pr _ _ _ _ _ kids => .mk sy pr (PnsTree kids)
def PnsTree : List Pn → List Tr
  | [] => []
  | n :: ns => n.tree :: PnsTree ns
end
theorem PnsTree_eq : ∀ l : List Pn, PnsTree l = l.map Pn.tree
  | [] => rfl
  | n :: ns => by unfold PnsTree; rw [PnsTree_eq ns]; rfl
theorem Pn.tree_eq (n : Pn) : n.tree = .mk n.sy n.pr (n.kids.map Pn.tree) := by cases n; unfold Pn.tree; rw [PnsTree_eq]; rfl
mutual
/-- A tree as the printed functions have it. -/
def Tr.s24 : Tr → S24
  | .mk sy pr kids => ⟨sy, pr, TrsS24 kids⟩
def TrsS24 : List Tr → List S24
  | [] => []
  | t :: ts => t.s24 :: TrsS24 ts
end
theorem TrsS24_eq : ∀ l : List Tr, TrsS24 l = l.map Tr.s24
  | [] => rfl
  | n :: ns => by unfold TrsS24; rw [TrsS24_eq ns]; rfl
theorem Tr.s24_eq (t : Tr) : t.s24 = ⟨t.sy, t.pr, t.kids.map Tr.s24⟩ := by cases t; unfold Tr.s24; rw [TrsS24_eq]; rfl

theorem tree_loop (l : List Pn) (hl : l.length ≤ 1000000) (ih : ∀ k ∈ l, Ev (fun r => trF r k.s79) (k.sy, k.pr, (k.kids.map Pn.tree).map Tr.s24)) (x0 x1 x2 x3 x4 x5 x6 : Int) (x7 : Bool) (y0 y1 : Int) :
    ∀ (d i : Nat), l.length - i = d → i ≤ l.length →
      Ev (fun r => PNodesTell.rootstockref20_Tree.l0 r i x0 x1 x2 x3 x4 x5 x6 x7 (l.map Pn.s79) y0 y1 (((l.take i).map Pn.tree).map Tr.s24)) (y0, y1, (l.map Pn.tree).map Tr.s24) := by
  intro d
  induction d with
  | zero =>
    intro i hd hi
    refine ⟨1, fun k hk => ?_⟩
    obtain ⟨k, rfl⟩ : ∃ m, k = m + 1 := ⟨k - 1, by omega⟩
    simp only [PNodesTell.rootstockref20_Tree.l0]
    rw [if_neg (by rw [List.length_map]; omega), List.take_of_length_le (by omega)]
  | succ d ih2 =>
    intro i hd hi
    have hlt : i < l.length := by omega
    obtain ⟨K1, h1⟩ := ih l[i] (List.getElem_mem hlt)
    obtain ⟨K2, h2⟩ := ih2 (i + 1) (by omega) (by omega)
    refine ⟨max K1 K2 + 1, fun k hk => ?_⟩
    obtain ⟨k, rfl⟩ : ∃ m, k = m + 1 := ⟨k - 1, by omega⟩
    have e1 := h1 k (by omega)
    have e2 := h2 k (by omega)
    simp only [PNodesTell.rootstockref20_Tree.l0]
    rw [if_pos (by rw [List.length_map]; omega), if_pos (by omega), rd79 hlt]
    simp only [trF] at e1
    rw [e1]
    simp only [Option.bind_some]
    rw [if_pos (by rw [List.length_map, List.length_map, List.length_take]; omega), wrap_nat (by omega)]
    refine Eq.trans ?_ e2
    rw [List.take_succ_eq_append_getElem hlt, List.map_append, List.map_append, List.map_singleton, List.map_singleton, (l[i]).tree_eq, Tr.s24_eq]
    rfl
theorem tree_ev : ∀ n : Pn, n.Ok → Ev (fun r => trF r n.s79) (n.sy, n.pr, (n.kids.map Pn.tree).map Tr.s24) := by
  refine Pn.ind ?_
  intro n ih h
  have hkl := kids_len h
  have hmx := (Pn.Ok.toks n h).max
  obtain ⟨K, hK⟩ := tree_loop n.kids (by omega) (fun k hk => ih k hk (h.kid k hk)) n.sy n.pr (if n.pr < 0 then (⟨n.sy, n.tl, n.tw⟩ : S72) else ⟨0, 0, 0⟩).f0 (if n.pr < 0 then (⟨n.sy, n.tl, n.tw⟩ : S72) else ⟨0, 0, 0⟩).f1 (if n.pr < 0 then (⟨n.sy, n.tl, n.tw⟩ : S72) else ⟨0, 0, 0⟩).f2 n.st n.lk n.fm n.sy n.pr n.kids.length 0 (by omega) (by omega)
  refine ⟨K + 1, fun k hk => ?_⟩
  obtain ⟨k, rfl⟩ : ∃ m, k = m + 1 := ⟨k - 1, by omega⟩
  simp only [trF]
  rw [n.s79_eq]
  simp only [PNodesTell.rootstockref20_Tree.f]
  exact hK k (by omega)
theorem plain_tree : ∀ n : Nd, n.plain.tree = n.tree := by
  refine Nd.ind ?_
  intro n ih
  rw [n.plain_eq, Pn.tree_eq]
  cases n with
  | mk b tk bt ld ht sy pr wd st lk fm ks kids =>
    simp only [Pn.sy, Pn.pr, Pn.kids, Nd.sy, Nd.pr, Nd.kids] at *
    unfold Nd.tree
    rw [NdsTree_eq, List.map_map]
    congr 1
    exact List.map_congr_left ih

/-! ### spots -/
def s66 (s : Sp) : S66 := ⟨s.sy, s.pr, ⟨s.fa, s.fz⟩, s.dp⟩
mutual
/-- The places in a node that begins at a place. -/
def Pn.spots (a d : Int) : Pn → List Sp
  | .mk sy pr tl tw st lk fm kids => ⟨sy, pr, a + (Pn.mk sy pr tl tw st lk fm kids).lead, a + (Pn.mk sy pr tl tw st lk fm kids).bytes, d⟩ :: PnsSpots a (d + 1) kids
def PnsSpots (a d : Int) : List Pn → List Sp
  | [] => []
  | n :: ns => n.spots a d ++ PnsSpots (a + n.bytes) d ns
end
theorem Pn.spots_eq (n : Pn) (a d : Int) : n.spots a d = ⟨n.sy, n.pr, a + n.lead, a + n.bytes, d⟩ :: PnsSpots a (d + 1) n.kids := by cases n; rw [Pn.spots]; rfl
theorem PnsSpots_cons (a d : Int) (n : Pn) (ns : List Pn) : PnsSpots a d (n :: ns) = n.spots a d ++ PnsSpots (a + n.bytes) d ns := by rw [PnsSpots]

theorem lead_le {n : Pn} (h : n.Ok) : 0 ≤ n.lead ∧ n.lead ≤ 65536 := by
  have ht := Pn.Ok.toks n h
  have hb := ht.by1
  have hl := ht.lo
  unfold Pn.lead
  unfold Pn.bytes at hb
  cases hv : n.leaves with
  | nil => simp
  | cons t ts =>
    rw [hv] at hb hl
    have h1 := hl t (by simp)
    have h2 := bytesOf_nn (l := ts) fun s hs => hl s (by simp [hs])
    simp only [bytesOf, List.map_cons, List.sum_cons] at hb h2
    simp only []
    omega

theorem bytes_kids {n : Pn} (h : 0 ≤ n.pr) : n.bytes = (n.kids.map Pn.bytes).sum := by
  unfold Pn.bytes
  rw [n.leaves_eq, if_neg (by omega)]
  generalize n.kids = l
  induction l with
  | nil => unfold PnsLeaves; rfl
  | cons k ks ih => unfold PnsLeaves; rw [bytesOf_append, ih]; rfl
theorem bytes_sum {n : Pn} (h : n.Ok) : (n.kids.map Pn.bytes).sum ≤ n.bytes := by
  rcases h.one.cases_ with ⟨_, h2, _⟩ | ⟨h1, _⟩
  · rw [h2]; exact (Pn.Ok.toks n h).by0
  · rw [bytes_kids h1]; exact Int.le_refl _

theorem spots_loop (d0 : Int) (hd0 : 0 ≤ d0) (hd1 : d0 ≤ 1000000) (l : List Pn) (hl : l.length ≤ 1000000) (hok : ∀ k ∈ l, k.Ok) (ih : ∀ k ∈ l, ∀ a : Int, 0 ≤ a → a + k.bytes ≤ 1000000 → (k.spots a (d0 + 1)).length ≤ 1000000 → Ev (fun r => spF r k.s79 a (d0 + 1)) ((k.spots a (d0 + 1)).map s66)) (x0 x1 x2 x3 x4 x5 x6 : Int) (x7 : Bool) :
    ∀ (d i : Nat), l.length - i = d → i ≤ l.length → ∀ (a : Int) (acc : List S66), 0 ≤ a → a + ((l.drop i).map Pn.bytes).sum ≤ 1000000 → acc.length + (PnsSpots a (d0 + 1) (l.drop i)).length ≤ 1000000 →
      Ev (fun r => PNodesTell.rootstockref20_spots.l0 r a d0 acc i x0 x1 x2 x3 x4 x5 x6 x7 (l.map Pn.s79)) (acc ++ (PnsSpots a (d0 + 1) (l.drop i)).map s66) := by
  intro d
  induction d with
  | zero =>
    intro i hd hi a acc _ _ _
    refine ⟨1, fun k hk => ?_⟩
    obtain ⟨k, rfl⟩ : ∃ m, k = m + 1 := ⟨k - 1, by omega⟩
    simp only [PNodesTell.rootstockref20_spots.l0]
    rw [if_neg (by rw [List.length_map]; omega), List.drop_of_length_le (by omega)]
    simp [PnsSpots]
  | succ d ih2 =>
    intro i hd hi a acc ha hsum hlen
    have hlt : i < l.length := by omega
    have hm : l[i] ∈ l := List.getElem_mem hlt
    rw [drop_pn hlt, PnsSpots_cons] at hlen ⊢
    rw [drop_pn hlt, List.map_cons, List.sum_cons] at hsum
    rw [List.length_append] at hlen
    have hs0 : 0 ≤ ((l.drop (i + 1)).map Pn.bytes).sum := by
      have : ∀ q : List Pn, (∀ k ∈ q, k.Ok) → 0 ≤ (q.map Pn.bytes).sum := by
        intro q
        induction q with
        | nil => intro _; simp
        | cons k ks ihq =>
          intro hq
          have h1 := (Pn.Ok.toks k (hq k (by simp))).by0
          have h2 := ihq fun x hx => hq x (by simp [hx])
          simp only [List.map_cons, List.sum_cons]
          omega
      exact this _ fun k hk => hok k (List.mem_of_mem_drop hk)
    have hb0 := (Pn.Ok.toks _ (hok _ hm)).by0
    obtain ⟨K1, h1⟩ := ih l[i] hm a ha (by omega) (by omega)
    obtain ⟨K3, h3⟩ := bytes_ev (hok _ hm)
    obtain ⟨K2, h2⟩ := ih2 (i + 1) (by omega) (by omega) (a + (l[i]).bytes) (acc ++ ((l[i]).spots a (d0 + 1)).map s66) (by omega) (by omega) (by rw [List.length_append, List.length_map]; omega)
    refine ⟨max K1 (max K2 K3) + 1, fun k hk => ?_⟩
    obtain ⟨k, rfl⟩ : ∃ m, k = m + 1 := ⟨k - 1, by omega⟩
    have e1 := h1 k (by omega)
    have e2 := h2 k (by omega)
    have e3 := h3 k (by omega)
    simp only [PNodesTell.rootstockref20_spots.l0]
    rw [if_pos (by rw [List.length_map]; omega), if_pos (by omega), rd79 hlt, show wrap64 (d0 + 1) = d0 + 1 by unfold wrap64; omega]
    simp only [spF] at e1
    simp only [byF] at e3
    rw [e1]
    simp only [Option.bind_some]
    rw [if_pos (by rw [List.length_map]; omega), e3]
    simp only [Option.bind_some]
    rw [wrap_nat (by omega), show wrap64 (a + (l[i]).bytes) = a + (l[i]).bytes by unfold wrap64; omega]
    refine Eq.trans e2 ?_
    rw [List.map_append, List.append_assoc]

theorem spots_ev : ∀ n : Pn, n.Ok → ∀ a d : Int, 0 ≤ a → a + n.bytes ≤ 1000000 → 0 ≤ d → d + n.height ≤ 1000000 → (n.spots a d).length ≤ 1000000 → Ev (fun r => spF r n.s79 a d) ((n.spots a d).map s66) := by
  refine Pn.ind ?_
  intro n ih h a d ha hb hd hh hlen
  have hkl := kids_len h
  have ht := Pn.Ok.toks n h
  have hmx := ht.max
  have hld := lead_le h
  have hb1 := ht.by1
  have hb0 := ht.by0
  rw [n.height_eq] at hh
  have hph := PnsHeight_nonneg n.kids
  rw [n.spots_eq] at hlen ⊢
  rw [List.length_cons] at hlen
  have hin : ∀ l : List Pn, ∀ k ∈ l, k.height ≤ PnsHeight l := by
    intro l
    induction l with
    | nil => intro k hk; cases hk
    | cons q qs ihq =>
      intro k hk
      unfold PnsHeight
      rcases List.mem_cons.1 hk with rfl | hk
      · omega
      · have := ihq k hk; omega
  obtain ⟨K1, h1⟩ := lead_ev h
  obtain ⟨K2, h2⟩ := bytes_ev h
  obtain ⟨K3, h3⟩ := spots_loop d hd (by omega) n.kids (by omega) h.kid (fun k hk a' h0 h1 h2 => ih k hk (h.kid k hk) a' (d + 1) h0 h1 (by omega) (by have := hin _ k hk; omega) h2) n.sy n.pr (if n.pr < 0 then (⟨n.sy, n.tl, n.tw⟩ : S72) else ⟨0, 0, 0⟩).f0 (if n.pr < 0 then (⟨n.sy, n.tl, n.tw⟩ : S72) else ⟨0, 0, 0⟩).f1 (if n.pr < 0 then (⟨n.sy, n.tl, n.tw⟩ : S72) else ⟨0, 0, 0⟩).f2 n.st n.lk n.fm n.kids.length 0 (by omega) (by omega) a [s66 ⟨n.sy, n.pr, a + n.lead, a + n.bytes, d⟩] ha (by have := bytes_sum h; rw [List.drop_zero]; omega) (by rw [List.drop_zero]; simp; omega)
  refine ⟨max K1 (max K2 K3) + 1, fun k hk => ?_⟩
  obtain ⟨k, rfl⟩ : ∃ m, k = m + 1 := ⟨k - 1, by omega⟩
  have e1 := h1 k (by omega)
  have e2 := h2 k (by omega)
  have e3 := h3 k (by omega)
  simp only [ldF] at e1
  simp only [byF] at e2
  simp only [spF, PNodesTell.rootstockref20_spots.f]
  rw [e1]
  simp only [Option.bind_some]
  rw [e2]
  simp only [Option.bind_some]
  rw [show wrap64 (a + n.lead) = a + n.lead by unfold wrap64; omega, show wrap64 (a + n.bytes) = a + n.bytes by unfold wrap64; have := ht.by0; omega]
  rw [List.drop_zero] at e3
  rw [n.s79_eq]
  exact e3

/-- The places of a node's plain tree are its visits'. -/
def rawV (v : Vs) : Sp := ⟨v.1.sy, v.1.pr, v.2.1 + v.1.ld, v.2.1 + v.1.bt, v.2.2⟩
theorem plain_spots : ∀ n : Nd, n.WF → ∀ a d, n.plain.spots a d = (preN a d n).map rawV := by
  refine Nd.ind ?_
  intro n ih h a d
  obtain ⟨_, b2, b3, _⟩ := Nd.WF.adds n h
  have hk : ∀ l : List Nd, (∀ k ∈ l, k ∈ n.kids) → ∀ a d, PnsSpots a d (l.map Nd.plain) = (preK a d l).map rawV := by
    intro l
    induction l with
    | nil => intro _ a d; rw [List.map_nil, PnsSpots, preK]; rfl
    | cons k ks ihl =>
      intro hl a d
      have hkm := hl k (by simp)
      obtain ⟨_, c2, _, _⟩ := Nd.WF.adds k (h.kid k hkm)
      rw [List.map_cons, PnsSpots_cons, preK_cons, List.map_append, ih k hkm (h.kid k hkm), ihl (fun x hx => hl x (by simp [hx])), ← c2]
  rw [Pn.spots_eq, preN_kids, List.map_cons, ← b2, ← b3]
  congr 1
  · show Sp.mk n.plain.sy n.plain.pr _ _ _ = _
    rw [n.plain_eq]; rfl
  · rw [n.plain_eq]
    exact hk n.kids (fun _ h => h) a (d + 1)

theorem preK_deep (d : Int) (hd : 0 < d) : ∀ n : Nd, ∀ a d', d ≤ d' → ∀ v ∈ preN a d' n, 0 < v.2.2 := by
  refine Nd.ind ?_
  intro n ih a d' hd' v hv
  rw [preN_kids] at hv
  rcases List.mem_cons.1 hv with rfl | hv
  · show 0 < d'; omega
  · have hk : ∀ l : List Nd, (∀ k ∈ l, k ∈ n.kids) → ∀ a, v ∈ preK a (d' + 1) l → 0 < v.2.2 := by
      intro l
      induction l with
      | nil => intro _ a hv; rw [preK] at hv; cases hv
      | cons k ks ihl =>
        intro hl a hv
        rw [preK_cons] at hv
        rcases List.mem_append.1 hv with hv | hv
        · exact ih k (hl k (by simp)) a (d' + 1) (by omega) v hv
        · exact ihl (fun x hx => hl x (by simp [hx])) _ hv
    exact hk n.kids (fun _ h => h) a hv
/-- The first one's place begins at 0; all others are as they are. -/
theorem spotsN_raw (n : Nd) : ∃ s l, (preN 0 0 n).map rawV = s :: l ∧ spotsN n = { s with fa := 0 } :: l := by
  refine ⟨rawV (n, 0, 0), (preK 0 (0 + 1) n.kids).map rawV, by rw [preN_kids]; rfl, ?_⟩
  unfold spotsN
  rw [preN_kids, List.map_cons]
  congr 1
  refine List.map_congr_left fun v hv => ?_
  have hpos : 0 < v.2.2 := by
    have hk : ∀ (l : List Nd) a, v ∈ preK a 1 l → 0 < v.2.2 := by
      intro l
      induction l with
      | nil => intro a hv; rw [preK] at hv; cases hv
      | cons k ks ihl =>
        intro a hv
        rw [preK_cons] at hv
        rcases List.mem_append.1 hv with hv | hv
        · exact preK_deep 1 (by omega) k a 1 (by omega) v hv
        · exact ihl _ hv
    exact hk n.kids 0 hv
  unfold spotV rawV
  rw [if_neg (by omega)]

end Go.Proofs.Ytcjpmgfobnaoeaa

/- Nodes of the reference as data: how they are read; what its functions answer on them. -/
namespace Go.Proofs.Ytcjpmgfobnaoeaa
set_option linter.unusedVariables false
set_option linter.unusedSimpArgs false
open PNodesTell (S79 S72 S57 S66 S64 S24 rd_T79 rd_T72 k79 k72 k66 k24 k57)
open Go.RowKit Go.Proofs.YtcjpmgfobnaoeaaW.PrintWords Go.Proofs.YtcjpmgfobnaoeaaW.PrintMore

/-- A node as a value. -/
def nodeV (s : S79) (kv : Value) : Value := .agg #[.int .i64 s.f0, .int .i64 s.f1, .int .i64 s.f2.f0, .int .i64 s.f2.f1, .int .i64 s.f2.f2, .int .i64 s.f3.f0, .int .i64 s.f3.f1, .bool s.f3.f2, kv]

theorem spot_none {w : World} {ad : Addr} {v : Value} (h : w.cell? ad = some v) : ∃ b o, ad = ⟨b, o, none⟩ ∧ b < w.heap.size := by
  obtain ⟨b, o, sp⟩ := ad
  have hb := World.block_lt_of_cell? w _ h
  cases sp with
  | none => exact ⟨b, o, rfl, hb⟩
  | some x =>
    unfold World.cell? at h
    simp at h
    split at h <;> simp at h

/-- The cells of a kid, and what it has for kids. -/
theorem at79 {w : World} {A : Option Addr} {l : List S79} (h : k79.C w A l.length l) {i : Nat} (hi : i < l.length) : ∃ b o A8 c8, A = some ⟨b, o, none⟩ ∧ b < w.heap.size ∧
    w.cell? ⟨b, o + i * 9, none⟩ = some (.int .i64 (l[i]).f0) ∧ w.cell? ⟨b, o + i * 9 + 1, none⟩ = some (.int .i64 (l[i]).f1) ∧ w.cell? ⟨b, o + i * 9 + 2, none⟩ = some (.int .i64 (l[i]).f2.f0) ∧
    w.cell? ⟨b, o + i * 9 + 3, none⟩ = some (.int .i64 (l[i]).f2.f1) ∧ w.cell? ⟨b, o + i * 9 + 4, none⟩ = some (.int .i64 (l[i]).f2.f2) ∧ w.cell? ⟨b, o + i * 9 + 5, none⟩ = some (.int .i64 (l[i]).f3.f0) ∧
    w.cell? ⟨b, o + i * 9 + 6, none⟩ = some (.int .i64 (l[i]).f3.f1) ∧ w.cell? ⟨b, o + i * 9 + 7, none⟩ = some (.bool (l[i]).f3.f2) ∧ w.cell? ⟨b, o + i * 9 + 8, none⟩ = some (.slice A8 (l[i]).f4.length c8) ∧
    (l[i]).f4.length ≤ c8 ∧ k79.C w A8 (l[i]).f4.length (l[i]).f4 := by
  obtain ⟨ad0, A0, c0, e0, h00, _⟩ := PNodesTell.at_T79 h 0 (by omega) (by omega)
  have h00' : w.cell? ad0 = some (.int .i64 (rd_T79 l 0).f0) := by simpa [Addr.add] using h00
  obtain ⟨b, o, rfl, hb⟩ := spot_none h00'
  obtain ⟨ad, A8, c8, e, h0, h1, h2, h3, h4, h5, h6, h7, h8, h9, h10⟩ := PNodesTell.at_T79 h (i : Int) (by omega) (by omega)
  rw [e0] at e
  injection e with e
  subst e
  have hr : rd_T79 l (i : Int) = l[i] := by simp [rd_T79, List.getD_eq_getElem?_getD, hi]
  rw [hr] at h0 h1 h2 h3 h4 h5 h6 h7 h8 h9 h10
  simp only [Int.toNat_natCast, Addr.add_lit] at h0 h1 h2 h3 h4 h5 h6 h7 h8
  exact ⟨b, o, A8, c8, e0, hb, h0, h1, h2, h3, h4, h5, h6, h7, h8, h9, h10⟩

/-! ### The reference's functions -/
theorem refBytes_call {n : Pn} (h : n.Ok) {s : S79} (hs : n.s79 = s) {A : Option Addr} {c : Nat} {w : World} (hC : k79.C w A s.f4.length s.f4) (hc : s.f4.length ≤ c) :
    Calls Try.prog 77 #[nodeV s (.slice A s.f4.length c)] w fun e w' => e = .returned (.int .i64 n.bytes) ∧ Below w.heap.size w w' := by
  obtain ⟨k, hk⟩ := (bytes_ev h).rounds
  subst hs
  exact PNodesTell.rootstockref20_Bytes.calls k _ _ _ _ _ _ _ _ _ c _ _ w hC hc hk
theorem refLead_call {n : Pn} (h : n.Ok) {s : S79} (hs : n.s79 = s) {A : Option Addr} {c : Nat} {w : World} (hC : k79.C w A s.f4.length s.f4) (hc : s.f4.length ≤ c) :
    Calls Try.prog 78 #[nodeV s (.slice A s.f4.length c)] w fun e w' => e = .returned (.int .i64 n.lead) ∧ Below w.heap.size w w' := by
  obtain ⟨k, hk⟩ := (lead_ev h).rounds
  subst hs
  exact PNodesTell.rootstockref20_Lead.calls k _ _ _ _ _ _ _ _ _ c _ _ w hC hc hk
theorem refHeight_call {n : Pn} (h : n.Ok) (hh : n.height ≤ 1000000) {s : S79} (hs : n.s79 = s) {A : Option Addr} {c : Nat} {w : World} (hC : k79.C w A s.f4.length s.f4) (hc : s.f4.length ≤ c) :
    Calls Try.prog 79 #[nodeV s (.slice A s.f4.length c)] w fun e w' => e = .returned (.int .i64 n.height) ∧ Below w.heap.size w w' := by
  obtain ⟨k, hk⟩ := (height_ev n h hh).rounds
  subst hs
  exact PNodesTell.rootstockref20_Height.calls k _ _ _ _ _ _ _ _ _ c _ _ w hC hc hk
theorem refLeaves_call {n : Pn} (h : n.Ok) {s : S79} (hs : n.s79 = s) {A : Option Addr} {c : Nat} {w : World} (hC : k79.C w A s.f4.length s.f4) (hc : s.f4.length ≤ c) :
    Calls Try.prog 51 #[nodeV s (.slice A s.f4.length c)] w fun e w' => ∃ v, e = .returned v ∧ k72.R 72 w' w.heap.size (fun _ => True) v (n.leaves.map t72) ∧ Below w.heap.size w w' := by
  obtain ⟨k, hk⟩ := (leaves_ev h).rounds
  subst hs
  exact PNodesTell.rootstockref20_Leaves.calls k _ _ _ _ _ _ _ _ _ c _ _ w hC hc hk
theorem refTree_call {n : Pn} (h : n.Ok) {s : S79} (hs : n.s79 = s) {A : Option Addr} {c : Nat} {w : World} (hC : k79.C w A s.f4.length s.f4) (hc : s.f4.length ≤ c) :
    Calls Try.prog 55 #[nodeV s (.slice A s.f4.length c)] w fun e w' => ∃ v, e = .returned (.agg #[.int .i64 n.sy, .int .i64 n.pr, v]) ∧ k24.R 24 w' w.heap.size (fun _ => True) v ((n.kids.map Pn.tree).map Tr.s24) ∧ Below w.heap.size w w' := by
  obtain ⟨k, hk⟩ := (tree_ev n h).rounds
  subst hs
  exact PNodesTell.rootstockref20_Tree.calls k _ _ _ _ _ _ _ _ _ c _ _ _ _ w hC hc hk
theorem refspots_call {n : Pn} (h : n.Ok) (hh : n.height ≤ 1000000) (hl : (n.spots 0 0).length ≤ 1000000) {s : S79} (hs : n.s79 = s) {A : Option Addr} {c : Nat} {w : World} (hC : k79.C w A s.f4.length s.f4) (hc : s.f4.length ≤ c) :
    Calls Try.prog 83 #[nodeV s (.slice A s.f4.length c), .int .i64 0, .int .i64 0] w fun e w' => ∃ v, e = .returned v ∧ k66.R 66 w' w.heap.size (fun _ => True) v ((n.spots 0 0).map s66) ∧ Below w.heap.size w w' := by
  obtain ⟨k, hk⟩ := (spots_ev n h 0 0 (by omega) (by have := (Pn.Ok.toks n h).by1; omega) (by omega) (by omega) hl).rounds
  subst hs
  exact PNodesTell.rootstockref20_spots.calls k _ _ _ _ _ _ _ _ _ c _ _ _ _ w hC hc hk

/-! ### From the printed rows to those of the walks -/
theorem reps_flat {α : Type} {R : α → List Value → Prop} {enc : α → List Value} {sz : Nat} (hR : ∀ p c, R p c → c = enc p) : ∀ (ps : List α) (cs : List Value), Reps R sz ps cs → cs = ps.flatMap enc
  | [], cs, h => by have := h.1; simp at this; simp [this]
  | p :: ps, cs, h => by
    have h0 := hR p _ (h.2 0 p rfl)
    rw [Nat.zero_mul, List.drop_zero] at h0
    have ht : Reps R sz ps (cs.drop sz) := by
      refine ⟨by rw [List.length_drop, h.1, List.length_cons, Nat.add_mul, Nat.one_mul]; omega, fun j q hq => ?_⟩
      have := h.2 (j + 1) q (by simpa using hq)
      rw [List.drop_drop]
      rwa [show sz + j * sz = (j + 1) * sz by rw [Nat.add_mul, Nat.one_mul]; omega]
    rw [List.flatMap_cons, ← h0, ← reps_flat hR ps _ ht, List.take_append_drop]

theorem row_of_R {α : Type} {d : Kd α} {e : Nat} {enc : α → List Value} {w : World} {base : Nat} {ok : Nat → Prop} {v : Value} {l : List α} (henc : ∀ {ok x cs}, d.M w base ok x cs → cs = enc x) (h : d.R e w base ok v l) : w.ownsRow base e d.sz v l.length (l.flatMap enc) := by
  obtain ⟨_, inner, ho, hr⟩ := h
  rwa [reps_flat (fun p c hp => henc hp) _ _ hr] at ho

theorem toks_of_R {w : World} {base : Nat} {ok : Nat → Prop} {v : Value} {l : List (Int × Int × Int)} (h : k72.R 72 w base ok v (l.map t72)) : w.ownsRow base 72 3 v l.length (l.flatMap fun t => [.int .i64 t.1, .int .i64 t.2.1, .int .i64 t.2.2]) := by
  have := row_of_R (enc := fun x => [.int .i64 x.f0, .int .i64 x.f1, .int .i64 x.f2]) (fun h => PNodesTell.k72_openM h) h
  rw [List.length_map, List.flatMap_map] at this
  exact this
theorem spots_of_R {w : World} {base : Nat} {ok : Nat → Prop} {v : Value} {l : List Sp} (h : k66.R 66 w base ok v (l.map s66)) : w.ownsRow base 66 5 v l.length (spots l) := by
  have := row_of_R (enc := fun x => [.int .i64 x.f0, .int .i64 x.f1, .int .i64 x.f2.f0, .int .i64 x.f2.f1, .int .i64 x.f3]) (fun h => PNodesTell.k66_openM h) h
  rw [List.length_map, List.flatMap_map] at this
  exact this

theorem at24 {w : World} {A : Option Addr} {l : List S24} (h : k24.C w A l.length l) {i : Nat} (hi : i < l.length) : ∃ b o A8 c8, A = some ⟨b, o, none⟩ ∧ b < w.heap.size ∧
    w.cell? ⟨b, o + i * 3, none⟩ = some (.int .i64 (l[i]).f0) ∧ w.cell? ⟨b, o + i * 3 + 1, none⟩ = some (.int .i64 (l[i]).f1) ∧ w.cell? ⟨b, o + i * 3 + 2, none⟩ = some (.slice A8 (l[i]).f2.length c8) ∧
    (l[i]).f2.length ≤ c8 ∧ k24.C w A8 (l[i]).f2.length (l[i]).f2 := by
  obtain ⟨ad0, A0, c0, e0, h00, _⟩ := PNodesTell.at_T24 h 0 (by omega) (by omega)
  have h00' : w.cell? ad0 = some (.int .i64 (PNodesTell.rd_T24 l 0).f0) := by simpa [Addr.add] using h00
  obtain ⟨b, o, rfl, hb⟩ := spot_none h00'
  obtain ⟨ad, A8, c8, e, h0, h1, h2, h9, h10⟩ := PNodesTell.at_T24 h (i : Int) (by omega) (by omega)
  rw [e0] at e
  injection e with e
  subst e
  have hr : PNodesTell.rd_T24 l (i : Int) = l[i] := by simp [PNodesTell.rd_T24, List.getD_eq_getElem?_getD, hi]
  rw [hr] at h0 h1 h2 h9 h10
  simp only [Int.toNat_natCast, Addr.add_lit] at h0 h1 h2
  exact ⟨b, o, A8, c8, e0, hb, h0, h1, h2, h9, h10⟩

theorem tr_of_C (w : World) : ∀ (t : Tr) (A : Option Addr) (c : Nat), k24.C w A t.kids.length (t.kids.map Tr.s24) → t.kids.length ≤ c → t.At w.heap.size w (.slice A t.kids.length c) := by
  refine Tr.ind ?_
  intro t ih A c hC hc
  have hl : (t.kids.map Tr.s24).length = t.kids.length := by simp
  rw [← hl] at hC
  have goal : ∀ (d i : Nat), t.kids.length - i = d → i ≤ t.kids.length → TrsAt w.heap.size w A i (t.kids.drop i) := by
    intro d
    induction d with
    | zero => intro i hd hi; rw [List.drop_of_length_le (by omega)]; unfold TrsAt; trivial
    | succ d ihd =>
      intro i hd hi
      have hlt : i < t.kids.length := by omega
      rw [List.drop_eq_getElem_cons hlt]
      unfold TrsAt
      refine ⟨?_, ihd (i + 1) (by omega) (by omega)⟩
      obtain ⟨b, o, A8, c8, rfl, hb, h0, h1, h2, h3, h4⟩ := at24 hC (i := i) (by omega)
      have e : (t.kids.map Tr.s24)[i]'(by omega) = (t.kids[i]).s24 := by simp
      rw [e, (t.kids[i]).s24_eq] at h0 h1 h2 h3 h4
      simp only [List.length_map] at h2 h3 h4
      exact ⟨b, o, _, rfl, hb, h0, h1, h2, ih _ (List.getElem_mem hlt) A8 c8 h4 h3⟩
  have h0 := goal t.kids.length 0 (by omega) (by omega)
  rw [List.drop_zero] at h0
  cases t with
  | mk sy pr kids => unfold Tr.At; exact ⟨A, c, rfl, hc, h0⟩

theorem tree_of_R {w : World} {base : Nat} {ok : Nat → Prop} {v : Value} {t : Tr} (h : k24.R 24 w base ok v (t.kids.map Tr.s24)) : t.At w.heap.size w v := by
  obtain ⟨A, c, rfl, hl, hC⟩ := Kd.R_reads h
  rw [List.length_map] at *
  exact tr_of_C w t A c hC hl

end Go.Proofs.Ytcjpmgfobnaoeaa

/- The reference's Make: the walk. -/
namespace Go.Proofs.Ytcjpmgfobnaoeaa
set_option linter.unusedVariables false
set_option linter.unusedSimpArgs false
open PNodesTell (S79 S72 S57 S66 S64 S24 k79 k72)
open Go.RowKit Go.Proofs.YtcjpmgfobnaoeaaW.PrintWords
attribute [local irreducible] Calls

/-- The node that is none. -/
def zs79 : Array Value := #[.int .i64 0, .int .i64 0, .int .i64 0, .int .i64 0, .int .i64 0, .int .i64 0, .int .i64 0, .bool false, .slice none 0 0]
def zero79 : Value := .agg zs79

/-- What the reference's Make says. -/
def RefMakeSays (w : World) (head : Int) (body : List Int) (prod st lk : Int) (fm : Bool) (kids : List Pn) (kv : Value) (e : Ending) (w' : World) : Prop :=
  Below w.heap.size w w' ∧
  ((∃ x, makeP head body prod st lk fm kids = .error x ∧ x ≠ 0 ∧ e = .returned (.tuple #[zero79, .int .i64 x])) ∨
   (makeP head body prod st lk fm kids = .ok (.mk head prod 0 0 st lk fm kids) ∧
      e = .returned (.tuple #[.agg #[.int .i64 head, .int .i64 prod, .int .i64 0, .int .i64 0, .int .i64 0, .int .i64 st, .int .i64 lk, .bool fm, kv], .int .i64 0])))

/-- Nine cells stored. -/
def put9 (W : World) (g : Nat) (v0 v1 v2 v3 v4 v5 v6 v7 v8 : Value) : World :=
  ((((((((W.setCell ⟨g, 0, none⟩ v0).setCell ⟨g, 1, none⟩ v1).setCell ⟨g, 2, none⟩ v2).setCell ⟨g, 3, none⟩ v3).setCell ⟨g, 4, none⟩ v4).setCell ⟨g, 5, none⟩ v5).setCell ⟨g, 6, none⟩ v6).setCell ⟨g, 7, none⟩ v7).setCell ⟨g, 8, none⟩ v8
theorem put9_heap {W : World} {g : Nat} {a0 a1 a2 a3 a4 a5 a6 a7 a8 : Value} (h : W.heap[g]? = some (.cells #[a0, a1, a2, a3, a4, a5, a6, a7, a8] 79 (0, 0))) (v0 v1 v2 v3 v4 v5 v6 v7 v8 : Value) :
    (put9 W g v0 v1 v2 v3 v4 v5 v6 v7 v8).heap[g]? = some (.cells #[v0, v1, v2, v3, v4, v5, v6, v7, v8] 79 (0, 0)) := by
  have h0 := setCell_heap (i := 0) h v0
  simp only [List.setIfInBounds_toArray, List.set_cons_zero, List.set_cons_succ] at h0
  have h1 := setCell_heap (i := 1) h0 v1
  simp only [List.setIfInBounds_toArray, List.set_cons_zero, List.set_cons_succ] at h1
  have h2 := setCell_heap (i := 2) h1 v2
  simp only [List.setIfInBounds_toArray, List.set_cons_zero, List.set_cons_succ] at h2
  have h3 := setCell_heap (i := 3) h2 v3
  simp only [List.setIfInBounds_toArray, List.set_cons_zero, List.set_cons_succ] at h3
  have h4 := setCell_heap (i := 4) h3 v4
  simp only [List.setIfInBounds_toArray, List.set_cons_zero, List.set_cons_succ] at h4
  have h5 := setCell_heap (i := 5) h4 v5
  simp only [List.setIfInBounds_toArray, List.set_cons_zero, List.set_cons_succ] at h5
  have h6 := setCell_heap (i := 6) h5 v6
  simp only [List.setIfInBounds_toArray, List.set_cons_zero, List.set_cons_succ] at h6
  have h7 := setCell_heap (i := 7) h6 v7
  simp only [List.setIfInBounds_toArray, List.set_cons_zero, List.set_cons_succ] at h7
  have h8 := setCell_heap (i := 8) h7 v8
  simp only [List.setIfInBounds_toArray, List.set_cons_zero, List.set_cons_succ] at h8
  exact h8
theorem put9_below {W w : World} {g B : Nat} (hb : Below B w W) (hB : B ≤ g) (v0 v1 v2 v3 v4 v5 v6 v7 v8 : Value) : Below B w (put9 W g v0 v1 v2 v3 v4 v5 v6 v7 v8) :=
  ((((((((hb.setCell (p := ⟨g, 0, none⟩) hB _).setCell (p := ⟨g, 1, none⟩) hB _).setCell (p := ⟨g, 2, none⟩) hB _).setCell (p := ⟨g, 3, none⟩) hB _).setCell (p := ⟨g, 4, none⟩) hB _).setCell (p := ⟨g, 5, none⟩) hB _).setCell (p := ⟨g, 6, none⟩) hB _).setCell (p := ⟨g, 7, none⟩) hB _).setCell (p := ⟨g, 8, none⟩) hB _
theorem put9_far (W : World) (g : Nat) (v0 v1 v2 v3 v4 v5 v6 v7 v8 : Value) (k : Nat) (hk : k ≠ g) : (put9 W g v0 v1 v2 v3 v4 v5 v6 v7 v8).heap[k]? = W.heap[k]? := by
  unfold put9
  rw [Below.heap_setCell _ _ _ _ hk, Below.heap_setCell _ _ _ _ hk, Below.heap_setCell _ _ _ _ hk, Below.heap_setCell _ _ _ _ hk, Below.heap_setCell _ _ _ _ hk, Below.heap_setCell _ _ _ _ hk, Below.heap_setCell _ _ _ _ hk, Below.heap_setCell _ _ _ _ hk, Below.heap_setCell _ _ _ _ hk]
theorem put9_size (W : World) (g : Nat) (v0 v1 v2 v3 v4 v5 v6 v7 v8 : Value) : (put9 W g v0 v1 v2 v3 v4 v5 v6 v7 v8).heap.size = W.heap.size := by
  unfold put9; simp

/-- The end of a call whose result is a node and a number. -/
theorem end79 {fn : Func} {p u : Tmp} (hres : fn.results = #[.cell p 79, .tmp u]) {R : Ending → World → Prop} {a : Act} {X : World} {g : Nat} {cs : Array Value} {x : Value} (hp : a.tmps.getD p undef = .pointer (some ⟨g, 0, none⟩))
    (hg : X.heap[g]? = some (.cells cs 79 (0, 0))) (hs : cs.size = 9) (hu : a.tmps.getD u undef = x) (hd : a.defers = []) (hR : R (.returned (.tuple #[.agg cs, x])) X) : bodyPost Try.prog fn R .ret a X := by
  subst hu
  exact bodyPost_ret (results_ct hres _ _ g 79 cs (0, 0) _ hp hg Try.underlying79 rfl (by rw [hs]; kernel_rfl)) hd hR

/-- The nine cells, for the walk. -/
structure Nine (W : World) (g : Nat) (v0 v1 v2 v3 v4 v5 v6 v7 v8 : Value) : Prop where
  c0 : W.cell? ⟨g, 0, none⟩ = some v0
  c1 : W.cell? ⟨g, 1, none⟩ = some v1
  c2 : W.cell? ⟨g, 2, none⟩ = some v2
  c3 : W.cell? ⟨g, 3, none⟩ = some v3
  c4 : W.cell? ⟨g, 4, none⟩ = some v4
  c5 : W.cell? ⟨g, 5, none⟩ = some v5
  c6 : W.cell? ⟨g, 6, none⟩ = some v6
  c7 : W.cell? ⟨g, 7, none⟩ = some v7
  c8 : W.cell? ⟨g, 8, none⟩ = some v8
theorem nine_of {W : World} {g : Nat} {v0 v1 v2 v3 v4 v5 v6 v7 v8 : Value} (h : W.heap[g]? = some (.cells #[v0, v1, v2, v3, v4, v5, v6, v7, v8] 79 (0, 0))) : Nine W g v0 v1 v2 v3 v4 v5 v6 v7 v8 :=
  ⟨cell_of_heap h rfl, cell_of_heap h rfl, cell_of_heap h rfl, cell_of_heap h rfl, cell_of_heap h rfl, cell_of_heap h rfl, cell_of_heap h rfl, cell_of_heap h rfl, cell_of_heap h rfl⟩

theorem below_dn {B : Nat} {w W : World} (h : Below B w W) (n : Nat) : Below B w (W.drewN n) := ⟨h.os, h.tape, h.output, h.size, h.block⟩

theorem pnsLeaves_take {l : List Pn} {i : Nat} (h : i < l.length) : PnsLeaves (l.take (i + 1)) = PnsLeaves (l.take i) ++ (l[i]).leaves := by
  rw [PnsLeaves_eq, PnsLeaves_eq, List.take_succ_eq_append_getElem h, List.flatMap_append, List.flatMap_singleton]
theorem bytesLeaves_take {l : List Pn} {i : Nat} (h : i < l.length) : bytesOf (PnsLeaves (l.take (i + 1))) = bytesOf (PnsLeaves (l.take i)) + (l[i]).bytes := by
  rw [pnsLeaves_take h, bytesOf_append]; rfl
theorem pnsLeaves_split (l : List Pn) (i : Nat) (hok : ∀ k ∈ l, k.Ok) : bytesOf (PnsLeaves (l.take i)) ≤ bytesOf (PnsLeaves l) ∧ (PnsLeaves (l.take i)).length ≤ (PnsLeaves l).length := by
  have e : PnsLeaves l = PnsLeaves (l.take i) ++ PnsLeaves (l.drop i) := by
    rw [PnsLeaves_eq, PnsLeaves_eq, PnsLeaves_eq, ← List.flatMap_append, List.take_append_drop]
  rw [e, bytesOf_append, List.length_append]
  have : 0 ≤ bytesOf (PnsLeaves (l.drop i)) := by
    refine bytesOf_nn fun t ht => ?_
    rw [PnsLeaves_eq] at ht
    obtain ⟨k, hk, ht⟩ := List.mem_flatMap.1 ht
    exact (Pn.Ok.toks k (hok k (List.mem_of_mem_drop hk))).lo t ht
  omega

set_option maxRecDepth 100000 in
set_option maxHeartbeats 8000000 in
theorem refMake_call (head : Int) (bv : Value) (body : List Int) (right : Bool) (prod st lk : Int) (fm : Bool) (ka : Option Addr) (kc : Nat) (kids : List Pn) (w : World) (hb : IntsAt w bv body) (hk : k79.C w ka kids.length (kids.map Pn.s79))
    (hok : ∀ n ∈ kids, n.Ok) (hbl : body.length ≤ 1000000) (hkl : kids.length ≤ 1000000) :
    Calls Try.prog 47 #[.agg #[.int .i64 head, bv, .bool right], .int .i64 prod, .agg #[.int .i64 st, .int .i64 lk, .bool fm], .slice ka kids.length kc] w (RefMakeSays w head body prod st lk fm kids (.slice ka kids.length kc)) := by
  obtain ⟨ba, bc, rfl, hbx⟩ := hb
  have HBX := Lib.hid hbx
  have HK := Lib.hid hk
  have HOK := Lib.hid hok
  have hbox : ∀ W, W = ((w.alloc (.cells #[.int .i64 head, .slice ba body.length bc, .bool right] 54)).alloc (.cells #[.int .i64 st, .int .i64 lk, .bool fm] 57)).alloc (.cells #[.int .i64 0, .int .i64 0, .int .i64 0, .int .i64 0, .int .i64 0, .int .i64 0, .int .i64 0, .bool false, .slice none 0 0] 79) → Below w.heap.size w W ∧
      W.heap[w.heap.size]? = some (.cells #[.int .i64 head, .slice ba body.length bc, .bool right] 54 (0, 0)) ∧ W.heap[w.heap.size + 1]? = some (.cells #[.int .i64 st, .int .i64 lk, .bool fm] 57 (0, 0)) ∧ W.heap[w.heap.size + 1 + 1]? = some (.cells zs79 79 (0, 0)) := by
    rintro W rfl
    refine ⟨(((Below.refl _ _).alloc (Nat.le_refl _) _).alloc (by simp) _).alloc (by simp; omega) _, ?_, ?_, ?_⟩
    · rw [Below.heap_alloc _ _ _ (by simp; omega), Below.heap_alloc _ _ _ (by simp)]; exact heap_alloc_new _ _
    · rw [Below.heap_alloc _ _ _ (by simp)]
      have := heap_alloc_new (w.alloc (.cells #[.int .i64 head, .slice ba body.length bc, .bool right] 54)) (.cells #[.int .i64 st, .int .i64 lk, .bool fm] 57)
      simpa using this
    · have := heap_alloc_new ((w.alloc (.cells #[.int .i64 head, .slice ba body.length bc, .bool right] 54)).alloc (.cells #[.int .i64 st, .int .i64 lk, .bool fm] 57)) (.cells #[.int .i64 0, .int .i64 0, .int .i64 0, .int .i64 0, .int .i64 0, .int .i64 0, .int .i64 0, .bool false, .slice none 0 0] 79)
      simpa [zs79] using this
  have HBOX := Lib.hid hbox
  clear hbx hk hok hbox
  go_enter Try.func47, Try.ntmps47
  apply wp_seq_k
  intro K1 h1
  have H1 := Lib.hid h1
  clear h1
  go_wp2_with fail
  refine H1.out _ _ ?_
  clear H1 K1
  obtain ⟨hB1, hq1, hq2, hq3⟩ := HBOX.out _ rfl
  generalize ((w.alloc (.cells #[.int .i64 head, .slice ba body.length bc, .bool right] 54)).alloc (.cells #[.int .i64 st, .int .i64 lk, .bool fm] 57)).alloc (.cells #[.int .i64 0, .int .i64 0, .int .i64 0, .int .i64 0, .int .i64 0, .int .i64 0, .int .i64 0, .bool false, .slice none 0 0] 79) = W at *
  have HQ := Lib.hid (And.intro hq1 (And.intro hq2 hq3))
  have hl1 := (Array.getElem?_eq_some_iff.1 hq1).1
  clear HBOX
  have p0 : W.cell? ⟨w.heap.size, 0, none⟩ = some (.int .i64 head) := cell_of_heap hq1 rfl
  have p1 : W.cell? ⟨w.heap.size, 1, none⟩ = some (.slice ba body.length bc) := cell_of_heap hq1 rfl
  have s0 : W.cell? ⟨w.heap.size + 1, 0, none⟩ = some (.int .i64 st) := cell_of_heap hq2 rfl
  have s1 : W.cell? ⟨w.heap.size + 1, 1, none⟩ = some (.int .i64 lk) := cell_of_heap hq2 rfl
  clear hq1 hq2 hq3
  by_cases hE2 : prod < 0 ∨ head < 0 ∨ st < 0 ∨ lk < 0 ∨ body = []
  · have hres : makeP head body prod st lk fm kids = .error 2 := by unfold makeP; rw [if_pos hE2]
    have HE := Lib.hid (show prod < 0 ∨ head < 0 ∨ st < 0 ∨ lk < 0 ∨ body.length = 0 by rcases hE2 with h | h | h | h | h <;> simp [h])
    have HR := Lib.hid hres
    have h9 := nine_of HQ.out.2.2
    obtain ⟨r0, r1, r2, r3, r4, r5, r6, r7, r8⟩ := h9
    have hz : ∀ i, W.frozen? ⟨w.heap.size + 1 + 1, i, none⟩ = false := fun i => frozen_of_heap HQ.out.2.2
    clear hE2 hres
    go_wp2_with fail
    all_goals first
      | (refine end79 (X := put9 W (w.heap.size + 1 + 1) (.int .i64 0) (.int .i64 0) (.int .i64 0) (.int .i64 0) (.int .i64 0) (.int .i64 0) (.int .i64 0) (.bool false) (.slice none 0 0)) rfl rfl (put9_heap HQ.out.2.2 _ _ _ _ _ _ _ _ _) rfl rfl rfl ⟨put9_below hB1 (by omega) _ _ _ _ _ _ _ _ _, .inl ⟨2, HR.out, by decide, rfl⟩⟩)
      | (exfalso; have h5 := HE.out; simp only [beq_eq_false_iff_ne, ne_eq] at *; omega)
  · have hE2' : 0 ≤ prod ∧ 0 ≤ head ∧ 0 ≤ st ∧ 0 ≤ lk ∧ 0 < body.length := by
      refine ⟨by omega, by omega, by omega, by omega, ?_⟩
      cases body with
      | nil => simp at hE2
      | cons x xs => simp
    obtain ⟨hp, hh, hst, hlk, hbn⟩ := hE2'
    have hbq : ((body.length : Int) == 0) = false := beq_eq_false_iff_ne.2 (by omega)
    have HE2 := Lib.hid hE2
    clear hE2
    by_cases hlen : body.length = kids.length
    case neg =>
      have hq : ((body.length : Int) != (kids.length : Int)) = true := bne_iff_ne.2 (by omega)
      have HR := Lib.hid (show makeP head body prod st lk fm kids = .error 200 by
        unfold makeP
        rw [if_neg HE2.out, if_pos (fun e => hlen (by rw [e]; simp))])
      have h9 := nine_of HQ.out.2.2
      obtain ⟨r0, r1, r2, r3, r4, r5, r6, r7, r8⟩ := h9
      have hz : ∀ i, W.frozen? ⟨w.heap.size + 1 + 1, i, none⟩ = false := fun i => frozen_of_heap HQ.out.2.2
      clear hlen
      go_wp2_with fail
      exact end79 (X := put9 W (w.heap.size + 1 + 1) (.int .i64 0) (.int .i64 0) (.int .i64 0) (.int .i64 0) (.int .i64 0) (.int .i64 0) (.int .i64 0) (.bool false) (.slice none 0 0)) rfl rfl (put9_heap HQ.out.2.2 _ _ _ _ _ _ _ _ _) rfl rfl rfl ⟨put9_below hB1 (by omega) _ _ _ _ _ _ _ _ _, .inl ⟨200, HR.out, by decide, rfl⟩⟩
    case pos =>
    have hq : ((body.length : Int) != (kids.length : Int)) = false := by rw [show (body.length : Int) = (kids.length : Int) by omega]; exact bne_self_eq_false _
    have HLEN := Lib.hid hlen
    have HK2 := Lib.hid (show k79.C w ka (kids.map Pn.s79).length (kids.map Pn.s79) by rw [List.length_map]; exact HK.out)
    clear hlen HK
    go_wp2_with fail
    clear p0 p1 s0 s1 hq hbq
    go_loopw [12] (fun iv wx => ∃ i : Nat, iv = .int .i64 i ∧ i ≤ kids.length ∧ Below W.heap.size W wx ∧ Hid (body.take i = (kids.take i).map Pn.sy)) (fun iv _ => kids.length - (intOf iv).toNat)
    case atStart => exact ⟨0, rfl, by omega, Below.refl _ _, by show _ = _; simp⟩
    case round =>
      obtain ⟨i, rfl, hi, hbr, HI⟩ := hrel
      have hwr := hB1.trans (hbr.mono hB1.size)
      have hl2 := (Array.getElem?_eq_some_iff.1 HQ.out.2.2).1
      have hx1 := (hbr.block _ hl1).trans HQ.out.1
      have hx2 := (hbr.block _ (by omega)).trans HQ.out.2.1
      have hx3 := (hbr.block _ hl2).trans HQ.out.2.2
      by_cases hlt : i < kids.length
      · have hltm : i < (kids.map Pn.s79).length := by rw [List.length_map]; exact hlt
        obtain ⟨kb, ko, A8, c8, rfl, hkb, q0, hrest⟩ := at79 HK2.out hltm
        clear hrest
        have hltb : i < body.length := by have := HLEN.out; omega
        obtain ⟨bb, bo, rfl, hbc⟩ := HBX.out i hltb
        have hs0 : ((kids.map Pn.s79)[i]'hltm).f0 = (kids[i]).sy := by rw [List.getElem_map, Pn.s79_eq]
        rw [hs0] at q0
        obtain ⟨x, hx⟩ : ∃ x, (kids[i]).sy = x := ⟨_, rfl⟩
        obtain ⟨y, hy⟩ : ∃ y, body[i] = y := ⟨_, rfl⟩
        rw [hx] at q0
        rw [hy] at hbc
        have hlbb := World.block_lt_of_cell? w _ hbc
        have d0 : wr.cell? ⟨kb, ko + i * 9, none⟩ = some (.int .i64 x) := (hwr.cell (p := ⟨kb, _, none⟩) hkb).trans q0
        have d1 : wr.cell? ⟨bb, bo + i, none⟩ = some (.int .i64 y) := (hwr.cell (p := ⟨bb, _, none⟩) hlbb).trans hbc
        have p1 : wr.cell? ⟨w.heap.size, 1, none⟩ = some (.slice (some ⟨bb, bo, none⟩) body.length bc) := cell_of_heap hx1 rfl
        have hltI : (i : Int) < (kids.length : Int) := by omega
        have hltI2 : (i : Int) < (body.length : Int) := by omega
        have hi0 : (0 : Int) ≤ (i : Int) := Int.natCast_nonneg _
        have hwi : IntKind.i64.wrap ((i : Int) + 1) = ((i + 1 : Nat) : Int) := by rw [IntKind.wrap_i64]; omega
        have HX3 := Lib.hid hx3
        have HXY := Lib.hid (And.intro hx hy)
        clear q0 hbc hs0 hx hy hx1 hx2 hx3 hltm
        by_cases hxy : x = y
        · have hn : (x != y) = false := by rw [hxy]; exact bne_self_eq_false _
          have HN := Lib.hid (show body.take (i + 1) = (kids.take (i + 1)).map Pn.sy by
            rw [List.take_succ_eq_append_getElem hltb, List.take_succ_eq_append_getElem hlt, List.map_append, List.map_singleton, HI.out, HXY.out.1, HXY.out.2, hxy])
          clear hxy HXY
          go_wp2_with fail
          go_quiet (fail)
          go_wp2_with fail
          go_roundw
          case rel => exact ⟨i + 1, by go_num, by omega, ⟨hbr.os, hbr.tape, hbr.output, hbr.size, hbr.block⟩, HN.out⟩
          case measure => simp [intOf]; omega
        · have hn : (x != y) = true := bne_iff_ne.2 hxy
          have HR := Lib.hid (show makeP head body prod st lk fm kids = .error 200 by
            unfold makeP
            rw [if_neg HE2.out, if_pos (fun e => hxy (by rw [← HXY.out.1, ← HXY.out.2]; subst e; simp))])
          clear hxy HXY
          go_wp2_with fail
          go_quiet (fail)
          have h9 := nine_of HX3.out
          obtain ⟨r0, r1, r2, r3, r4, r5, r6, r7, r8⟩ := h9
          have hz : ∀ i, wr.frozen? ⟨w.heap.size + 1 + 1, i, none⟩ = false := fun i => frozen_of_heap HX3.out
          go_wp2_with fail
          exact end79 (X := put9 (wr.drewN nq) (w.heap.size + 1 + 1) (.int .i64 0) (.int .i64 0) (.int .i64 0) (.int .i64 0) (.int .i64 0) (.int .i64 0) (.int .i64 0) (.bool false) (.slice none 0 0)) rfl rfl (put9_heap HX3.out _ _ _ _ _ _ _ _ _) rfl rfl rfl ⟨put9_below (below_dn hwr _) (by omega) _ _ _ _ _ _ _ _ _, .inl ⟨200, HR.out, by decide, rfl⟩⟩
      · have hge : ¬ ((i : Int) < (kids.length : Int)) := by omega
        have HBODY := Lib.hid (show body = kids.map Pn.sy by
          have h := HI.out
          have := HLEN.out
          rwa [List.take_of_length_le (by omega), List.take_of_length_le (by omega)] at h)
        clear HI hx1 hx2 hx3
        go_wp2_with fail
        clear hge hi
        go_loopw [10, 11, 13] (fun b10 t11 jv wx => ∃ j : Nat, jv = .int .i64 j ∧ j ≤ kids.length ∧ b10 = .int .i64 (bytesOf (PnsLeaves (kids.take j))) ∧ t11 = .int .i64 ((PnsLeaves (kids.take j)).length : Nat) ∧ Below W.heap.size W wx ∧ Hid (bytesOf (PnsLeaves (kids.take j)) ≤ 65536 ∧ (PnsLeaves (kids.take j)).length ≤ 262144)) (fun _ _ jv _ => kids.length - (intOf jv).toNat)
        case atStart => exact ⟨0, rfl, by omega, by simp [PnsLeaves, bytesOf], by simp [PnsLeaves], hbr, by show _ ∧ _; simp [PnsLeaves, bytesOf]⟩
        case round =>
          clear hbr hwr
          rename World => wq
          obtain ⟨j, rfl, hj, rfl, rfl, hbq, HS⟩ := hrel
          have hwq := hB1.trans (hbq.mono hB1.size)
          have hx1 := (hbq.block _ hl1).trans HQ.out.1
          have hx2 := (hbq.block _ (by omega)).trans HQ.out.2.1
          have hx3 := (hbq.block _ hl2).trans HQ.out.2.2
          by_cases hlt : j < kids.length
          · have hltm : j < (kids.map Pn.s79).length := by rw [List.length_map]; exact hlt
            obtain ⟨kb, ko, A8, c8, rfl, hkb, q0, q1, q2, q3, q4, q5, q6, q7, q8, hc8, hC8⟩ := at79 HK2.out hltm
            have hks : (kids.map Pn.s79)[j]'hltm = (kids[j]).s79 := by rw [List.getElem_map]
            have hkok := HOK.out _ (List.getElem_mem hlt)
            obtain ⟨s, hs⟩ : ∃ s, (kids[j]).s79 = s := ⟨_, rfl⟩
            rw [hks, hs] at q0 q1 q2 q3 q4 q5 q6 q7 q8 hc8 hC8
            have hc77 := Lib.hid (fun X (hX : Below wq.heap.size wq X) => refBytes_call hkok hs (Kd.C_below hC8 (hwq.trans (hX.mono hwq.size))) hc8)
            have hc51 := Lib.hid (fun X (hX : Below wq.heap.size wq X) => refLeaves_call hkok hs (Kd.C_below hC8 (hwq.trans (hX.mono hwq.size))) hc8)
            have ht := Pn.Ok.toks _ hkok
            obtain ⟨a1, ha1⟩ : ∃ a, a = bytesOf (PnsLeaves (kids.take j)) := ⟨_, rfl⟩
            obtain ⟨a2, ha2⟩ : ∃ a, a = (kids[j]).bytes := ⟨_, rfl⟩
            obtain ⟨a3, ha3⟩ : ∃ a, a = bytesOf (PnsLeaves (kids.take (j + 1))) := ⟨_, rfl⟩
            obtain ⟨b1, hb1⟩ : ∃ a, a = (PnsLeaves (kids.take j)).length := ⟨_, rfl⟩
            obtain ⟨b2, hb2⟩ : ∃ a, a = (kids[j]).leaves.length := ⟨_, rfl⟩
            obtain ⟨b3, hb3⟩ : ∃ a, a = (PnsLeaves (kids.take (j + 1))).length := ⟨_, rfl⟩
            have hsum : a3 = a1 + a2 := by rw [ha1, ha2, ha3]; exact bytesLeaves_take hlt
            have hlen3 : b3 = b1 + b2 := by rw [hb1, hb2, hb3, pnsLeaves_take hlt, List.length_append]
            have hle := pnsLeaves_split kids (j + 1) HOK.out
            rw [← ha3, ← hb3] at hle
            have hS := HS.out
            rw [← ha1, ← hb1] at hS
            have h20 := ht.by0
            have h21 := ht.by1
            have h22 := ht.max
            rw [← ha2] at h20 h21
            rw [← hb2] at h22
            have ha10 : 0 ≤ a1 := by
              rw [ha1]
              refine bytesOf_nn fun t ht => ?_
              rw [PnsLeaves_eq] at ht
              obtain ⟨k, hk, ht⟩ := List.mem_flatMap.1 ht
              exact (Pn.Ok.toks k (HOK.out k (List.mem_of_mem_take hk))).lo t ht
            have hwa : IntKind.i64.wrap (a1 + a2) = a3 := by rw [IntKind.wrap_i64]; omega
            have hwb : IntKind.i64.wrap ((b1 : Int) + (b2 : Int)) = (b3 : Int) := by rw [IntKind.wrap_i64]; omega
            have hwj : IntKind.i64.wrap ((j : Int) + 1) = ((j + 1 : Nat) : Int) := by rw [IntKind.wrap_i64]; omega
            rw [← ha1, ← hb1]
            rw [← ha2] at hc77
            have d0 := (hwq.cell (p := ⟨kb, _, none⟩) hkb).trans q0
            have d1 := (hwq.cell (p := ⟨kb, _, none⟩) hkb).trans q1
            have d2 := (hwq.cell (p := ⟨kb, _, none⟩) hkb).trans q2
            have d3 := (hwq.cell (p := ⟨kb, _, none⟩) hkb).trans q3
            have d4 := (hwq.cell (p := ⟨kb, _, none⟩) hkb).trans q4
            have d5 := (hwq.cell (p := ⟨kb, _, none⟩) hkb).trans q5
            have d6 := (hwq.cell (p := ⟨kb, _, none⟩) hkb).trans q6
            have d7 := (hwq.cell (p := ⟨kb, _, none⟩) hkb).trans q7
            have d8 := (hwq.cell (p := ⟨kb, _, none⟩) hkb).trans q8
            have hkbq : kb < wq.heap.size := Nat.lt_of_lt_of_le hkb hwq.size
            have HA := Lib.hid (And.intro ha3 hb3)
            have HB2 := Lib.hid hb2
            have HX3 := Lib.hid hx3
            have HD := Lib.hid (fun X (hX : Below wq.heap.size wq X) => And.intro ((hX.cell (p := ⟨kb, ko + j * 9, none⟩) hkbq).trans d0) (And.intro ((hX.cell (p := ⟨kb, ko + j * 9 + 1, none⟩) hkbq).trans d1) (And.intro ((hX.cell (p := ⟨kb, ko + j * 9 + 2, none⟩) hkbq).trans d2) (And.intro ((hX.cell (p := ⟨kb, ko + j * 9 + 3, none⟩) hkbq).trans d3) (And.intro ((hX.cell (p := ⟨kb, ko + j * 9 + 4, none⟩) hkbq).trans d4) (And.intro ((hX.cell (p := ⟨kb, ko + j * 9 + 5, none⟩) hkbq).trans d5) (And.intro ((hX.cell (p := ⟨kb, ko + j * 9 + 6, none⟩) hkbq).trans d6) (And.intro ((hX.cell (p := ⟨kb, ko + j * 9 + 7, none⟩) hkbq).trans d7) ((hX.cell (p := ⟨kb, ko + j * 9 + 8, none⟩) hkbq).trans d8)))))))))
            have hltI : (j : Int) < (kids.length : Int) := by omega
            have hj0 : (0 : Int) ≤ (j : Int) := Int.natCast_nonneg _
            clear q0 q1 q2 q3 q4 q5 q6 q7 q8 hks hs hC8 hx1 hx2 hx3 hltm HS ha1 ha2 ha3 hb1 hb2 hb3 hsum hlen3 ht
            unfold nodeV at hc77 hc51
            by_cases hbig : 65536 < a3 ∨ 262144 < b3
            · have HR := Lib.hid (show makeP head body prod st lk fm kids = .error 3 by
                unfold makeP
                rw [if_neg HE2.out, if_neg (by rw [HBODY.out]; simp), if_pos (by omega)])
              have HBIG := Lib.hid hbig
              clear hbig
              go_wp2_with (first
                | (go_at_call 77; refine (hc77.out _ (Below.refl _ _)).mono ?_; rintro e w1 ⟨rfl, hb1⟩; obtain ⟨d0, d1, d2, d3, d4, d5, d6, d7, d8⟩ := HD.out _ hb1)
                | (go_at_call 51; refine (hc51.out _ hb1).mono ?_; rintro e w2 ⟨v2, rfl, hr2, hb2⟩; obtain ⟨A2, c2, e2⟩ := Kd.R_slice hr2; rw [List.length_map, ← HB2.out] at e2; subst e2; have hb12 := hb1.trans (hb2.mono hb1.size); have hx4 := (hb12.block _ (Array.getElem?_eq_some_iff.1 HX3.out).1).trans HX3.out; obtain ⟨r0, r1, r2, r3, r4, r5, r6, r7, r8⟩ := nine_of hx4; have hz : ∀ i, w2.frozen? ⟨w.heap.size + 1 + 1, i, none⟩ = false := fun i => frozen_of_heap hx4))
              all_goals first
                | (exfalso; have := HBIG.out; omega)
                | exact end79 (X := put9 w2 (w.heap.size + 1 + 1) (.int .i64 0) (.int .i64 0) (.int .i64 0) (.int .i64 0) (.int .i64 0) (.int .i64 0) (.int .i64 0) (.bool false) (.slice none 0 0)) rfl rfl (put9_heap hx4 _ _ _ _ _ _ _ _ _) rfl rfl rfl ⟨put9_below (hwq.trans (hb12.mono hwq.size)) (by omega) _ _ _ _ _ _ _ _ _, .inl ⟨3, HR.out, by decide, rfl⟩⟩
            · have hs1 : a3 ≤ 65536 := by omega
              have hs2 : (b3 : Int) ≤ 262144 := by omega
              clear hbig
              go_wp2_with (first
                | (go_at_call 77; refine (hc77.out _ (Below.refl _ _)).mono ?_; rintro e w1 ⟨rfl, hb1⟩; obtain ⟨d0, d1, d2, d3, d4, d5, d6, d7, d8⟩ := HD.out _ hb1)
                | (go_at_call 51; refine (hc51.out _ hb1).mono ?_; rintro e w2 ⟨v2, rfl, hr2, hb2⟩; obtain ⟨A2, c2, e2⟩ := Kd.R_slice hr2; rw [List.length_map, ← HB2.out] at e2; subst e2; have hb12 := hb1.trans (hb2.mono hb1.size)))
              go_roundw
              case rel => exact ⟨j + 1, by go_num, by omega, by rw [HA.out.1], by rw [HA.out.2], hbq.trans (hb12.mono hbq.size), by show _ ∧ _; rw [← HA.out.1, ← HA.out.2]; omega⟩
              case measure => simp [intOf]; omega
          · have hge : ¬ ((j : Int) < (kids.length : Int)) := by omega
            have hfull : PnsLeaves (kids.take j) = PnsLeaves kids := by rw [List.take_of_length_le (by omega)]
            have HR := Lib.hid (show makeP head body prod st lk fm kids = .ok (.mk head prod 0 0 st lk fm kids) by
              have h := HS.out
              rw [hfull] at h
              unfold makeP
              rw [if_neg HE2.out, if_neg (by rw [HBODY.out]; simp), if_neg (by omega)])
            have p0 : wq.cell? ⟨w.heap.size, 0, none⟩ = some (.int .i64 head) := cell_of_heap hx1 rfl
            have s0 : wq.cell? ⟨w.heap.size + 1, 0, none⟩ = some (.int .i64 st) := cell_of_heap hx2 rfl
            have s1 : wq.cell? ⟨w.heap.size + 1, 1, none⟩ = some (.int .i64 lk) := cell_of_heap hx2 rfl
            have s2 : wq.cell? ⟨w.heap.size + 1, 2, none⟩ = some (.bool fm) := cell_of_heap hx2 rfl
            obtain ⟨r0, r1, r2, r3, r4, r5, r6, r7, r8⟩ := nine_of hx3
            have hz : ∀ i, wq.frozen? ⟨w.heap.size + 1 + 1, i, none⟩ = false := fun i => frozen_of_heap hx3
            have HX3 := Lib.hid hx3
            clear hfull HS hx1 hx2 hx3
            go_wp2_with fail
            exact end79 (X := put9 wq (w.heap.size + 1 + 1) (.int .i64 head) (.int .i64 prod) (.int .i64 0) (.int .i64 0) (.int .i64 0) (.int .i64 st) (.int .i64 lk) (.bool fm) (.slice ka kids.length kc)) rfl rfl (put9_heap HX3.out _ _ _ _ _ _ _ _ _) rfl rfl rfl ⟨put9_below hwq (by omega) _ _ _ _ _ _ _ _ _, .inr ⟨HR.out, rfl⟩⟩

end Go.Proofs.Ytcjpmgfobnaoeaa

/- SameTree and stamped: the walks. -/
namespace Go.Proofs.Ytcjpmgfobnaoeaa
set_option linter.unusedVariables false
set_option linter.unusedSimpArgs false
open Go.RowKit
attribute [local irreducible] Calls

theorem TrsSame_step {l m : List Tr} {i : Nat} (h : i < l.length) (h' : i < m.length) : TrsSame (l.drop i) (m.drop i) = (l[i].same m[i] && TrsSame (l.drop (i + 1)) (m.drop (i + 1))) := by
  rw [drop_cons h, drop_cons h']
  conv => lhs; unfold TrsSame
theorem TrsSame_len {l m : List Tr} (h : l.length ≠ m.length) : TrsSame l m = false := by
  cases e : TrsSame l m with
  | false => rfl
  | true => exact absurd ((trsSame_iff l m).1 e).1 h
theorem TrsCnt_mem {l : List Tr} {k : Tr} (h : k ∈ l) : k.cnt ≤ TrsCnt l := by
  induction l with
  | nil => simp at h
  | cons x xs ih =>
    unfold TrsCnt
    rcases List.mem_cons.1 h with rfl | h
    · omega
    · have := ih h; omega

set_option maxRecDepth 100000 in
set_option maxHeartbeats 4000000 in
theorem sameTree_call (t : Tr) : ∀ (u : Tr) (kv ku : Value) (w : World), t.At w.heap.size w kv → u.At w.heap.size w ku → t.cnt ≤ 1000000 →
    Calls Try.prog 53 #[.agg #[.int .i64 t.sy, .int .i64 t.pr, kv], .agg #[.int .i64 u.sy, .int .i64 u.pr, ku]] w fun e w' => e = .returned (.bool (t.same u)) ∧ Below w.heap.size w w' := by
  revert t
  refine Tr.ind ?_
  intro t ih u kv ku w ht hu hc
  obtain ⟨a, c, rfl, hts⟩ := ht.len
  obtain ⟨a2, c2, rfl, hus⟩ := hu.len
  have hlen : t.kids.length ≤ 1000000 := by have := len_le_cnt t.kids; rw [Tr.cnt_eq] at hc; omega
  have hW : ∀ W, W = (w.alloc (.cells #[.int .i64 t.sy, .int .i64 t.pr, .slice a t.kids.length c] 24)).alloc (.cells #[.int .i64 u.sy, .int .i64 u.pr, .slice a2 u.kids.length c2] 24) → Below w.heap.size w W ∧
      W.heap[w.heap.size]? = some (.cells #[.int .i64 t.sy, .int .i64 t.pr, .slice a t.kids.length c] 24 (0, 0)) ∧ W.heap[w.heap.size + 1]? = some (.cells #[.int .i64 u.sy, .int .i64 u.pr, .slice a2 u.kids.length c2] 24 (0, 0)) := by
    rintro W rfl
    exact ⟨((Below.refl _ _).alloc (Nat.le_refl _) _).alloc (by simp) _, by rw [Below.heap_alloc _ _ _ (by simp)]; exact heap_alloc_new _ _, heap_new2 _ _ _⟩
  have HW := Lib.hid hW
  have HIH := Lib.hid ih
  have HTS := Lib.hid hts
  have HUS := Lib.hid hus
  have HC := Lib.hid hc
  have HS := Lib.hid (Tr.same_eq t u)
  clear hW ih hts hus hc ht hu
  go_enter Try.func53, Try.ntmps53
  apply wp_seq_k
  intro K1 k1
  have H1 := Lib.hid k1
  clear k1
  go_wp2_with fail
  refine H1.out _ _ ?_
  clear H1 K1
  obtain ⟨hB, hx2, hx3⟩ := HW.out _ rfl
  generalize (w.alloc (.cells #[.int .i64 t.sy, .int .i64 t.pr, .slice a t.kids.length c] 24)).alloc (.cells #[.int .i64 u.sy, .int .i64 u.pr, .slice a2 u.kids.length c2] 24) = W at *
  have HX2 := Lib.hid hx2
  have HX3 := Lib.hid hx3
  have p0 := cell_of_heap (i := 0) hx2 rfl
  have p1 := cell_of_heap (i := 1) hx2 rfl
  have p2 := cell_of_heap (i := 2) hx2 rfl
  have r0 := cell_of_heap (i := 0) hx3 rfl
  have r1 := cell_of_heap (i := 1) hx3 rfl
  have r2 := cell_of_heap (i := 2) hx3 rfl
  clear HW hx2 hx3
  by_cases e1 : t.sy = u.sy
  case neg =>
    have q1 : (t.sy != u.sy) = true := by simpa using e1
    have HR := Lib.hid (show t.same u = false by rw [HS.out]; simp [e1])
    clear e1
    go_wp2_with fail
    go_ret
    exact ⟨ret_bool HR.out.symm, hB⟩
  case pos =>
  have q1 : (t.sy != u.sy) = false := by simpa using e1
  have E1 := Lib.hid e1
  clear e1
  by_cases e2 : t.pr = u.pr
  case neg =>
    have q2 : (t.pr != u.pr) = true := by simpa using e2
    have HR := Lib.hid (show t.same u = false by rw [HS.out]; simp [e2])
    clear e2
    go_wp2_with fail
    go_ret
    exact ⟨ret_bool HR.out.symm, hB⟩
  case pos =>
  have q2 : (t.pr != u.pr) = false := by simpa using e2
  have E2 := Lib.hid e2
  clear e2
  by_cases e3 : t.kids.length = u.kids.length
  case neg =>
    have q3 : ((t.kids.length : Int) != (u.kids.length : Int)) = true := bne_iff_ne.2 (by omega)
    have HR := Lib.hid (show t.same u = false by rw [HS.out, TrsSame_len e3]; simp)
    clear e3
    go_wp2_with fail
    go_ret
    exact ⟨ret_bool HR.out.symm, hB⟩
  case pos =>
  have q3 : ((t.kids.length : Int) != (u.kids.length : Int)) = false := by rw [show (t.kids.length : Int) = (u.kids.length : Int) by omega]; exact bne_self_eq_false _
  have E3 := Lib.hid e3
  have HT := Lib.hid (show t.same u = TrsSame t.kids u.kids by rw [HS.out, E1.out, E2.out]; simp)
  clear e3 E1 E2 HS
  go_wp2_with fail
  clear p0 p1 p2 r0 r1 r2 q1 q2 q3
  go_loopw [5] (fun iv wx => ∃ i : Nat, iv = .int .i64 i ∧ i ≤ t.kids.length ∧ Below W.heap.size W wx ∧ Hid (TrsSame (t.kids.drop i) (u.kids.drop i) = t.same u)) (fun iv _ => t.kids.length - (intOf iv).toNat)
  case atStart => exact ⟨0, rfl, by omega, Below.refl _ _, by show _ = _; rw [List.drop_zero, List.drop_zero]; exact HT.out.symm⟩
  case round =>
    obtain ⟨i, rfl, hi, hbr, HI⟩ := hrel
    have hx2 := (hbr.block _ (Array.getElem?_eq_some_iff.1 HX2.out).1).trans HX2.out
    have hx3 := (hbr.block _ (Array.getElem?_eq_some_iff.1 HX3.out).1).trans HX3.out
    have p2 := cell_of_heap (i := 2) (v := .slice a t.kids.length c) hx2 rfl
    have hwr := hB.trans (hbr.mono hB.size)
    by_cases hlt : i < t.kids.length
    · have hlt2 : i < u.kids.length := by have := E3.out; omega
      obtain ⟨b, o, kvi, rfl, hb, d0, d1, d2, hati⟩ := HTS.out.get i hlt
      obtain ⟨b', o', kui, rfl, hb', d0', d1', d2', hati'⟩ := HUS.out.get i hlt2
      have hstep := TrsSame_step hlt hlt2
      have hmem : t.kids[i] ∈ t.kids := List.getElem_mem hlt
      have hkc : t.kids[i].cnt ≤ 1000000 := by have := TrsCnt_mem hmem; have := HC.out; rw [Tr.cnt_eq] at this; omega
      obtain ⟨kd, hkd⟩ : ∃ kd, kd = t.kids[i] := ⟨_, rfl⟩
      obtain ⟨ku, hku⟩ : ∃ ku, ku = u.kids[i] := ⟨_, rfl⟩
      rw [← hkd] at hstep d0 d1 hati hmem hkc
      rw [← hku] at hstep d0' d1' hati'
      rw [Nat.zero_add] at d0 d1 d2 d0' d1' d2'
      have hcall : ∀ s : Sb wr, Calls Try.prog 53 #[.agg #[.int .i64 kd.sy, .int .i64 kd.pr, kvi], .agg #[.int .i64 ku.sy, .int .i64 ku.pr, kui]] s.w fun e w' => e = .returned (.bool (kd.same ku)) ∧ ∃ s' : Sb wr, w' = s'.w := fun s =>
        Calls.sb (HIH.out kd hmem ku kvi kui s.w ((hati.keep (hwr.trans (s.below.mono hwr.size))).up (Nat.le_trans hwr.size s.below.size)) ((hati'.keep (hwr.trans (s.below.mono hwr.size))).up (Nat.le_trans hwr.size s.below.size)) hkc)
      have f0 : ∀ s : Sb wr, s.w.cell? ⟨b, o + i * 3, none⟩ = some (.int .i64 kd.sy) := fun s => s.cell ((hwr.cell (p := ⟨b, _, none⟩) hb).trans d0)
      have f1 : ∀ s : Sb wr, s.w.cell? ⟨b, o + i * 3 + 1, none⟩ = some (.int .i64 kd.pr) := fun s => s.cell ((hwr.cell (p := ⟨b, _, none⟩) hb).trans d1)
      have f2 : ∀ s : Sb wr, s.w.cell? ⟨b, o + i * 3 + 2, none⟩ = some kvi := fun s => s.cell ((hwr.cell (p := ⟨b, _, none⟩) hb).trans d2)
      have f3 : ∀ s : Sb wr, s.w.cell? ⟨b', o' + i * 3, none⟩ = some (.int .i64 ku.sy) := fun s => s.cell ((hwr.cell (p := ⟨b', _, none⟩) hb').trans d0')
      have f4 : ∀ s : Sb wr, s.w.cell? ⟨b', o' + i * 3 + 1, none⟩ = some (.int .i64 ku.pr) := fun s => s.cell ((hwr.cell (p := ⟨b', _, none⟩) hb').trans d1')
      have f5 : ∀ s : Sb wr, s.w.cell? ⟨b', o' + i * 3 + 2, none⟩ = some kui := fun s => s.cell ((hwr.cell (p := ⟨b', _, none⟩) hb').trans d2')
      have g0 : ∀ s : Sb wr, s.w.cell? ⟨w.heap.size, 2, none⟩ = some (.slice (some ⟨b, o, none⟩) t.kids.length c) := fun s => s.cell p2
      have g1 : ∀ s : Sb wr, s.w.cell? ⟨w.heap.size + 1, 2, none⟩ = some (.slice (some ⟨b', o', none⟩) u.kids.length c2) := fun s => s.cell (cell_of_heap hx3 rfl)
      have HI' := Lib.hid (HI.out.symm.trans hstep)
      have HCALL := Lib.hid hcall
      have hltI : (i : Int) < (t.kids.length : Int) := by omega
      have hltI2 : (i : Int) < (u.kids.length : Int) := by omega
      have hi0 : (0 : Int) ≤ (i : Int) := Int.natCast_nonneg _
      obtain ⟨akd, ckd, rfl, _⟩ := hati.len
      obtain ⟨aku, cku, rfl, _⟩ := hati'.len
      clear hcall hstep d0 d1 d2 d0' d1' d2' hati hati' hkd hku hmem hkc hx2 hx3 HI
      generalize kd.same ku = r at *
      go_upto_region 6 with (fail)
      refine wp_region_sb (by kernel_rfl) (by kernel_rfl) ?_
      repeat (go_big_quiet_step (first | (go_at_call 53; exact HCALL.out _)))
      refine wpQuiet_nil ?_
      intro s
      clear f0 f1 f2 f3 f4 f5 g0 g1
      have hbs := hbr.trans (s.below.mono hbr.size)
      have hwi : IntKind.i64.wrap ((i : Int) + 1) = ((i + 1 : Nat) : Int) := by rw [IntKind.wrap_i64]; omega
      cases r with
      | true =>
        go_wp2_with fail
        go_roundw
        case rel => exact ⟨i + 1, by go_num, by omega, hbs, by show _ = _; have := HI'.out; rw [Bool.true_and] at this; exact this.symm⟩
        case measure => simp [intOf]; omega
      | false =>
        go_wp2_with fail
        go_ret
        exact ⟨ret_bool (by have := HI'.out; rw [Bool.false_and] at this; exact this.symm), hwr.trans (s.below.mono hwr.size)⟩
    · have hge : ¬ ((i : Int) < (t.kids.length : Int)) := by omega
      have HR := Lib.hid (show t.same u = true by
        have h1 := HI.out
        rw [List.drop_of_length_le (by omega), List.drop_of_length_le (by have := E3.out; omega)] at h1
        rw [← h1]; rfl)
      go_wp2_with fail
      go_ret
      exact ⟨ret_bool HR.out.symm, hwr⟩

end Go.Proofs.Ytcjpmgfobnaoeaa

/- A tree that lies in blocks of its own: how it lies, what keeps it. -/
namespace Go.Proofs.Ytcjpmgfobnaoeaa
set_option linter.unusedVariables false
set_option linter.unusedSimpArgs false
open Go.RowKit

mutual
/-- A tree whose rows lie in blocks of S. -/
def Tr.On (S : Nat → Prop) (w : World) (kv : Value) : Tr → Prop
  | .mk _ _ kids => ∃ a c, kv = .slice a kids.length c ∧ kids.length ≤ c ∧ TrsOn S w a 0 kids
def TrsOn (S : Nat → Prop) (w : World) (a : Option Addr) (i : Nat) : List Tr → Prop
  | [] => True
  | t :: ts => (∃ b kv, a = some ⟨b, 0, none⟩ ∧ S b ∧ b < w.heap.size ∧ w.cell? ⟨b, i * 3, none⟩ = some (.int .i64 t.sy) ∧ w.cell? ⟨b, i * 3 + 1, none⟩ = some (.int .i64 t.pr) ∧
      w.cell? ⟨b, i * 3 + 2, none⟩ = some kv ∧ Tr.On S w kv t) ∧ TrsOn S w a (i + 1) ts
end

theorem cell_same {w w' : World} {b i : Nat} {v : Value} (h : w'.heap[b]? = w.heap[b]?) (hc : w.cell? ⟨b, i, none⟩ = some v) : w'.cell? ⟨b, i, none⟩ = some v := by
  unfold World.cell? at *
  simp only [] at *
  rw [h]
  exact hc

mutual
theorem Tr.On.keep {S S' : Nat → Prop} {w w' : World} (hs : w.heap.size ≤ w'.heap.size) (hk : ∀ b, S b → S' b ∧ (b < w.heap.size → w'.heap[b]? = w.heap[b]?)) : ∀ {t : Tr} {kv : Value}, Tr.On S w kv t → Tr.On S' w' kv t
  | .mk _ _ kids, kv, h => by
    unfold Tr.On at *
    obtain ⟨a, c, h1, h2, h3⟩ := h
    exact ⟨a, c, h1, h2, TrsOn.keep hs hk h3⟩
theorem TrsOn.keep {S S' : Nat → Prop} {w w' : World} (hs : w.heap.size ≤ w'.heap.size) (hk : ∀ b, S b → S' b ∧ (b < w.heap.size → w'.heap[b]? = w.heap[b]?)) : ∀ {ts : List Tr} {a : Option Addr} {i : Nat}, TrsOn S w a i ts → TrsOn S' w' a i ts
  | [], _, _, _ => by unfold TrsOn; trivial
  | t :: ts, a, i, h => by
    unfold TrsOn at *
    obtain ⟨⟨b, kv, h1, h2, h0, h3, h4, h5, h6⟩, h7⟩ := h
    obtain ⟨k1, k2⟩ := hk b h2
    exact ⟨⟨b, kv, h1, k1, Nat.lt_of_lt_of_le h0 hs, cell_same (k2 h0) h3, cell_same (k2 h0) h4, cell_same (k2 h0) h5, Tr.On.keep hs hk h6⟩, TrsOn.keep hs hk h7⟩
end
mutual
theorem Tr.On.at {S : Nat → Prop} {w : World} : ∀ {t : Tr} {kv : Value}, Tr.On S w kv t → Tr.At w.heap.size w kv t
  | .mk _ _ kids, kv, h => by
    unfold Tr.On at h
    unfold Tr.At
    obtain ⟨a, c, h1, h2, h3⟩ := h
    exact ⟨a, c, h1, h2, TrsOn.at h3⟩
theorem TrsOn.at {S : Nat → Prop} {w : World} : ∀ {ts : List Tr} {a : Option Addr} {i : Nat}, TrsOn S w a i ts → TrsAt w.heap.size w a i ts
  | [], _, _, _ => by unfold TrsAt; trivial
  | t :: ts, a, i, h => by
    unfold TrsOn at h
    unfold TrsAt
    obtain ⟨⟨b, kv, h1, h2, h0, h3, h4, h5, h6⟩, h7⟩ := h
    exact ⟨⟨b, 0, kv, h1, h0, by rw [Nat.zero_add]; exact h3, by rw [Nat.zero_add]; exact h4, by rw [Nat.zero_add]; exact h5, Tr.On.at h6⟩, TrsOn.at h7⟩
end
theorem Tr.On.len {S : Nat → Prop} {w : World} {kv : Value} {t : Tr} (h : Tr.On S w kv t) : ∃ a c, kv = .slice a t.kids.length c := by
  cases t with
  | mk s p kids => unfold Tr.On at h; obtain ⟨a, c, h1, _⟩ := h; exact ⟨a, c, h1⟩

/-- Kids that are done: the tree and the value of its field Kids. -/
def kidC (p : Tr × Value) : List Value := [.int .i64 p.1.sy, .int .i64 p.1.pr, p.2]
theorem kidC_get : ∀ (l : List (Tr × Value)) (i : Nat) (h : i < l.length) (j : Nat), j < 3 → (l.flatMap kidC)[i * 3 + j]? = (kidC l[i])[j]?
  | s :: l, 0, _, j, hj => by
    rw [List.flatMap_cons, Nat.zero_mul, Nat.zero_add, List.getElem?_append_left (by simp [kidC]; omega)]
    rfl
  | s :: l, i + 1, h, j, hj => by
    rw [List.flatMap_cons, List.getElem?_append_right (by simp [kidC]; omega)]
    have := kidC_get l i (by simpa using h) j hj
    simp only [List.getElem_cons_succ]
    rw [← this]
    congr 1
    simp only [kidC, List.length_cons, List.length_nil]
    omega
theorem kidC_len (l : List (Tr × Value)) : (l.flatMap kidC).length = l.length * 3 := by
  induction l with
  | nil => rfl
  | cons s l ih => rw [List.flatMap_cons, List.length_append, ih]; simp [kidC]; omega

theorem trsOn_of {S : Nat → Prop} {w : World} {g : Nat} (hS : S g) (hg : g < w.heap.size) : ∀ (l : List (Tr × Value)) (i : Nat), (∀ j (h : j < l.length) k, k < 3 → ∀ u, (kidC l[j])[k]? = some u → w.cell? ⟨g, (i + j) * 3 + k, none⟩ = some u) →
    (∀ p ∈ l, p.1.On S w p.2) → TrsOn S w (some ⟨g, 0, none⟩) i (l.map Prod.fst)
  | [], i, _, _ => by unfold TrsOn; trivial
  | p :: l, i, hc, hp => by
    rw [List.map_cons]
    unfold TrsOn
    refine ⟨⟨g, p.2, rfl, hS, hg, hc 0 (by simp) 0 (by decide) _ rfl, hc 0 (by simp) 1 (by decide) _ rfl, hc 0 (by simp) 2 (by decide) _ rfl, hp p (by simp)⟩, trsOn_of hS hg l (i + 1) (fun j h k hk u hu => ?_) fun q hq => hp q (by simp [hq])⟩
    have := hc (j + 1) (by simpa using h) k hk u (by simpa using hu)
    rw [show i + (j + 1) = i + 1 + j by omega] at this
    exact this

/-- A row of kids that lie apart from it is a tree's. -/
theorem Tr.On.of_row {S : Nat → Prop} {w : World} {base n : Nat} {v : Value} {l : List (Tr × Value)} {t : Tr} (h : w.ownsRow base 24 3 v n (l.flatMap kidC)) (hl : l.map Prod.fst = t.kids) (hp : ∀ p ∈ l, p.1.On S w p.2) (hS : ∀ g, v.ownBlock = some g → S g) : t.On S w v := by
  have hn : n = l.length := by have := h.1; rw [kidC_len] at this; omega
  subst hn
  have hlen : t.kids.length = l.length := by rw [← hl]; simp
  have goal : ∀ kids : List Tr, t.kids = kids → (∃ a c, v = .slice a kids.length c ∧ kids.length ≤ c ∧ TrsOn S w a 0 kids) := by
    rintro kids rfl
    rcases h.2 with ⟨rfl, h0⟩ | ⟨g, c, cur, rfl, hb, hg, h3, h4, h5, h6⟩
    · refine ⟨none, 0, by rw [hlen, h0], by omega, ?_⟩
      have : t.kids = [] := List.eq_nil_of_length_eq_zero (by omega)
      rw [this]
      unfold TrsOn
      trivial
    · refine ⟨_, c, by rw [hlen], by omega, ?_⟩
      rw [← hl]
      refine trsOn_of (hS g rfl) (Array.getElem?_eq_some_iff.1 hg).1 l 0 (fun j hj k hk u hu => ?_) hp
      rw [Nat.zero_add]
      refine cell_of_heap hg ?_
      have := kidC_get l j hj k hk
      rw [hu, ← h6, List.getElem?_take] at this
      split at this
      · simpa using this
      · simp at this
  cases t with
  | mk s p kids => unfold Tr.On; exact goal kids rfl

end Go.Proofs.Ytcjpmgfobnaoeaa

/- nodes.Tree: the walk. -/
namespace Go.Proofs.Ytcjpmgfobnaoeaa
set_option linter.unusedVariables false
set_option linter.unusedSimpArgs false
open Go.RowKit
attribute [local irreducible] Calls

theorem info24 : (Try.prog.info? 24).map (fun i => (i.zero, i.size, i.bytes)) = some (some (.agg #[.int .i64 0, .int .i64 0, .slice none 0 0]), 3, 40) := by kernel_rfl

/-- A region that draws its order, its last operation free of S. -/
theorem wp_region_last {P : Program} {id : Nat} {l : List Oper} {Q : Exit → Act → World → Prop} {a : Act} {w : World} {S : World → Prop} (hm : P.follows .mixedOrders = true) (hS : S w.drew) (N : Nat) (hN : l.length = N)
    (h : S w.drew → AnyL P .any l.toArray Q S N (List.replicate N false).toArray a w.drew) : (Code.region id l.toArray true).wp P Q a w := by
  refine wp_region_any hm ?_
  subst hN
  exact AnyL.any _ _ _ _ (by simpa using h hS)

/-- Tree's loop over the kids. -/
structure TreeLoop (n : Nd) (w : World) (i : Nat) (v : Value) (l : List (Tr × Value)) (wx : World) : Prop where
  below : Below w.heap.size w wx
  res : wx.heap[w.heap.size]? = some (.cells #[.int .i64 0, .int .i64 0, .slice none 0 0] 24 (0, 0))
  box : wx.heap[w.heap.size + 1]? = some (.cells #[.int .i64 n.sy, .int .i64 n.pr, v] 24 (0, 0))
  row : wx.ownsRow (w.heap.size + 2) 24 3 v i (l.flatMap kidC)
  kid : ∀ p ∈ l, p.1.On (fun b => w.heap.size + 2 ≤ b ∧ b < wx.heap.size ∧ v.ownBlock ≠ some b) wx p.2
  done : l.map Prod.fst = (n.kids.take i).map Nd.tree

theorem TreeLoop.step {n : Nd} {w : World} {i : Nat} {v : Value} {l : List (Tr × Value)} {wr w2 w4 : World} (L : TreeLoop n w i v l wr) (hi : i < n.kids.length) (hb2 : Below wr.heap.size wr w2) {kv : Value}
    (hk : (n.kids[i]).tree.On (fun b => wr.heap.size ≤ b ∧ b < w2.heap.size) w2 kv) {o : Obj} {g c : Nat}
    (hown : w4.ownsRow (w.heap.size + 2) 24 3 (.slice (some ⟨g, 0, none⟩) (i + 1) c) (i + 1) (l.flatMap kidC ++ kidC ((n.kids[i]).tree, kv))) (hgr : Grew (w.heap.size + 2) v (w2.alloc o) w4 g) :
    w4.heap[w.heap.size + 1]? = some (.cells #[.int .i64 n.sy, .int .i64 n.pr, v] 24 (0, 0)) ∧
    TreeLoop n w (i + 1) (.slice (some ⟨g, 0, none⟩) (i + 1) c) (l ++ [((n.kids[i]).tree, kv)]) (w4.setCell ⟨w.heap.size + 1, 2, none⟩ (.slice (some ⟨g, 0, none⟩) (i + 1) c)) := by
  have hsz : w.heap.size + 2 ≤ wr.heap.size := by have := (Array.getElem?_eq_some_iff.1 L.box).1; omega
  have h2 := hb2.size
  have h3 : (w2.alloc o).heap.size = w2.heap.size + 1 := by simp
  have h4 := hgr.below.size
  have hvb : ∀ k, v.ownBlock = some k → w.heap.size + 2 ≤ k ∧ k < wr.heap.size := fun k hk => L.row.lt k hk
  have hfar : ∀ k, k < w2.heap.size → v.ownBlock ≠ some k → w4.heap[k]? = w2.heap[k]? := fun k hk hne =>
    (hgr.far k (by omega) (Ne.symm hne)).trans (Below.heap_alloc _ _ _ hk)
  have hold : ∀ k, k < wr.heap.size → v.ownBlock ≠ some k → w4.heap[k]? = wr.heap[k]? := fun k hk hne =>
    (hfar k (by omega) hne).trans (hb2.block k hk)
  have hnot : ∀ k, k < w.heap.size + 2 → v.ownBlock ≠ some k := fun k hk e => by have := (hvb k e).1; omega
  have hbox : w4.heap[w.heap.size + 1]? = some (.cells #[.int .i64 n.sy, .int .i64 n.pr, v] 24 (0, 0)) := (hold _ (by omega) (hnot _ (by omega))).trans L.box
  have hset : ∀ k, k ≠ w.heap.size + 1 → ∀ u, (w4.setCell ⟨w.heap.size + 1, 2, none⟩ u).heap[k]? = w4.heap[k]? := fun k hk u => Below.heap_setCell _ _ _ _ hk
  have hszs : ∀ u, (w4.setCell ⟨w.heap.size + 1, 2, none⟩ u).heap.size = w4.heap.size := fun u => by simp
  refine ⟨hbox, ?_, ?_, setCell_heap (i := 2) hbox _, ?_, ?_, ?_⟩
  · exact (((L.below.trans (hb2.mono (by omega))).trans ((below_alloc w2 o).mono (by omega))).trans (hgr.below.mono (by omega))).setCell (p := ⟨w.heap.size + 1, 2, none⟩) (by show _ ≤ w.heap.size + 1; omega) _
  · rw [hset _ (by omega), hold _ (by omega) (hnot _ (by omega))]; exact L.res
  · rw [List.flatMap_append, List.flatMap_singleton]
    exact ownsRow_of_block hown fun k hk => hset k (by have := (hown.lt k hk).1; omega) _
  · intro p hp
    rcases List.mem_append.1 hp with hp | hp
    · refine (L.kid p hp).keep (by rw [hszs]; omega) fun b hb => ?_
      have hne : g ≠ b := fun e => by
        subst e
        rcases hgr.at_ with h | h
        · exact hb.2.2 h
        · omega
      exact ⟨⟨hb.1, by rw [hszs]; omega, fun e => hne (by simpa [Value.ownBlock] using e)⟩, fun _ => by rw [hset b (by omega), hold b hb.2.1 hb.2.2]⟩
    · obtain rfl := List.mem_singleton.1 hp
      refine hk.keep (by rw [hszs]; omega) fun b hb => ?_
      have hne : g ≠ b := fun e => by
        subst e
        rcases hgr.at_ with h | h
        · have := (hvb _ h).2; omega
        · omega
      exact ⟨⟨by omega, by rw [hszs]; omega, fun e => hne (by simpa [Value.ownBlock] using e)⟩, fun _ => by rw [hset b (by omega), hfar b hb.2 (fun e => by have := (hvb b e).2; omega)]⟩
  · rw [List.map_append, L.done, List.take_succ_eq_append_getElem hi, List.map_append]
    rfl

set_option maxRecDepth 100000 in
set_option maxHeartbeats 4000000 in
theorem tree_call (n : Nd) : ∀ (w : World), n.In w → n.WF →
    Calls Try.prog 54 #[n.ptr] w fun e w' => ∃ kv, e = .returned (.agg #[.int .i64 n.sy, .int .i64 n.pr, kv]) ∧ n.tree.On (fun b => w.heap.size ≤ b ∧ b < w'.heap.size) w' kv ∧ Below w.heap.size w w' := by
  revert n
  refine Nd.ind ?_
  intro n ih w hin hwf
  have hok := Nd.WF.ok n hwf
  have hht := hok.ht1
  have hlen := hok.klen
  have hal := below_alloc w (.cells #[.int .i64 0, .int .i64 0, .slice none 0 0] 24)
  have hn := heap_alloc_new w (.cells #[.int .i64 0, .int .i64 0, .slice none 0 0] 24)
  have hsz := (show (w.alloc (.cells #[.int .i64 0, .int .i64 0, .slice none 0 0] 24)).heap.size = w.heap.size + 1 by simp)
  have HM := Lib.hid (made_yes n _ (hin.below hal) (by omega))
  have HIN := Lib.hid hin
  have HWF := Lib.hid hwf
  have HIH := Lib.hid ih
  have HSZ := Lib.hid hsz
  clear ih hok
  unfold Nd.ptr at HM ⊢
  go_enter Try.func54, Try.ntmps54
  go_upto_region 3 with (first | (go_at_call 70; refine HM.out.mono ?_; rintro e w1 ⟨rfl, h1⟩; rw [h1]; clear h1))
  clear HM
  generalize w.alloc (.cells #[.int .i64 0, .int .i64 0, .slice none 0 0] 24) = W at *
  have hW := hin.below hal
  have hcs := hW.cells
  have p4 := hcs.c4
  have p5 := hcs.c5
  have ln := (Array.getElem?_eq_some_iff.1 hW.head.1).1
  have HALL := Lib.hid (fun o => And.intro (((below_alloc W.drew o).cell (p := ⟨n.b, 4, none⟩) ln).trans p4) (((below_alloc W.drew o).cell (p := ⟨n.b, 5, none⟩) ln).trans p5))
  clear hcs hW hwf hin
  go_region_held3 (fun W => W.cell? ⟨n.b, 4, none⟩ = some (.int .i64 n.sy) ∧ W.cell? ⟨n.b, 5, none⟩ = some (.int .i64 n.pr)) (first | exact ⟨p4, p5⟩ | exact HALL.out _) (first | fail)
  have hw1 : ∀ X, X = (W.alloc (.cells #[.int .i64 n.sy, .int .i64 n.pr, .slice none 0 0] 24)).drew → TreeLoop n w 0 (.slice none 0 0) [] X := by
    rintro X rfl
    have e1 : w.heap.size + 1 = W.heap.size := HSZ.out.symm
    refine ⟨(hal.alloc hal.size _).drew, (Below.heap_alloc _ _ _ (by omega)).trans hn, ?_, World.ownsRow_nil _ _ _ _, by simp, by simp⟩
    rw [e1]
    exact heap_alloc_new W _
  have HL := Lib.hid (hw1 _ rfl)
  generalize (W.alloc (.cells #[.int .i64 n.sy, .int .i64 n.pr, .slice none 0 0] 24)).drew = w1 at *
  clear hw1 HALL p4 p5 ln hn hal hsz HSZ
  have hin1 := HIN.out.below HL.out.below
  have c10 := hin1.cells.c10
  obtain ⟨A, c, hks, hkc⟩ := ownsRow_any HIN.out.head.2.1
  rw [hks] at c10
  have HKC := Lib.hid hkc
  clear hin1 hks hkc
  go_wp2_with fail
  go_loopw [24] (fun iv wx => ∃ (i : Nat) (v : Value) (l : List (Tr × Value)), iv = .int .i64 i ∧ i ≤ n.kids.length ∧ Hid (TreeLoop n w i v l wx)) (fun iv _ => n.kids.length - (intOf iv).toNat)
  case atStart => exact ⟨0, _, [], rfl, by omega, HL.out⟩
  case round =>
    obtain ⟨i, v, l, rfl, hi, L⟩ := hrel
    obtain ⟨va, vc, rfl⟩ := row_any L.out.row
    have lx := (Array.getElem?_eq_some_iff.1 L.out.box).1
    by_cases hlt : i < n.kids.length
    · obtain ⟨gk, rfl, _, lk, hcell⟩ := HKC.out i n.kids[i].ptr (by rw [List.getElem?_map, List.getElem?_eq_getElem hlt]; rfl)
      have hmem : n.kids[i] ∈ n.kids := List.getElem_mem hlt
      obtain ⟨kd, hkd⟩ : ∃ kd, n.kids[i] = kd := ⟨_, rfl⟩
      rw [hkd] at hcell hmem
      have kc := (L.out.below.cell (p := ⟨gk, _, none⟩) lk).trans hcell
      unfold Nd.ptr at kc
      have hcall := HIH.out kd hmem wr.drew ((HIN.out.head.2.2 kd hmem).below L.out.below.drew) (HWF.out.kid kd hmem)
      unfold Nd.ptr at hcall
      have HC := Lib.hid hcall
      have HKD := Lib.hid hkd
      have p2 := cell_of_heap (i := 2) (v := .slice va i vc) L.out.box rfl
      have hltI : (i : Int) < (n.kids.length : Int) := by omega
      have hi0 : (0 : Int) ≤ (i : Int) := Int.natCast_nonneg _
      clear hcell hmem hkd hcall
      go_upto_region 7 with (fail)
      refine wp_region_last (S := fun W => W.cell? ⟨w.heap.size + 1, 2, none⟩ = some (.slice va i vc)) (by kernel_rfl) p2 8 rfl (fun hH => ?_)
      (try simp only [List.getElem_toArray, List.getElem_cons_succ, List.getElem_cons_zero, Act.put, List.setIfInBounds_toArray, List.set_cons_zero, List.set_cons_succ])
      refine AnyL.take (i := 0) (v := ?_) rfl (by kernel_rfl) (by kernel_rfl) (by kernel_rfl) (fun _ _ _ h => h) (Or.inl ⟨by rfl, ?_⟩) hH ?_
      rotate_left
      · (intro w hSw; (try dsimp only at hSw); go_simp; (try with_reducible rfl))
      (try simp only [List.getElem_toArray, List.getElem_cons_succ, List.getElem_cons_zero, Act.put, List.setIfInBounds_toArray, List.set_cons_zero, List.set_cons_succ])
      refine AnyL.take (i := 1) (v := ?_) rfl (by kernel_rfl) (by kernel_rfl) (by kernel_rfl) (fun _ _ _ h => h) (Or.inl ⟨by rfl, ?_⟩) hH ?_
      rotate_left
      · (intro w hSw; (try dsimp only at hSw); go_simp; (try with_reducible rfl))
      (try simp only [List.getElem_toArray, List.getElem_cons_succ, List.getElem_cons_zero, Act.put, List.setIfInBounds_toArray, List.set_cons_zero, List.set_cons_succ])
      refine AnyL.take (i := 2) (v := ?_) rfl (by kernel_rfl) (by kernel_rfl) (by kernel_rfl) (fun _ _ _ h => h) (Or.inl ⟨by rfl, ?_⟩) hH ?_
      rotate_left
      · (intro w hSw; (try dsimp only at hSw); go_simp; (try with_reducible rfl))
      (try simp only [List.getElem_toArray, List.getElem_cons_succ, List.getElem_cons_zero, Act.put, List.setIfInBounds_toArray, List.set_cons_zero, List.set_cons_succ])
      refine AnyL.step (i := 3) (by kernel_rfl) rfl (fun K hK => ?_)
      (try simp only [List.getElem_toArray, List.getElem_cons_succ, List.getElem_cons_zero])
      go_simp
      go_at_call 54
      refine HC.out.mono ?_
      rintro e w2 ⟨kvi, rfl, hon, hb2⟩
      obtain ⟨ka, kcp, rfl⟩ := hon.len
      have p2' := (hb2.cell (p := ⟨w.heap.size + 1, 2, none⟩) lx).trans p2
      have hl2 : wr.heap.size ≤ w2.heap.size := hb2.size
      have HON := Lib.hid hon
      clear hon
      refine hK.out _ _ (.inr p2') ?_
      clear hK K
      (try simp only [List.getElem_toArray, List.getElem_cons_succ, List.getElem_cons_zero, Act.put, List.setIfInBounds_toArray, List.set_cons_zero, List.set_cons_succ])
      refine AnyL.step (i := 4) (by kernel_rfl) rfl (fun K hK => ?_)
      (try simp only [List.getElem_toArray, List.getElem_cons_succ, List.getElem_cons_zero])
      go_simp
      refine hK.out _ _ (.inr (((below_alloc w2 _).cell (p := ⟨w.heap.size + 1, 2, none⟩) (by show w.heap.size + 1 < _; omega)).trans p2')) ?_
      clear hK K
      (try simp only [List.getElem_toArray, List.getElem_cons_succ, List.getElem_cons_zero, Act.put, List.setIfInBounds_toArray, List.set_cons_zero, List.set_cons_succ])
      refine AnyL.step (i := 5) (by kernel_rfl) rfl (fun K hK => ?_)
      (try simp only [List.getElem_toArray, List.getElem_cons_succ, List.getElem_cons_zero])
      rw [if_pos (by kernel_rfl)]
      refine wp_push (.tmp 29) (.tmp 32) 22 rfl 24 _ 3 40 info24 Try.underlying22 rfl (by decide) (w.heap.size + 2) (.slice va i vc) i (l.flatMap kidC) (by simp [Act.eval, Act.put]) ((ownsRow_of_block L.out.row (fun k hk => hb2.block k (L.out.row.lt k hk).2)).alloc _) w2.heap.size [.int .i64 kd.sy, .int .i64 kd.pr, .slice ka kd.tree.kids.length kcp] (by simp [Act.eval, Act.put]) (heap_alloc_new _ _) rfl (by simp [Value.oneCell']) (by omega) (by omega) (by simp; omega) ?_
      intro g4 c4 w4 HOWN0 HGR0
      have HOWN := Lib.hid HOWN0
      have HGR := Lib.hid HGR0
      clear HOWN0 HGR0
      have G4 := ((HGR.out.far (w.heap.size + 1) (by simp; omega) (fun e => by have := (L.out.row.lt _ e.symm).1; omega)).trans ((Below.heap_alloc _ _ _ (by omega)).trans ((hb2.block _ lx).trans L.out.box)))
      have p4 := cell_of_heap (i := 2) (v := .slice va i vc) G4 rfl
      have z4 : w4.frozen? ⟨w.heap.size + 1, 2, none⟩ = false := frozen_of_heap G4
      refine hK.out _ _ (.inr p4) ?_
      clear hK K
      (try simp only [List.getElem_toArray, List.getElem_cons_succ, List.getElem_cons_zero, Act.put, List.setIfInBounds_toArray, List.set_cons_zero, List.set_cons_succ])
      refine AnyL.take (i := 6) (v := ?_) rfl (by kernel_rfl) (by kernel_rfl) (by kernel_rfl) (fun _ _ _ h => h) (Or.inl ⟨by rfl, ?_⟩) p4 ?_
      rotate_left
      · (intro w hSw; (try dsimp only at hSw); go_simp; (try with_reducible rfl))
      (try simp only [List.getElem_toArray, List.getElem_cons_succ, List.getElem_cons_zero, Act.put, List.setIfInBounds_toArray, List.set_cons_zero, List.set_cons_succ])
      refine AnyL.step (i := 7) (by kernel_rfl) rfl (fun K hK => ?_)
      (try simp only [List.getElem_toArray, List.getElem_cons_succ, List.getElem_cons_zero])
      go_simp
      refine hK.out _ _ (.inl (by kernel_rfl)) ?_
      clear hK K
      (try simp only [List.getElem_toArray, List.getElem_cons_succ, List.getElem_cons_zero, Act.put, List.setIfInBounds_toArray, List.set_cons_zero, List.set_cons_succ])
      refine AnyL.done (by kernel_rfl) ?_ _
      clear hH
      have hT := L.out.step hlt ((Below.refl _ wr).drew.trans hb2) (kv := .slice ka kd.tree.kids.length kcp) (by rw [HKD.out]; exact HON.out) (by rw [HKD.out]; unfold kidC; rw [kd.tree_sy, kd.tree_pr]; exact HOWN.out) HGR.out
      have HT := Lib.hid hT.2
      clear hT G4 p4 z4 p2 p2' kc
      generalize w4.setCell ⟨w.heap.size + 1, 2, none⟩ (.slice (some ⟨g4, 0, none⟩) (i + 1) c4) = w5 at *
      have hwi : IntKind.i64.wrap ((i : Int) + 1) = ((i + 1 : Nat) : Int) := by rw [IntKind.wrap_i64]; omega
      go_wp2_with fail
      go_roundw
      case rel => exact ⟨i + 1, _, _, by go_num, by omega, HT.out⟩
      case measure => simp [intOf]; omega
    · have hge : ¬ ((i : Int) < (n.kids.length : Int)) := by omega
      have p0 := cell_of_heap (i := 0) (v := .int .i64 n.sy) L.out.box rfl
      have p1 := cell_of_heap (i := 1) (v := .int .i64 n.pr) L.out.box rfl
      have p2 := cell_of_heap (i := 2) (v := .slice va i vc) L.out.box rfl
      have z0 : wr.frozen? ⟨w.heap.size, 0, none⟩ = false := frozen_of_heap L.out.res
      have z1 : wr.frozen? ⟨w.heap.size, 1, none⟩ = false := frozen_of_heap L.out.res
      have z2 : wr.frozen? ⟨w.heap.size, 2, none⟩ = false := frozen_of_heap L.out.res
      have r0 := cell_of_heap (i := 0) (v := .int .i64 0) L.out.res rfl
      have r1 := cell_of_heap (i := 1) (v := .int .i64 0) L.out.res rfl
      have r2 := cell_of_heap (i := 2) (v := .slice none 0 0) L.out.res rfl
      go_wp2_with fail
      have hil : i = n.kids.length := by omega
      subst hil
      have h0 := setCell_heap (i := 0) L.out.res (.int .i64 n.sy)
      have h1 := setCell_heap (i := 1) h0 (.int .i64 n.pr)
      have h2 := setCell_heap (i := 2) h1 (.slice va n.kids.length vc)
      have hset : ∀ k, k ≠ w.heap.size → (((wr.setCell ⟨w.heap.size, 0, none⟩ (.int .i64 n.sy)).setCell ⟨w.heap.size, 1, none⟩ (.int .i64 n.pr)).setCell ⟨w.heap.size, 2, none⟩ (.slice va n.kids.length vc)).heap[k]? = wr.heap[k]? := fun k hk => by
        rw [Below.heap_setCell _ _ _ _ hk, Below.heap_setCell _ _ _ _ hk, Below.heap_setCell _ _ _ _ hk]
      have hbf := ((L.out.below.setCell (p := ⟨w.heap.size, 0, none⟩) (Nat.le_refl _) (.int .i64 n.sy)).setCell (p := ⟨w.heap.size, 1, none⟩) (Nat.le_refl _) (.int .i64 n.pr)).setCell (p := ⟨w.heap.size, 2, none⟩) (Nat.le_refl _) (.slice va n.kids.length vc)
      have hsf : (((wr.setCell ⟨w.heap.size, 0, none⟩ (.int .i64 n.sy)).setCell ⟨w.heap.size, 1, none⟩ (.int .i64 n.pr)).setCell ⟨w.heap.size, 2, none⟩ (.slice va n.kids.length vc)).heap.size = wr.heap.size := by simp
      have hdone : l.map Prod.fst = n.tree.kids := by rw [L.out.done, List.take_length, n.tree_kids]
      have hon : n.tree.On (fun b => w.heap.size + 2 ≤ b ∧ b < wr.heap.size) wr (.slice va n.kids.length vc) :=
        Tr.On.of_row L.out.row hdone (fun p hp => (L.out.kid p hp).keep (Nat.le_refl _) fun b hb => ⟨⟨hb.1, hb.2.1⟩, fun _ => rfl⟩) fun g hg => L.out.row.lt g hg
      clear r0 r1 r2 z0 z1 z2 p0 p1 p2
      generalize ((wr.setCell ⟨w.heap.size, 0, none⟩ (.int .i64 n.sy)).setCell ⟨w.heap.size, 1, none⟩ (.int .i64 n.pr)).setCell ⟨w.heap.size, 2, none⟩ (.slice va n.kids.length vc) = wf at *
      have y0 : wf.cell? ⟨w.heap.size, 0, none⟩ = some (.int .i64 n.sy) := cell_of_heap h2 rfl
      have y1 : wf.cell? ⟨w.heap.size, 1, none⟩ = some (.int .i64 n.pr) := cell_of_heap h2 rfl
      have y2 : wf.cell? ⟨w.heap.size, 2, none⟩ = some (.slice va n.kids.length vc) := cell_of_heap h2 rfl
      exact bodyPost_ret (v := .agg #[.int .i64 n.sy, .int .i64 n.pr, .slice va n.kids.length vc]) (by simp [results, Try.results54, go_sem, y0, y1, y2]) rfl ⟨_, rfl, hon.keep (by omega) fun b hb => ⟨by omega, fun _ => hset b (by omega)⟩, hbf⟩

end Go.Proofs.Ytcjpmgfobnaoeaa

/- builder.plain: the leaf. -/
namespace Go.Proofs.Ytcjpmgfobnaoeaa
set_option linter.unusedVariables false
set_option linter.unusedSimpArgs false
open PNodesTell (S79 S72 S57 S66 S64 S24 k79 k72)
open Go.RowKit Go.Proofs.YtcjpmgfobnaoeaaW.PrintWords
attribute [local irreducible] Calls

/-- A node that is none, its kids' value open. -/
def zeroV (kv : Value) : Value := .agg #[.int .i64 0, .int .i64 0, .int .i64 0, .int .i64 0, .int .i64 0, .int .i64 0, .int .i64 0, .bool false, kv]
/-- A leaf of the reference. -/
def leafV (k l wd st : Int) (fm : Bool) (kv : Value) : Value := .agg #[.int .i64 k, .int .i64 (-1), .int .i64 k, .int .i64 l, .int .i64 wd, .int .i64 st, .int .i64 (-1), .bool fm, kv]

/-- What the reference's Leaf says. -/
theorem refLeaf_ok {k l wd st : Int} {fm : Bool} {n : Pn} (h : leafP k l wd st fm = .ok n) (w : World) : Calls Try.prog 46 #[.agg #[.int .i64 k, .int .i64 l, .int .i64 wd], .int .i64 st, .bool fm] w fun e w' =>
    ∃ A c, e = .returned (.tuple #[leafV k l wd st fm (.slice A 0 c), .int .i64 0]) ∧ Below w.heap.size w w' := by
  unfold leafP at h
  split at h
  · simp at h
  · rename_i h1
    split at h
    · simp at h
    · rename_i h2
      have hf : PNodesTell.rootstockref20_Leaf.f 1 k l wd st fm = some (k, -1, k, l, wd, st, -1, fm, [], 0) := by
        have e1 : wrap64 (65536 - l) = 65536 - l := by unfold wrap64; omega
        have e2 : decide (wd < 0) = false := decide_eq_false (by omega)
        unfold PNodesTell.rootstockref20_Leaf.f
        rw [if_neg (by omega), if_neg (by omega), if_neg (by omega), if_neg (by omega), e2]
        simp only [PNodesTell.rootstockref20_Leaf.j0]
        rw [if_neg (by simp), if_neg (by omega), e1, if_neg (by omega)]
      refine (PNodesTell.rootstockref20_Leaf.calls 1 _ _ _ _ _ _ _ _ _ _ _ _ _ _ _ w hf).mono fun e w' => ?_
      rintro ⟨v, rfl, hR, hb⟩
      obtain ⟨A, c, rfl⟩ := Kd.R_slice hR
      exact ⟨A, c, rfl, hb⟩
theorem refLeaf_bad {k l wd st : Int} {fm : Bool} {x : Int} (h : leafP k l wd st fm = .error x) (w : World) : Calls Try.prog 46 #[.agg #[.int .i64 k, .int .i64 l, .int .i64 wd], .int .i64 st, .bool fm] w fun e w' =>
    ∃ A c, e = .returned (.tuple #[zeroV (.slice A 0 c), .int .i64 x]) ∧ Below w.heap.size w w' := by
  have hf : PNodesTell.rootstockref20_Leaf.f 1 k l wd st fm = some (0, 0, 0, 0, 0, 0, 0, false, [], x) := by
    unfold leafP at h
    unfold PNodesTell.rootstockref20_Leaf.f
    by_cases h1 : k < 0 ∨ 32 ≤ k ∨ st < 0 ∨ l < 0 ∨ wd < 0
    · rw [if_pos h1] at h
      injection h with h
      subst h
      have hj : ∀ b, b = true → PNodesTell.rootstockref20_Leaf.j0 1 st fm b k l wd = some (0, 0, 0, 0, 0, 0, 0, false, [], 2) := by
        rintro b rfl
        simp only [PNodesTell.rootstockref20_Leaf.j0, if_true]
      by_cases c1 : k < 0
      · rw [if_pos c1]; exact hj _ rfl
      · rw [if_neg c1]
        by_cases c2 : k ≥ 32
        · rw [if_pos c2]; exact hj _ rfl
        · rw [if_neg c2]
          by_cases c3 : st < 0
          · rw [if_pos c3]; exact hj _ rfl
          · rw [if_neg c3]
            by_cases c4 : l < 0
            · rw [if_pos c4]; exact hj _ rfl
            · rw [if_neg c4]; exact hj _ (decide_eq_true (by omega))
    · rw [if_neg h1] at h
      split at h
      · rename_i h2
        injection h with h
        subst h
        have e1 : wrap64 (65536 - l) = 65536 - l ∨ 65536 < l := by unfold wrap64; omega
        have e2 : decide (wd < 0) = false := decide_eq_false (by omega)
        rw [if_neg (by omega), if_neg (by omega), if_neg (by omega), if_neg (by omega), e2]
        simp only [PNodesTell.rootstockref20_Leaf.j0]
        rw [if_neg (by simp)]
        by_cases c1 : l > 65536
        · rw [if_pos c1]
        · rw [if_neg c1, if_pos (by omega)]
      · simp at h
  refine (PNodesTell.rootstockref20_Leaf.calls 1 _ _ _ _ _ _ _ _ _ _ _ _ _ _ _ w hf).mono fun e w' => ?_
  rintro ⟨v, rfl, hR, hb⟩
  obtain ⟨A, c, rfl⟩ := Kd.R_slice hR
  exact ⟨A, c, rfl, hb⟩

/-- What the plain builder leaves. -/
def PlainSays (g : Nat) (S P : Int) (KV tv sv : Value) (r : Except Int Pn × Nat × Nat) (w : World) (e : Ending) (w' : World) : Prop :=
  w.grownBy w' (some g) ∧ w'.heap[g]? = some (.cells (bcells S P KV tv sv r.2.1 r.2.2) 91 (0, 0)) ∧
  ((∃ x A c, r.1 = .error x ∧ x ≠ 0 ∧ e = .returned (.tuple #[zeroV (.slice A 0 c), .int .i64 x])) ∨
   (∃ (n : Pn) (kv : Value), r.1 = .ok n ∧ n.Ok ∧ e = .returned (.tuple #[nodeV n.s79 kv, .int .i64 0]) ∧ Kd.V k79 79 w' 0 (fun k => w.heap.size ≤ k ∧ k < w'.heap.size) kv (n.kids.map Pn.s79)))

theorem leafP_err0 {k l wd st : Int} {fm : Bool} {x : Int} (h : leafP k l wd st fm = .error x) : x ≠ 0 := by
  unfold leafP at h
  split at h
  · injection h with h; omega
  · split at h
    · injection h with h; omega
    · simp at h
theorem leafP_ok' {k l wd st : Int} {fm : Bool} {n : Pn} (h : leafP k l wd st fm = .ok n) : n = .mk k (-1) l wd st (-1) fm [] ∧ n.Ok := by
  unfold leafP at h
  split at h
  · simp at h
  · rename_i h1
    split at h
    · simp at h
    · rename_i h2
      injection h with h
      subst h
      refine ⟨rfl, Pn.Ok.mk' ⟨.inl ⟨by show (-1 : Int) < 0; decide, rfl, rfl, ?_, ?_, ?_⟩⟩ (fun k hk => by cases hk)⟩ <;> simp only [Pn.tl, Pn.tw] <;> omega

theorem gb_put9 {w W : World} {g r : Nat} (h : w.grownBy W (some g)) (hr : w.heap.size ≤ r) (v0 v1 v2 v3 v4 v5 v6 v7 v8 : Value) : w.grownBy (put9 W r v0 v1 v2 v3 v4 v5 v6 v7 v8) (some g) :=
  have hb := put9_below (Below.refl r W) (Nat.le_refl _) v0 v1 v2 v3 v4 v5 v6 v7 v8
  ⟨hb.os.trans h.os, hb.tape.trans h.tape, hb.output.trans h.output, by rw [put9_size]; exact h.size, fun k hk hn => (put9_far W r _ _ _ _ _ _ _ _ _ k (by omega)).trans (h.block k hk hn)⟩
theorem V_empty (W : World) (ok : Nat → Prop) (A : Option Addr) (c : Nat) : Kd.V k79 79 W 0 ok (.slice A 0 c) [] :=
  ⟨A, c, rfl, Nat.zero_le _, fun _ _ => ⟨rfl, by simp, fun h => by simp at h⟩⟩

set_option maxRecDepth 100000 in
set_option maxHeartbeats 4000000 in
theorem plainLeaf_call (g : Nat) (S P : Int) (KV tv sv : Value) (tks : List (Int × Int × Int)) (sts : List (Int × Int × Bool)) (s p : Int) (a : Option Addr) (c lv md : Nat) (w : World)
    (hg : w.heap[g]? = some (.cells (bcells S P KV tv sv lv md) 91 (0, 0))) (htv : SlcAt g w 3 tv (tks.map tkCells)) (hsv : SlcAt g w 3 sv (sts.map stCells)) (hlv : lv ≤ 1000000) (hmd : md ≤ 1000000) :
    Calls Try.prog 49 #[.pointer (some ⟨g, 0, none⟩), .agg #[.int .i64 s, .int .i64 p, .slice a 0 c]] w
      (PlainSays g S P KV tv sv (leafP s (leadP tks lv).1 (leadP tks lv).2 (stampP sts md).1 (stampP sts md).2.2, lv + 1, md + 1) w) := by
  have lg : g < w.heap.size := (Array.getElem?_eq_some_iff.1 hg).1
  have hst : ∀ W, Below w.heap.size w W → Calls Try.prog 80 #[.pointer (some ⟨g, 0, none⟩)] W fun e w' => e = .returned (.agg #[.int .i64 (stampP sts md).1, .int .i64 (stampP sts md).2.1, .bool (stampP sts md).2.2]) ∧
      w'.heap[g]? = some (.cells (bcells S P KV tv sv lv (md + 1)) 91 (0, 0)) ∧ W.grownBy w' (some g) := fun W hW =>
    stamp_call g g S P KV tv sv lv md sts W (by rw [hW.block g lg]; exact hg) (hsv.keep (hW.mono (by omega))) hmd
  have htk : ∀ W W2, Below w.heap.size w W → W2.heap[g]? = some (.cells (bcells S P KV tv sv lv (md + 1)) 91 (0, 0)) → W.grownBy W2 (some g) → Calls Try.prog 81 #[.pointer (some ⟨g, 0, none⟩), .int .i64 s] W2 fun e w' =>
      e = .returned (.agg #[.int .i64 s, .int .i64 (leadP tks lv).1, .int .i64 (leadP tks lv).2]) ∧ w'.heap[g]? = some (.cells (bcells S P KV tv sv (lv + 1) (md + 1)) 91 (0, 0)) ∧ W2.grownBy w' (some g) := fun W W2 hW h1 h2 =>
    token_call g g S P s KV tv sv lv (md + 1) tks W2 h1 (htv.keep ((hW.mono (by omega)).trans (below_gb h2 (Nat.le_refl _) (by have := hW.size; omega)))) hlv
  generalize (stampP sts md) = x at *
  generalize (leadP tks lv) = y at *
  have HST := Lib.hid hst
  have HTK := Lib.hid htk
  have hbox : ∀ W, W = (w.alloc (.cells #[.int .i64 s, .int .i64 p, .slice a 0 c] 24)).alloc (.cells #[.int .i64 0, .int .i64 0, .int .i64 0, .int .i64 0, .int .i64 0, .int .i64 0, .int .i64 0, .bool false, .slice none 0 0] 79) → Below w.heap.size w W ∧
      W.heap[w.heap.size]? = some (.cells #[.int .i64 s, .int .i64 p, .slice a 0 c] 24 (0, 0)) ∧ W.heap[w.heap.size + 1]? = some (.cells #[.int .i64 0, .int .i64 0, .int .i64 0, .int .i64 0, .int .i64 0, .int .i64 0, .int .i64 0, .bool false, .slice none 0 0] 79 (0, 0)) := by
    rintro W rfl
    exact ⟨((Below.refl _ _).alloc (Nat.le_refl _) _).alloc (by simp) _, by rw [Below.heap_alloc _ _ _ (by simp)]; exact heap_alloc_new _ _, heap_new2 _ _ _⟩
  have HBOX := Lib.hid hbox
  clear hg htv hsv hst htk hbox
  go_enter Try.func49, Try.ntmps49
  apply wp_seq_k
  intro K1 h1
  have H1 := Lib.hid h1
  clear h1
  go_wp2_with fail
  refine H1.out _ _ ?_
  clear H1 K1
  obtain ⟨e0, e1, e2⟩ := HBOX.out _ rfl
  generalize (w.alloc (.cells #[.int .i64 s, .int .i64 p, .slice a 0 c] 24)).alloc (.cells #[.int .i64 0, .int .i64 0, .int .i64 0, .int .i64 0, .int .i64 0, .int .i64 0, .int .i64 0, .bool false, .slice none 0 0] 79) = W at *
  have l1 := (Array.getElem?_eq_some_iff.1 e1).1
  have l2 := (Array.getElem?_eq_some_iff.1 e2).1
  have p2 : W.cell? ⟨w.heap.size, 2, none⟩ = some (.slice a 0 c) := cell_of_heap e1 rfl
  have E1 := Lib.hid e1
  have E2 := Lib.hid e2
  clear HBOX e1 e2
  go_wp2_with (go_at_call 80; refine (HST.out _ e0).mono ?_; rintro e w1 ⟨rfl, hg1, hb1⟩)
  have hb2 : W.grownBy (w1.alloc (.cells #[.int .i64 x.1, .int .i64 x.2.1, .bool x.2.2] 57)) (some g) := gb_alloc hb1 _
  have hs1 := hb1.size
  have hg2 : (w1.alloc (.cells #[.int .i64 x.1, .int .i64 x.2.1, .bool x.2.2] 57)).heap[g]? = some (.cells (bcells S P KV tv sv lv (md + 1)) 91 (0, 0)) := (Below.heap_alloc _ _ _ (by omega)).trans hg1
  have hx2 : (w1.alloc (.cells #[.int .i64 x.1, .int .i64 x.2.1, .bool x.2.2] 57)).heap[w1.heap.size]? = some (.cells #[.int .i64 x.1, .int .i64 x.2.1, .bool x.2.2] 57 (0, 0)) := heap_alloc_new _ _
  have ht2 := (hb2.block _ l1 (fun e => by simp at e; omega)).trans E1.out
  have hr2 := (hb2.block _ l2 (fun e => by simp at e; omega)).trans E2.out
  have hsz : w1.heap.size < (w1.alloc (.cells #[.int .i64 x.1, .int .i64 x.2.1, .bool x.2.2] 57)).heap.size := by simp
  generalize w1.alloc (.cells #[.int .i64 x.1, .int .i64 x.2.1, .bool x.2.2] 57) = W2 at *
  have q0 : W2.cell? ⟨w.heap.size, 0, none⟩ = some (.int .i64 s) := cell_of_heap ht2 rfl
  have q1 : W2.cell? ⟨w1.heap.size, 0, none⟩ = some (.int .i64 x.1) := cell_of_heap hx2 rfl
  have q2 : W2.cell? ⟨w1.heap.size, 2, none⟩ = some (.bool x.2.2) := cell_of_heap hx2 rfl
  have HX := Lib.hid (And.intro hg2 (And.intro hx2 (And.intro ht2 hr2)))
  have hgw : w.grownBy W2 (some g) := gb_trans ⟨e0.os, e0.tape, e0.output, e0.size, fun k hk _ => e0.block k hk⟩ hb2
  have l3 : w.heap.size + 1 < w1.heap.size := by omega
  clear hg2 hx2 ht2 hr2 hg1 hb1 p2
  have hkeep : ∀ w4 : World, w4.cell? ⟨w.heap.size, 0, none⟩ = some (.int .i64 s) → w4.cell? ⟨w1.heap.size, 0, none⟩ = some (.int .i64 x.1) → w4.cell? ⟨w1.heap.size, 2, none⟩ = some (.bool x.2.2) → ∀ {v0 v1 v2 v3 v4 v5 v6 v7 v8 : Value},
      (put9 w4 (w.heap.size + 1) v0 v1 v2 v3 v4 v5 v6 v7 v8).cell? ⟨w.heap.size, 0, none⟩ = some (.int .i64 s) ∧ (put9 w4 (w.heap.size + 1) v0 v1 v2 v3 v4 v5 v6 v7 v8).cell? ⟨w1.heap.size, 0, none⟩ = some (.int .i64 x.1) ∧ (put9 w4 (w.heap.size + 1) v0 v1 v2 v3 v4 v5 v6 v7 v8).cell? ⟨w1.heap.size, 2, none⟩ = some (.bool x.2.2) := by
    intro w4 h0 h1 h2 v0 v1 v2 v3 v4 v5 v6 v7 v8
    exact ⟨cell_same (put9_far w4 (w.heap.size + 1) _ _ _ _ _ _ _ _ _ _ (by omega)) h0, cell_same (put9_far w4 (w.heap.size + 1) _ _ _ _ _ _ _ _ _ _ (by omega)) h1, cell_same (put9_far w4 (w.heap.size + 1) _ _ _ _ _ _ _ _ _ _ (by omega)) h2⟩
  have KEEP := Lib.hid hkeep
  clear hkeep
  rcases hlf : leafP s y.1 y.2 x.1 x.2.2 with er | n
  · have HL := Lib.hid hlf
    clear hlf
    refine wp_region_last (S := fun W => W.cell? ⟨w.heap.size, 0, none⟩ = some (.int .i64 s) ∧ W.cell? ⟨w1.heap.size, 0, none⟩ = some (.int .i64 x.1) ∧ W.cell? ⟨w1.heap.size, 2, none⟩ = some (.bool x.2.2)) (by kernel_rfl) ⟨q0, q1, q2⟩ 13 rfl (fun hH => ?_)
    (try simp only [List.getElem_toArray, List.getElem_cons_succ, List.getElem_cons_zero, Act.put, List.setIfInBounds_toArray, List.set_cons_zero, List.set_cons_succ])
    refine AnyL.take (i := 0) (v := ?_) rfl (by kernel_rfl) (by kernel_rfl) (by kernel_rfl) (fun _ _ _ h => h) (Or.inl ⟨by rfl, ?_⟩) hH ?_
    rotate_left
    · (intro w hSw; (try dsimp only at hSw); go_simp; (try with_reducible rfl))
    (try simp only [List.getElem_toArray, List.getElem_cons_succ, List.getElem_cons_zero, Act.put, List.setIfInBounds_toArray, List.set_cons_zero, List.set_cons_succ])
    refine AnyL.take (i := 1) (v := ?_) rfl (by kernel_rfl) (by kernel_rfl) (by kernel_rfl) (fun _ _ _ h => h) (Or.inl ⟨by rfl, ?_⟩) hH ?_
    rotate_left
    · (intro w hSw; (try dsimp only at hSw); go_simp; (try with_reducible rfl))
    (try simp only [List.getElem_toArray, List.getElem_cons_succ, List.getElem_cons_zero, Act.put, List.setIfInBounds_toArray, List.set_cons_zero, List.set_cons_succ])
    refine AnyL.take (i := 2) (v := ?_) rfl (by kernel_rfl) (by kernel_rfl) (by kernel_rfl) (fun _ _ _ h => h) (Or.inl ⟨by rfl, ?_⟩) hH ?_
    rotate_left
    · (intro w hSw; (try dsimp only at hSw); go_simp; (try with_reducible rfl))
    (try simp only [List.getElem_toArray, List.getElem_cons_succ, List.getElem_cons_zero, Act.put, List.setIfInBounds_toArray, List.set_cons_zero, List.set_cons_succ])
    refine AnyL.take (i := 4) (v := ?_) rfl (by kernel_rfl) (by kernel_rfl) (by kernel_rfl) (fun _ _ _ h => h) (Or.inl ⟨by rfl, ?_⟩) hH ?_
    rotate_left
    · (intro w hSw; (try dsimp only at hSw); go_simp; (try with_reducible rfl))
    (try simp only [List.getElem_toArray, List.getElem_cons_succ, List.getElem_cons_zero, Act.put, List.setIfInBounds_toArray, List.set_cons_zero, List.set_cons_succ])
    refine AnyL.take (i := 5) (v := ?_) rfl (by kernel_rfl) (by kernel_rfl) (by kernel_rfl) (fun _ _ _ h => h) (Or.inl ⟨by rfl, ?_⟩) hH ?_
    rotate_left
    · (intro w hSw; (try dsimp only at hSw); go_simp; (try with_reducible rfl))
    (try simp only [List.getElem_toArray, List.getElem_cons_succ, List.getElem_cons_zero, Act.put, List.setIfInBounds_toArray, List.set_cons_zero, List.set_cons_succ])
    refine AnyL.take (i := 6) (v := ?_) rfl (by kernel_rfl) (by kernel_rfl) (by kernel_rfl) (fun _ _ _ h => h) (Or.inl ⟨by rfl, ?_⟩) hH ?_
    rotate_left
    · (intro w hSw; (try dsimp only at hSw); go_simp; (try with_reducible rfl))
    (try simp only [List.getElem_toArray, List.getElem_cons_succ, List.getElem_cons_zero, Act.put, List.setIfInBounds_toArray, List.set_cons_zero, List.set_cons_succ])
    refine AnyL.take (i := 7) (v := ?_) rfl (by kernel_rfl) (by kernel_rfl) (by kernel_rfl) (fun _ _ _ h => h) (Or.inl ⟨by rfl, ?_⟩) hH ?_
    rotate_left
    · (intro w hSw; (try dsimp only at hSw); go_simp; (try with_reducible rfl))
    (try simp only [List.getElem_toArray, List.getElem_cons_succ, List.getElem_cons_zero, Act.put, List.setIfInBounds_toArray, List.set_cons_zero, List.set_cons_succ])
    refine AnyL.step (i := 3) (by kernel_rfl) rfl (fun K hK => ?_)
    (try simp only [List.getElem_toArray, List.getElem_cons_succ, List.getElem_cons_zero])
    go_simp
    go_at_call 81
    refine (HTK.out _ W2.drew e0 HX.out.1 (gb_drew hb2)).mono ?_
    rintro e w3 ⟨rfl, hg3, hb3⟩
    have q0' := hb3.cell (a := ⟨w.heap.size, 0, none⟩) q0 (fun e => by simp at e; omega)
    have q1' := hb3.cell (a := ⟨w1.heap.size, 0, none⟩) q1 (fun e => by simp at e; omega)
    have q2' := hb3.cell (a := ⟨w1.heap.size, 2, none⟩) q2 (fun e => by simp at e; omega)
    refine hK.out _ _ (.inr ⟨q0', q1', q2'⟩) ?_
    clear hK K
    (try simp only [List.getElem_toArray, List.getElem_cons_succ, List.getElem_cons_zero, Act.put, List.setIfInBounds_toArray, List.set_cons_zero, List.set_cons_succ])
    refine AnyL.step (i := 8) (by kernel_rfl) rfl (fun K hK => ?_)
    (try simp only [List.getElem_toArray, List.getElem_cons_succ, List.getElem_cons_zero])
    go_simp
    go_at_call 46
    refine (refLeaf_bad HL.out _).mono ?_
    rintro e w4 ⟨A4, c4, rfl, hb5⟩
    have q0'' := (hb5.cell (World.block_lt_of_cell? _ _ q0')).trans q0'
    have q1'' := (hb5.cell (World.block_lt_of_cell? _ _ q1')).trans q1'
    have q2'' := (hb5.cell (World.block_lt_of_cell? _ _ q2')).trans q2'
    have hr3 := (hb3.block (w.heap.size + 1) (by show _ < W2.heap.size; have := (Array.getElem?_eq_some_iff.1 HX.out.2.2.2).1; omega) (fun e => by simp at e; omega)).trans HX.out.2.2.2
    have hr4 := (hb5.block _ (Array.getElem?_eq_some_iff.1 hr3).1).trans hr3
    obtain ⟨r0, r1, r2, r3, r4, r5, r6, r7, r8⟩ := nine_of hr4
    have hz : ∀ i, w4.frozen? ⟨w.heap.size + 1, i, none⟩ = false := fun i => frozen_of_heap hr4
    have HR4 := Lib.hid hr4
    unfold zeroV
    refine hK.out _ _ (.inr ⟨q0'', q1'', q2''⟩) ?_
    clear hK K
    (try simp only [List.getElem_toArray, List.getElem_cons_succ, List.getElem_cons_zero, Act.put, List.setIfInBounds_toArray, List.set_cons_zero, List.set_cons_succ])
    refine AnyL.take (i := 9) (v := ?_) rfl (by kernel_rfl) (by kernel_rfl) (by kernel_rfl) (fun _ _ _ h => h) (Or.inl ⟨by rfl, ?_⟩) ⟨q0'', q1'', q2''⟩ ?_
    rotate_left
    · (intro w hSw; (try dsimp only at hSw); go_simp; (try with_reducible rfl))
    (try simp only [List.getElem_toArray, List.getElem_cons_succ, List.getElem_cons_zero, Act.put, List.setIfInBounds_toArray, List.set_cons_zero, List.set_cons_succ])
    refine AnyL.take (i := 10) (v := ?_) rfl (by kernel_rfl) (by kernel_rfl) (by kernel_rfl) (fun _ _ _ h => h) (Or.inl ⟨by rfl, ?_⟩) ⟨q0'', q1'', q2''⟩ ?_
    rotate_left
    · (intro w hSw; (try dsimp only at hSw); go_simp; (try with_reducible rfl))
    (try simp only [List.getElem_toArray, List.getElem_cons_succ, List.getElem_cons_zero, Act.put, List.setIfInBounds_toArray, List.set_cons_zero, List.set_cons_succ])
    refine AnyL.step (i := 11) (by kernel_rfl) rfl (fun K hK => ?_)
    (try simp only [List.getElem_toArray, List.getElem_cons_succ, List.getElem_cons_zero])
    go_simp
    refine hK.out _ _ (.inr (KEEP.out w4 q0'' q1'' q2'')) ?_
    clear hK K
    (try simp only [List.getElem_toArray, List.getElem_cons_succ, List.getElem_cons_zero, Act.put, List.setIfInBounds_toArray, List.set_cons_zero, List.set_cons_succ])
    refine AnyL.take (i := 12) (v := ?_) rfl (by kernel_rfl) (by kernel_rfl) (by kernel_rfl) (fun _ _ _ h => h) (Or.inl ⟨by rfl, ?_⟩) (KEEP.out w4 q0'' q1'' q2'') ?_
    rotate_left
    · (intro w hSw; (try dsimp only at hSw); go_simp; (try with_reducible rfl))
    (try simp only [List.getElem_toArray, List.getElem_cons_succ, List.getElem_cons_zero, Act.put, List.setIfInBounds_toArray, List.set_cons_zero, List.set_cons_succ])
    refine AnyL.done (by kernel_rfl) ?_ _
    clear r0 r1 r2 r3 r4 r5 r6 r7 r8 hz
    have hgw' := gb_below (gb_trans (gb_drew hgw) hb3) hb5
    have lg4 : g < w3.heap.size := Nat.lt_of_lt_of_le lg (Nat.le_trans hgw.size hb3.size)
    go_wp2_with fail
    exact end79 (X := put9 w4 (w.heap.size + 1) (.int .i64 0) (.int .i64 0) (.int .i64 0) (.int .i64 0) (.int .i64 0) (.int .i64 0) (.int .i64 0) (.bool false) (.slice A4 0 c4)) rfl rfl (put9_heap HR4.out _ _ _ _ _ _ _ _ _) rfl rfl rfl ⟨gb_put9 hgw' (by omega) _ _ _ _ _ _ _ _ _, (put9_far w4 (w.heap.size + 1) _ _ _ _ _ _ _ _ _ g (by omega)).trans ((hb5.block g lg4).trans hg3), .inl ⟨er, A4, c4, HL.out, leafP_err0 HL.out, rfl⟩⟩
  · have HL := Lib.hid hlf
    clear hlf
    refine wp_region_last (S := fun W => W.cell? ⟨w.heap.size, 0, none⟩ = some (.int .i64 s) ∧ W.cell? ⟨w1.heap.size, 0, none⟩ = some (.int .i64 x.1) ∧ W.cell? ⟨w1.heap.size, 2, none⟩ = some (.bool x.2.2)) (by kernel_rfl) ⟨q0, q1, q2⟩ 13 rfl (fun hH => ?_)
    (try simp only [List.getElem_toArray, List.getElem_cons_succ, List.getElem_cons_zero, Act.put, List.setIfInBounds_toArray, List.set_cons_zero, List.set_cons_succ])
    refine AnyL.take (i := 0) (v := ?_) rfl (by kernel_rfl) (by kernel_rfl) (by kernel_rfl) (fun _ _ _ h => h) (Or.inl ⟨by rfl, ?_⟩) hH ?_
    rotate_left
    · (intro w hSw; (try dsimp only at hSw); go_simp; (try with_reducible rfl))
    (try simp only [List.getElem_toArray, List.getElem_cons_succ, List.getElem_cons_zero, Act.put, List.setIfInBounds_toArray, List.set_cons_zero, List.set_cons_succ])
    refine AnyL.take (i := 1) (v := ?_) rfl (by kernel_rfl) (by kernel_rfl) (by kernel_rfl) (fun _ _ _ h => h) (Or.inl ⟨by rfl, ?_⟩) hH ?_
    rotate_left
    · (intro w hSw; (try dsimp only at hSw); go_simp; (try with_reducible rfl))
    (try simp only [List.getElem_toArray, List.getElem_cons_succ, List.getElem_cons_zero, Act.put, List.setIfInBounds_toArray, List.set_cons_zero, List.set_cons_succ])
    refine AnyL.take (i := 2) (v := ?_) rfl (by kernel_rfl) (by kernel_rfl) (by kernel_rfl) (fun _ _ _ h => h) (Or.inl ⟨by rfl, ?_⟩) hH ?_
    rotate_left
    · (intro w hSw; (try dsimp only at hSw); go_simp; (try with_reducible rfl))
    (try simp only [List.getElem_toArray, List.getElem_cons_succ, List.getElem_cons_zero, Act.put, List.setIfInBounds_toArray, List.set_cons_zero, List.set_cons_succ])
    refine AnyL.take (i := 4) (v := ?_) rfl (by kernel_rfl) (by kernel_rfl) (by kernel_rfl) (fun _ _ _ h => h) (Or.inl ⟨by rfl, ?_⟩) hH ?_
    rotate_left
    · (intro w hSw; (try dsimp only at hSw); go_simp; (try with_reducible rfl))
    (try simp only [List.getElem_toArray, List.getElem_cons_succ, List.getElem_cons_zero, Act.put, List.setIfInBounds_toArray, List.set_cons_zero, List.set_cons_succ])
    refine AnyL.take (i := 5) (v := ?_) rfl (by kernel_rfl) (by kernel_rfl) (by kernel_rfl) (fun _ _ _ h => h) (Or.inl ⟨by rfl, ?_⟩) hH ?_
    rotate_left
    · (intro w hSw; (try dsimp only at hSw); go_simp; (try with_reducible rfl))
    (try simp only [List.getElem_toArray, List.getElem_cons_succ, List.getElem_cons_zero, Act.put, List.setIfInBounds_toArray, List.set_cons_zero, List.set_cons_succ])
    refine AnyL.take (i := 6) (v := ?_) rfl (by kernel_rfl) (by kernel_rfl) (by kernel_rfl) (fun _ _ _ h => h) (Or.inl ⟨by rfl, ?_⟩) hH ?_
    rotate_left
    · (intro w hSw; (try dsimp only at hSw); go_simp; (try with_reducible rfl))
    (try simp only [List.getElem_toArray, List.getElem_cons_succ, List.getElem_cons_zero, Act.put, List.setIfInBounds_toArray, List.set_cons_zero, List.set_cons_succ])
    refine AnyL.take (i := 7) (v := ?_) rfl (by kernel_rfl) (by kernel_rfl) (by kernel_rfl) (fun _ _ _ h => h) (Or.inl ⟨by rfl, ?_⟩) hH ?_
    rotate_left
    · (intro w hSw; (try dsimp only at hSw); go_simp; (try with_reducible rfl))
    (try simp only [List.getElem_toArray, List.getElem_cons_succ, List.getElem_cons_zero, Act.put, List.setIfInBounds_toArray, List.set_cons_zero, List.set_cons_succ])
    refine AnyL.step (i := 3) (by kernel_rfl) rfl (fun K hK => ?_)
    (try simp only [List.getElem_toArray, List.getElem_cons_succ, List.getElem_cons_zero])
    go_simp
    go_at_call 81
    refine (HTK.out _ W2.drew e0 HX.out.1 (gb_drew hb2)).mono ?_
    rintro e w3 ⟨rfl, hg3, hb3⟩
    have q0' := hb3.cell (a := ⟨w.heap.size, 0, none⟩) q0 (fun e => by simp at e; omega)
    have q1' := hb3.cell (a := ⟨w1.heap.size, 0, none⟩) q1 (fun e => by simp at e; omega)
    have q2' := hb3.cell (a := ⟨w1.heap.size, 2, none⟩) q2 (fun e => by simp at e; omega)
    refine hK.out _ _ (.inr ⟨q0', q1', q2'⟩) ?_
    clear hK K
    (try simp only [List.getElem_toArray, List.getElem_cons_succ, List.getElem_cons_zero, Act.put, List.setIfInBounds_toArray, List.set_cons_zero, List.set_cons_succ])
    refine AnyL.step (i := 8) (by kernel_rfl) rfl (fun K hK => ?_)
    (try simp only [List.getElem_toArray, List.getElem_cons_succ, List.getElem_cons_zero])
    go_simp
    go_at_call 46
    refine (refLeaf_ok HL.out _).mono ?_
    rintro e w4 ⟨A4, c4, rfl, hb5⟩
    have q0'' := (hb5.cell (World.block_lt_of_cell? _ _ q0')).trans q0'
    have q1'' := (hb5.cell (World.block_lt_of_cell? _ _ q1')).trans q1'
    have q2'' := (hb5.cell (World.block_lt_of_cell? _ _ q2')).trans q2'
    have hr3 := (hb3.block (w.heap.size + 1) (by show _ < W2.heap.size; have := (Array.getElem?_eq_some_iff.1 HX.out.2.2.2).1; omega) (fun e => by simp at e; omega)).trans HX.out.2.2.2
    have hr4 := (hb5.block _ (Array.getElem?_eq_some_iff.1 hr3).1).trans hr3
    obtain ⟨r0, r1, r2, r3, r4, r5, r6, r7, r8⟩ := nine_of hr4
    have hz : ∀ i, w4.frozen? ⟨w.heap.size + 1, i, none⟩ = false := fun i => frozen_of_heap hr4
    have HR4 := Lib.hid hr4
    unfold leafV
    refine hK.out _ _ (.inr ⟨q0'', q1'', q2''⟩) ?_
    clear hK K
    (try simp only [List.getElem_toArray, List.getElem_cons_succ, List.getElem_cons_zero, Act.put, List.setIfInBounds_toArray, List.set_cons_zero, List.set_cons_succ])
    refine AnyL.take (i := 9) (v := ?_) rfl (by kernel_rfl) (by kernel_rfl) (by kernel_rfl) (fun _ _ _ h => h) (Or.inl ⟨by rfl, ?_⟩) ⟨q0'', q1'', q2''⟩ ?_
    rotate_left
    · (intro w hSw; (try dsimp only at hSw); go_simp; (try with_reducible rfl))
    (try simp only [List.getElem_toArray, List.getElem_cons_succ, List.getElem_cons_zero, Act.put, List.setIfInBounds_toArray, List.set_cons_zero, List.set_cons_succ])
    refine AnyL.take (i := 10) (v := ?_) rfl (by kernel_rfl) (by kernel_rfl) (by kernel_rfl) (fun _ _ _ h => h) (Or.inl ⟨by rfl, ?_⟩) ⟨q0'', q1'', q2''⟩ ?_
    rotate_left
    · (intro w hSw; (try dsimp only at hSw); go_simp; (try with_reducible rfl))
    (try simp only [List.getElem_toArray, List.getElem_cons_succ, List.getElem_cons_zero, Act.put, List.setIfInBounds_toArray, List.set_cons_zero, List.set_cons_succ])
    refine AnyL.step (i := 11) (by kernel_rfl) rfl (fun K hK => ?_)
    (try simp only [List.getElem_toArray, List.getElem_cons_succ, List.getElem_cons_zero])
    go_simp
    refine hK.out _ _ (.inr (KEEP.out w4 q0'' q1'' q2'')) ?_
    clear hK K
    (try simp only [List.getElem_toArray, List.getElem_cons_succ, List.getElem_cons_zero, Act.put, List.setIfInBounds_toArray, List.set_cons_zero, List.set_cons_succ])
    refine AnyL.take (i := 12) (v := ?_) rfl (by kernel_rfl) (by kernel_rfl) (by kernel_rfl) (fun _ _ _ h => h) (Or.inl ⟨by rfl, ?_⟩) (KEEP.out w4 q0'' q1'' q2'') ?_
    rotate_left
    · (intro w hSw; (try dsimp only at hSw); go_simp; (try with_reducible rfl))
    (try simp only [List.getElem_toArray, List.getElem_cons_succ, List.getElem_cons_zero, Act.put, List.setIfInBounds_toArray, List.set_cons_zero, List.set_cons_succ])
    refine AnyL.done (by kernel_rfl) ?_ _
    clear r0 r1 r2 r3 r4 r5 r6 r7 r8 hz
    have hgw' := gb_below (gb_trans (gb_drew hgw) hb3) hb5
    have lg4 : g < w3.heap.size := Nat.lt_of_lt_of_le lg (Nat.le_trans hgw.size hb3.size)
    obtain ⟨rfl, hnok⟩ := leafP_ok' HL.out
    go_wp2_with fail
    exact end79 (X := put9 w4 (w.heap.size + 1) (.int .i64 s) (.int .i64 (-1)) (.int .i64 s) (.int .i64 y.1) (.int .i64 y.2) (.int .i64 x.1) (.int .i64 (-1)) (.bool x.2.2) (.slice A4 0 c4)) rfl rfl (put9_heap HR4.out _ _ _ _ _ _ _ _ _) rfl rfl rfl ⟨gb_put9 hgw' (by omega) _ _ _ _ _ _ _ _ _, (put9_far w4 (w.heap.size + 1) _ _ _ _ _ _ _ _ _ g (by omega)).trans ((hb5.block g lg4).trans hg3), .inr ⟨_, .slice A4 0 c4, HL.out, hnok, rfl, V_empty _ _ _ _⟩⟩

end Go.Proofs.Ytcjpmgfobnaoeaa

/- builder.plain: its loop over the kids; plain parts. -/
namespace Go.Proofs.Ytcjpmgfobnaoeaa
set_option linter.unusedVariables false
set_option linter.unusedSimpArgs false
open PNodesTell (S79 S72 S57 S66 S64 S24 k79 k72)
open Go.RowKit Go.Proofs.YtcjpmgfobnaoeaaW.PrintWords

theorem info79 : (Try.prog.info? 79).map (fun i => (i.zero, i.size, i.bytes)) = some (some (.agg #[.int .i64 0, .int .i64 0, .int .i64 0, .int .i64 0, .int .i64 0, .int .i64 0, .int .i64 0, .bool false, .slice none 0 0]), 9, 88) := by kernel_rfl

/-- A kid that is done: its cells. -/
def nodeC (s : S79) (kv : Value) : List Value := [.int .i64 s.f0, .int .i64 s.f1, .int .i64 s.f2.f0, .int .i64 s.f2.f1, .int .i64 s.f2.f2, .int .i64 s.f3.f0, .int .i64 s.f3.f1, .bool s.f3.f2, kv]
def kidN (p : Pn × Value) : List Value := nodeC p.1.s79 p.2
theorem kidN_get : ∀ (l : List (Pn × Value)) (i : Nat) (h : i < l.length) (j : Nat), j < 9 → (l.flatMap kidN)[i * 9 + j]? = (kidN l[i])[j]?
  | s :: l, 0, _, j, hj => by
    rw [List.flatMap_cons, Nat.zero_mul, Nat.zero_add, List.getElem?_append_left (by simp [kidN, nodeC]; omega)]
    rfl
  | s :: l, i + 1, h, j, hj => by
    rw [List.flatMap_cons, List.getElem?_append_right (by simp [kidN, nodeC]; omega)]
    have := kidN_get l i (by simpa using h) j hj
    simp only [List.getElem_cons_succ]
    rw [← this]
    congr 1
    simp only [kidN, nodeC, List.length_cons, List.length_nil]
    omega
theorem kidN_len (l : List (Pn × Value)) : (l.flatMap kidN).length = l.length * 9 := by
  induction l with
  | nil => rfl
  | cons s l ih => rw [List.flatMap_cons, List.length_append, ih]; simp [kidN, nodeC]; omega

/-- A row of kids, as the printed functions read it. -/
theorem V_row {w : World} {base n : Nat} {v : Value} {l : List (Pn × Value)} {ok : Nat → Prop} (h : w.ownsRow base 79 9 v n (l.flatMap kidN)) (hv : ∀ k, v.ownBlock = some k → ok k) (hk : ∀ p ∈ l, Kd.V k79 79 w 0 ok p.2 (p.1.kids.map Pn.s79)) :
    Kd.V k79 79 w 0 ok v (l.map fun p => p.1.s79) := by
  have hn : n = l.length := by have := h.1; rw [kidN_len] at this; omega
  subst hn
  rcases h.2 with ⟨rfl, h0⟩ | ⟨g, c, cur, rfl, hb, hg, h3, h4, h5, h6⟩
  · obtain rfl : l = [] := List.eq_nil_of_length_eq_zero (by omega)
    exact Kd.V_nil _ _ _ _ _
  · refine ⟨some ⟨g, 0, none⟩, c, by simp, by simp; exact h3, ?_⟩
    intro W' hW
    have hg' : W'.heap[g]? = some (.cells cur 79 (0, 0)) := (hW g (hv g rfl) (Array.getElem?_eq_some_iff.1 hg).1).trans hg
    refine ⟨rfl, by simp; unfold maxLen at h4; omega, fun _ => ⟨⟨g, 0, none⟩, rfl, fun j s hj => ?_⟩⟩
    have hjl : j < l.length := by have := (List.getElem?_eq_some_iff.1 hj).1; simpa using this
    obtain rfl : (l[j]).1.s79 = s := by
      rw [List.getElem?_map, List.getElem?_eq_getElem hjl] at hj
      simpa using hj
    obtain ⟨A8, c8, hkv, hl8, hF⟩ := hk l[j] (List.getElem_mem hjl)
    have hC := hF W' hW
    have hkids : ((l[j]).1.kids.map Pn.s79) = (l[j]).1.s79.f4 := by rw [Pn.s79_eq]
    rw [hkids] at hC hl8 hkv
    refine ⟨kidN l[j], rfl, ?_, fun i u hi => ?_⟩
    · unfold kidN nodeC
      rw [hkv]
      exact PNodesTell.k79_mk W' _ hl8 hC
    · have hi9 : i < 9 := by have := (List.getElem?_eq_some_iff.1 hi).1; simpa [kidN, nodeC] using this
      show W'.cell? ((⟨g, 0, none⟩ : Addr).add (j * 9 + i)) = some u
      rw [show (⟨g, 0, none⟩ : Addr).add (j * 9 + i) = ⟨g, j * 9 + i, none⟩ by rw [Addr.add_lit, Nat.zero_add]]
      refine cell_of_heap hg' ?_
      have := kidN_get l j hjl i hi9
      rw [hi, ← h6, List.getElem?_take] at this
      split at this
      · simpa using this
      · simp at this

theorem makeP_okP {head : Int} {body : List Int} {prod st lk : Int} {fm : Bool} {kids : List Pn} {n : Pn} (h : makeP head body prod st lk fm kids = .ok n) (hk : ∀ k ∈ kids, k.Ok) : n = .mk head prod 0 0 st lk fm kids ∧ n.Ok := by
  unfold makeP at h
  split at h
  · simp at h
  · rename_i h1
    split at h
    · simp at h
    · rename_i h2
      split at h
      · simp at h
      · rename_i h3
        injection h with h
        subst h
        refine ⟨rfl, Pn.Ok.mk' ⟨.inr ⟨by show (0 : Int) ≤ prod; omega, ?_, rfl, rfl, by show bytesOf (PnsLeaves kids) ≤ 65536; omega, by show (PnsLeaves kids).length ≤ 262144; omega⟩⟩ (fun k hk' => hk k hk')⟩
        intro e
        have e : kids = [] := e
        subst e
        simp at h2
        exact h1 (by simp [h2])

/-- The plain builder's loop. -/
structure PlainLoop (g : Nat) (S P : Int) (KV tv sv : Value) (tks : List (Int × Int × Int)) (sts : List (Int × Int × Bool)) (w : World) (bx : Array Value) (kids : List Tr) (lv0 md0 : Nat) (i : Nat) (nsv : Value) (l : List (Pn × Value)) (lv md : Nat) (wx : World) : Prop where
  grown : w.grownBy wx (some g)
  box : wx.heap[w.heap.size]? = some (.cells bx 24 (0, 0))
  res : wx.heap[w.heap.size + 1]? = some (.cells #[.int .i64 0, .int .i64 0, .int .i64 0, .int .i64 0, .int .i64 0, .int .i64 0, .int .i64 0, .bool false, .slice none 0 0] 79 (0, 0))
  bld : wx.heap[g]? = some (.cells (bcells S P KV tv sv lv md) 91 (0, 0))
  row : wx.ownsRow (w.heap.size + 2) 79 9 nsv i (l.flatMap kidN)
  len : l.length = i
  kid : ∀ p ∈ l, Kd.V k79 79 wx 0 (fun k => w.heap.size + 2 ≤ k ∧ k < wx.heap.size ∧ some k ≠ nsv.ownBlock) p.2 (p.1.kids.map Pn.s79)
  ok : ∀ p ∈ l, p.1.Ok
  ans : afterP (l.map Prod.fst) (bldL tks sts (kids.drop i) lv md) = bldL tks sts kids lv0 md0
  hlv : lv + TrsCnt (kids.drop i) ≤ 1000000
  hmd : md + TrsCnt (kids.drop i) + 1 ≤ 1000000

theorem PlainLoop.step {g : Nat} {S P : Int} {KV tv sv : Value} {tks : List (Int × Int × Int)} {sts : List (Int × Int × Bool)} {w : World} {bx : Array Value} {kids : List Tr} {lv0 md0 i : Nat} {nsv : Value} {l : List (Pn × Value)} {lv md lv' md' : Nat} {wx w2 w3 w4 : World} {kd : Tr} {n : Pn} {kv : Value} {g4 c4 : Nat}
    (h : PlainLoop g S P KV tv sv tks sts w bx kids lv0 md0 i nsv l lv md wx) (hg : g < w.heap.size) (hd : kids.drop i = kd :: kids.drop (i + 1))
    (h1 : wx.grownBy w2 (some g)) (h2 : w2.heap[g]? = some (.cells (bcells S P KV tv sv lv' md') 91 (0, 0))) (h3 : bldT tks sts kd lv md = (.ok n, lv', md'))
    (h4 : n.Ok) (h5 : Kd.V k79 79 w2 0 (fun k => wx.heap.size ≤ k ∧ k < w2.heap.size) kv (n.kids.map Pn.s79)) (h6 : Below w2.heap.size w2 w3)
    (hown : w4.ownsRow (w.heap.size + 2) 79 9 (.slice (some ⟨g4, 0, none⟩) (i + 1) c4) (i + 1) (l.flatMap kidN ++ nodeC n.s79 kv)) (hgr : Grew (w.heap.size + 2) nsv w3 w4 g4) :
    PlainLoop g S P KV tv sv tks sts w bx kids lv0 md0 (i + 1) (.slice (some ⟨g4, 0, none⟩) (i + 1) c4) (l ++ [(n, kv)]) lv' md' w4 := by
  have hcnt := bldT_counts tks sts kd lv md
  rw [h3] at hcnt
  simp only [] at hcnt
  have hdc : TrsCnt (kids.drop i) = kd.cnt + TrsCnt (kids.drop (i + 1)) := by rw [hd]; rfl
  have hs1 := h1.size
  have hs0 := h.grown.size
  have hs2 := h6.size
  have hs4 := hgr.below.size
  have lres := (Array.getElem?_eq_some_iff.1 h.res).1
  have hrl : ∀ k, nsv.ownBlock = some k → w.heap.size + 2 ≤ k ∧ k < wx.heap.size := fun k hk => h.row.lt k hk
  have hgb : ∀ k, k < w2.heap.size → some k ≠ nsv.ownBlock → w4.heap[k]? = w2.heap[k]? := fun k hk hn => (hgr.far k (by omega) hn).trans (h6.block k hk)
  have hnl : ∀ k, k < w.heap.size + 2 → some k ≠ nsv.ownBlock := fun k hk e => by have := (hrl k e.symm).1; omega
  have hold : ∀ k, k < wx.heap.size → k ≠ g → some k ≠ nsv.ownBlock → w4.heap[k]? = wx.heap[k]? := fun k hk hkg hn =>
    (hgb k (by omega) hn).trans (h1.block k hk (fun e => by injection e with e; exact hkg e))
  have hg4 : ∀ k, k < w2.heap.size → some k ≠ nsv.ownBlock → some k ≠ (Value.slice (some ⟨g4, 0, none⟩) (i + 1) c4).ownBlock := by
    intro k hk hn he
    simp only [Value.ownBlock, Option.some.injEq] at he
    subst he
    rcases hgr.at_ with h | h
    · exact hn h.symm
    · omega
  refine ⟨?_, ?_, ?_, ?_, ?_, ?_, ?_, ?_, ?_, ?_, ?_⟩
  · have hb := hgr.below
    have hgg := gb_trans h.grown h1
    exact ⟨hb.os.trans (h6.os.trans hgg.os), hb.tape.trans (h6.tape.trans hgg.tape), hb.output.trans (h6.output.trans hgg.output), by omega, fun k hk hn => (hgb k (by omega) (hnl k (by omega))).trans (hgg.block k hk hn)⟩
  · rw [hold _ (by omega) (by omega) (hnl _ (by omega))]; exact h.box
  · rw [hold _ (by omega) (by omega) (hnl _ (by omega))]; exact h.res
  · rw [hgb _ (by omega) (hnl _ (by omega))]; exact h2
  · rw [List.flatMap_append, List.flatMap_singleton]; exact hown
  · rw [List.length_append, h.len]; rfl
  · intro p hp
    rcases List.mem_append.1 hp with hp | hp
    · refine Kd.V_mono (Kd.V_step (h.kid p hp) (w1 := w4) (fun k hk hlt => hold k hlt (by omega) hk.2.2)) (fun k hk => ⟨hk.1, by omega, hg4 k (by omega) hk.2.2⟩)
    · obtain rfl := List.mem_singleton.1 hp
      refine Kd.V_mono (Kd.V_step h5 (w1 := w4) (fun k hk hlt => hgb k hlt (fun e => by have := (hrl k e.symm).2; omega))) (fun k hk => ⟨by omega, by omega, hg4 k hk.2 (fun e => by have := (hrl k e.symm).2; omega)⟩)
  · intro p hp
    rcases List.mem_append.1 hp with hp | hp
    · exact h.ok p hp
    · obtain rfl := List.mem_singleton.1 hp; exact h4
  · have := h.ans
    rw [hd, afterP_cons, h3] at this
    rw [List.map_append]
    exact this
  · have := h.hlv; omega
  · have := h.hmd; omega

theorem plainL_end {g : Nat} {S P : Int} {KV tv sv : Value} {tks : List (Int × Int × Int)} {sts : List (Int × Int × Bool)} {w : World} {bx : Array Value} {kids : List Tr} {lv0 md0 : Nat} {nsv : Value} {l : List (Pn × Value)} {lv md : Nat} {wx : World}
    (h : PlainLoop g S P KV tv sv tks sts w bx kids lv0 md0 kids.length nsv l lv md wx) : bldL tks sts kids lv0 md0 = (.ok (l.map Prod.fst), lv, md) := by
  have h1 := h.ans
  rw [List.drop_length] at h1
  rw [← h1]
  simp [bldL, afterP]

theorem PlainSays.ok {g : Nat} {S P : Int} {KV tv sv : Value} {pn : Pn} {lv md : Nat} {w w' : World} {e : Ending} (h : PlainSays g S P KV tv sv (.ok pn, lv, md) w e w') :
    w.grownBy w' (some g) ∧ w'.heap[g]? = some (.cells (bcells S P KV tv sv lv md) 91 (0, 0)) ∧ ∃ kv, pn.Ok ∧ e = .returned (.tuple #[nodeV pn.s79 kv, .int .i64 0]) ∧ Kd.V k79 79 w' 0 (fun k => w.heap.size ≤ k ∧ k < w'.heap.size) kv (pn.kids.map Pn.s79) := by
  obtain ⟨h1, h2, ⟨x, A, c, hx, _⟩ | ⟨n, kv, hn, h3⟩⟩ := h
  · simp at hx
  · obtain rfl : pn = n := by simpa using hn
    exact ⟨h1, h2, kv, h3⟩
theorem PlainSays.err {g : Nat} {S P : Int} {KV tv sv : Value} {x : Int} {lv md : Nat} {w w' : World} {e : Ending} (h : PlainSays g S P KV tv sv (.error x, lv, md) w e w') :
    w.grownBy w' (some g) ∧ w'.heap[g]? = some (.cells (bcells S P KV tv sv lv md) 91 (0, 0)) ∧ x ≠ 0 ∧ ∃ A c, e = .returned (.tuple #[zeroV (.slice A 0 c), .int .i64 x]) := by
  obtain ⟨h1, h2, ⟨y, A, c, hy, h0, h3⟩ | ⟨n, kv, hn, h3⟩⟩ := h
  · obtain rfl : x = y := by simpa using hy
    exact ⟨h1, h2, h0, A, c, h3⟩
  · simp at hn

end Go.Proofs.Ytcjpmgfobnaoeaa
