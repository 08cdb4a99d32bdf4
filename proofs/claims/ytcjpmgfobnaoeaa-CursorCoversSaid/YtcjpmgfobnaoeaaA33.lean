/- nodes.all: it gives the visits of a tree. -/
import Derived.Test.YtcjpmgfobnaoeaaA31
import Derived.Test.YtcjpmgfobnaoeaaA32
import Derived.Test.YtcjpmgfobnaoeaaA34
import Derived.Sort.CutIn
namespace Go.Proofs.Ytcjpmgfobnaoeaa
open Go.RowKit Go.Shelf
attribute [local go_sem] Oper.semAt_some

/-- The mark of a loop that has been gone through. -/
def mk (D : Nat) : Deferred := { target := .collected D, args := #[] }

theorem leaves_marks {F : Fence} {n : Nat} {P : Program} {fn : Func} {tmps : Array Value} {R : Ending → World → Prop} {T : List TypeId} {n₀ m : Nat} : ∀ (ds : List Nat) (W : World), ds.Nodup →
    (∀ D ∈ ds, m ≤ D ∧ n₀ ≤ D ∧ W.heap[D]? = some (.deferred (some []))) → (∀ W', AT T n₀ m W W' → LeavesIn F n P fn tmps R [] .returning W') → LeavesInM F n P fn tmps R (ds.map mk) .returning W
  | [], W, _, _, h => h W (AT.refl _ _ _ _)
  | D :: ds, W, hn, hd, h => by
    obtain ⟨h1, h2, h3⟩ := hd D (by simp)
    refine ⟨by simp, .inl ⟨D, _, rfl, run_takeDeferred h3, ?_⟩⟩
    have hat : AT T n₀ m W (W.putObj D (.deferred none)) := AT.putObj _ h3 rfl h1 h2
    have hnd := List.nodup_cons.1 hn
    refine leaves_marks ds _ hnd.2 (fun D' hD' => ?_) (fun W' hW' => h W' (hat.trans hW'))
    obtain ⟨k1, k2, k3⟩ := hd D' (by simp [hD'])
    exact ⟨k1, k2, (World.putObj_heap_other (fun e => hnd.1 (by rw [← e]; exact hD'))).trans k3⟩

theorem Nd.In.kidsAt {w : World} {n : Nd} (h : n.In w) : KidsAt w.heap.size w n.ks n.kids := by
  have hr := h.head.2.1
  rcases hr.2 with ⟨h1, h2⟩ | ⟨g, cap, cur, h1, _, hg, _, _, _, h6⟩
  · exact ⟨⟨none, 0, by rw [h1, h2]⟩, fun i hi => by omega⟩
  · refine ⟨⟨_, _, h1⟩, fun i hi => ⟨g, cap, h1, (Array.getElem?_eq_some_iff.1 hg).1, ?_⟩⟩
    refine cell_of_heap hg ?_
    have e : (n.kids.map Nd.ptr)[i]? = some (n.kids[i]).ptr := by rw [List.getElem?_map, List.getElem?_eq_getElem hi]; rfl
    rw [← h6, List.getElem?_take] at e
    split at e
    · simpa using e
    · simp at e

/-- The cells of a visit; of several. -/
def vcells (v : Vs) : List Value := [v.1.ptr, .int .i64 v.2.1, .int .i64 v.2.2]
def visV (v : Vs) : Array Value := #[.agg #[v.1.ptr, .int .i64 v.2.1, .int .i64 v.2.2]]

theorem vcells_len (l : List Vs) : (l.flatMap vcells).length = l.length * 3 := by
  induction l with
  | nil => rfl
  | cons v l ih => rw [List.flatMap_cons, List.length_append, ih]; simp [vcells]; omega

/-- The last one of a row of visits. -/
theorem row_last {wr : World} {m : Nat} {tv : Value} {v : Vs} {rest : List Vs} (h : wr.ownsRow m 120 3 tv (rest.length + 1) ((v :: rest).reverse.flatMap vcells)) :
    ∃ g c, tv = .slice (some ⟨g, 0, none⟩) (rest.length + 1) c ∧ m ≤ g ∧ g < wr.heap.size ∧ rest.length + 1 ≤ c ∧ (∃ cur, wr.heap[g]? = some (.cells cur 120 (0, 0))) ∧
      (wr.cell? ⟨g, rest.length * 3, none⟩ = some v.1.ptr ∧ wr.cell? ⟨g, rest.length * 3 + 1, none⟩ = some (.int .i64 v.2.1) ∧ wr.cell? ⟨g, rest.length * 3 + 2, none⟩ = some (.int .i64 v.2.2)) ∧
      wr.ownsRow m 120 3 (.slice (some ⟨g, 0, none⟩) rest.length c) rest.length (rest.reverse.flatMap vcells) := by
  rcases h.2 with ⟨_, h0⟩ | ⟨g, c, cur, h1, h2, h3, h4, h5, h6, h7⟩
  · omega
  · have hl : (rest.reverse.flatMap vcells).length = rest.length * 3 := by rw [vcells_len, List.length_reverse]
    rw [List.reverse_cons, List.flatMap_append] at h7
    have hc : ∀ j u, (vcells v)[j]? = some u → wr.cell? ⟨g, rest.length * 3 + j, none⟩ = some u := fun j u hu => by
      refine cell_of_heap h3 ?_
      have e : (cur.toList.take ((rest.length + 1) * 3))[rest.length * 3 + j]? = some u := by
        rw [h7, List.getElem?_append_right (by omega), hl]
        simpa using hu
      rw [List.getElem?_take] at e
      split at e
      · simpa using e
      · simp at e
    refine ⟨g, c, h1, h2, (Array.getElem?_eq_some_iff.1 h3).1, h4, ⟨cur, h3⟩, ⟨hc 0 _ rfl, hc 1 _ rfl, hc 2 _ rfl⟩, hl, .inr ⟨g, c, cur, rfl, h2, h3, by omega, h5, h6, ?_⟩⟩
    have e := congrArg (List.take (rest.length * 3)) h7
    rw [List.take_take, Nat.min_eq_left (by omega), List.take_left' hl] at e
    exact e

/-- What stands between two rounds of the loop over what is still to do. -/
structure L85 (w₀ : World) (m bt : Nat) (J : List Vs → World → Prop) (xs st pre : List Vs) (ds : List Nat) (tv : Value) (g : Nat) (wr : World) : Prop where
  xs : xs = pre ++ st.flatMap preV
  j : J pre wr
  box : wr.heap[bt]? = some (.cells #[tv] 136 (0, 0))
  row : wr.ownsRow m 120 3 tv st.length (st.reverse.flatMap vcells)
  ok : ∀ v ∈ st, v.1.In w₀ ∧ v.1.WF ∧ 0 ≤ v.2.1 ∧ v.2.1 + v.1.bt ≤ 65536 ∧ 0 ≤ v.2.2 ∧ v.2.2 + v.1.ht ≤ 2000
  below : Below w₀.heap.size w₀ wr
  nd : ds.Nodup
  ds : ∀ D ∈ ds, m ≤ D ∧ wr.heap[D]? = some (.deferred (some []))
  g : (st.flatMap preV).length = g
  sz : m ≤ wr.heap.size

/-- The frame of that loop. -/
def F85 (t0 t1 t3 t8 t9 t10 t11 t12 t13 u4 u5 u14 u15 u16 u17 u18 u19 u20 u21 u22 u23 u24 u25 u26 u27 u28 u29 u30 u31 u32 u33 u34 u35 u36 u37 u38 u39 u40 u41 u42 u43 u44 u45 u46 : Value) : Array Value := #[t0, t1, undef, t3, u4, u5, undef, undef, t8, t9, t10, t11, t12, t13, u14, u15, u16, u17, u18, u19, u20, u21, u22, u23, u24, u25, u26, u27, u28, u29, u30, u31, u32, u33, u34, u35, u36, u37, u38, u39, u40, u41, u42, u43, u44, u45, u46, undef, undef, undef, undef, undef, undef, undef, undef, undef, undef, undef, undef, undef, undef, undef, undef, undef, undef]

theorem mem_preV (v : Vs) : v ∈ preV v := by rw [preV_eq]; simp
theorem len_preV (l : List Vs) : l.length ≤ (l.flatMap preV).length := by
  induction l with
  | nil => simp
  | cons v l ih => rw [List.flatMap_cons, List.length_append, preV_eq, List.length_cons, List.length_cons]; omega
theorem row_any {w : World} {b e sz n : Nat} {v : Value} {xs : List Value} (h : w.ownsRow b e sz v n xs) : ∃ A c, v = .slice A n c := by
  rcases h.2 with ⟨h1, h2⟩ | ⟨g, c, cur, h1, _⟩
  · exact ⟨none, 0, by rw [h1, h2]⟩
  · exact ⟨_, c, h1⟩

theorem sumBt_take_succ : ∀ {l : List Nd} {x : Nat} (h : x < l.length), sumBt (l.take (x + 1)) = sumBt (l.take x) + (l[x]).bt
  | k :: ks, 0, _ => by simp [sumBt]
  | k :: ks, x + 1, h => by
    have := sumBt_take_succ (l := ks) (x := x) (by simpa using h)
    rw [List.take_succ_cons, sumBt_cons, this, List.take_succ_cons, sumBt_cons, List.getElem_cons_succ]
    omega
theorem sumBt_take_le {l : List Nd} (h : ∀ k ∈ l, 0 ≤ k.bt) (x : Nat) : sumBt (l.take x) ≤ sumBt l := by
  have e : sumBt l = sumBt (l.take x) + sumBt (l.drop x) := by
    unfold sumBt
    rw [← List.sum_append, ← List.map_append, List.take_append_drop]
  have := (sumBt_ge (l := l.drop x) fun k hk => h k (List.mem_of_mem_drop hk)).1
  omega
theorem kidsV_drop (a d : Int) {l : List Nd} {x : Nat} (h : x < l.length) : kidsV (a + sumBt (l.take x)) d (l.drop x) = (l[x], a + sumBt (l.take x), d) :: kidsV (a + sumBt (l.take (x + 1))) d (l.drop (x + 1)) := by
  rw [drop_cons h]
  show (l[x], a + sumBt (l.take x), d) :: kidsV (a + sumBt (l.take x) + (l[x]).bt) d (l.drop (x + 1)) = _
  rw [sumBt_take_succ h, Int.add_assoc]
theorem kidsV_len (d : Int) : ∀ (l : List Nd) (a : Int), (kidsV a d l).length = l.length
  | [], a => rfl
  | k :: ks, a => by show (kidsV _ _ _).length + 1 = _; rw [kidsV_len d ks]; rfl
theorem kidsV_ok (d : Int) : ∀ (l : List Nd) (a : Int), (∀ k ∈ l, 0 ≤ k.bt) → ∀ u ∈ kidsV a d l, u.1 ∈ l ∧ a ≤ u.2.1 ∧ u.2.1 + u.1.bt ≤ a + sumBt l ∧ u.2.2 = d
  | [], a, _, u, hu => by simp [kidsV] at hu
  | k :: ks, a, hk, u, hu => by
    have h0 := hk k (by simp)
    have hs := (sumBt_ge (l := ks) fun x hx => hk x (by simp [hx])).1
    rw [sumBt_cons]
    rcases List.mem_cons.1 hu with rfl | hu
    · exact ⟨by simp, Int.le_refl _, by show a + k.bt ≤ _; omega, rfl⟩
    · obtain ⟨h1, h2, h3, h4⟩ := kidsV_ok d ks (a + k.bt) (fun x hx => hk x (by simp [hx])) u hu
      exact ⟨by simp [h1], by omega, by omega, h4⟩

theorem info120 : (Try.prog.info? 120).map (fun i => (i.zero, i.size, i.bytes)) = some (some (.agg #[.pointer none, .int .i64 0, .int .i64 0]), 3, 24) := by kernel_rfl

/-- What stands between two rounds of the loop over the kids. -/
structure I85 (w₀ W3 : World) (m bt ba vb : Nat) (T : List TypeId) (v : Vs) (rest : List Vs) (i : Nat) (y : Int) (tv : Value) (Wc : World) : Prop where
  box : Wc.heap[bt]? = some (.cells #[tv] 136 (0, 0))
  at_ : Wc.heap[ba]? = some (.cells #[.int .i64 y] 3 (0, 0))
  ay : 0 < i → y = v.2.1 + sumBt (v.1.kids.take i)
  vbx : Wc.heap[vb]? = some (.cells #[.pointer (some ⟨v.1.b, 0, none⟩), .int .i64 v.2.1, .int .i64 v.2.2] 120 (0, 0))
  row : Wc.ownsRow m 120 3 tv (kidsV (v.2.1 + sumBt (v.1.kids.take i)) (v.2.2 + 1) (v.1.kids.drop i) ++ rest).length ((kidsV (v.2.1 + sumBt (v.1.kids.take i)) (v.2.2 + 1) (v.1.kids.drop i) ++ rest).reverse.flatMap vcells)
  vbr : some vb ≠ tv.ownBlock
  rel : AT T w₀.heap.size W3.heap.size W3 Wc

theorem row_at {A B : World} {T : List TypeId} {n₀ m base e sz n : Nat} {v : Value} {xs : List Value} (h : A.ownsRow base e sz v n xs) (hat : AT T n₀ m A B) (he : e ∉ T) : B.ownsRow base e sz v n xs := by
  refine ⟨h.1, ?_⟩
  rcases h.2 with h | ⟨g, c, cur, h1, h2, h3, h4⟩
  · exact .inl h
  · exact .inr ⟨g, c, cur, h1, h2, hat.keep h3 he, h4⟩

theorem I85.abides {w₀ W3 : World} {m bt ba vb : Nat} {T : List TypeId} {v : Vs} {rest : List Vs} {i : Nat} {y : Int} {tv : Value} {A B : World} {k : Nat} (h : I85 w₀ W3 m bt ba vb T v rest i y tv A) (hat : AT [45] w₀.heap.size k A B) (hk : W3.heap.size ≤ k) (hT : 45 ∈ T) : I85 w₀ W3 m bt ba vb T v rest i y tv B :=
  ⟨hat.keep h.box (by decide), hat.keep h.at_ (by decide), h.ay, hat.keep h.vbx (by decide), row_at h.row hat (by decide), h.vbr, h.rel.join' hat hk (by intro t ht; rw [List.mem_singleton.1 ht]; exact hT)⟩

set_option maxRecDepth 100000 in
set_option maxHeartbeats 8000000 in
theorem all1_gives (root : Nd) (w₀ w : World) (bn : Nat) (hin : root.In w₀) (hwf : root.WF) (hcn : root.cnt ≤ 1000) (hw : Below w₀.heap.size w₀ w) (hb : w.heap[bn]? = some (.cells #[root.ptr] 33 (0, 0))) :
    ∀ n, GivesT n Try.prog 85 #[.pointer (some ⟨bn, 0, none⟩)] visV [33, 120, 136, 3, 45] w₀.heap.size (preN 0 0 root) w := by
  intro n l J W hW hJ hY h0
  have hb' : W.heap[bn]? = some (.cells #[root.ptr] 33 (0, 0)) := (hW.block _ (Array.getElem?_eq_some_iff.1 hb).1).trans hb
  have hB : Below w₀.heap.size w₀ W := hw.trans (hW.mono hw.size)
  have c0 : W.cell? ⟨bn, 0, none⟩ = some (.pointer (some ⟨root.b, 0, none⟩)) := cell_of_heap hb' rfl
  have hm := callsIn_wide (n := n - 1) |>.2 (made_yes root W (hin.below hB) (by have := (Nd.WF.ok root hwf).ht1; omega))
  unfold Nd.ptr at hm
  have HY := Lib.hid hY
  have HJ := Lib.hid hJ
  have HIN := Lib.hid hin
  have HWF := Lib.hid hwf
  clear hb hb' hW hY hJ hw hin hwf
  refine callsIn_of_wp_marks Try.func85 rfl trivial ?_ rfl
  simp only [Try.ntmps85, List.size_toArray, List.length_cons, List.length_nil, Nat.reduceAdd, Nat.reduceSub, Array.replicate_succ, Array.replicate_zero, List.push_toArray, List.append_toArray, List.nil_append, List.cons_append]
  gi_wp2_with (first | (refine ⟨trivial, fun h => (by simp [Fence.wide] at h), ?_⟩; gi_at_call 70; refine hm.mono ?_; rintro e w2 ⟨rfl, h2⟩; rw [h2]; clear h2))
  have hbox : ∀ W2, W2 = (W.alloc (.cells #[.pointer (some ⟨root.b, 0, none⟩), .int .i64 0, .int .i64 0] 120)).alloc (.cells #[.slice (some ⟨W.heap.size, 0, none⟩) 1 1] 136) → Below W.heap.size W W2 ∧
      W2.heap[W.heap.size]? = some (.cells #[.pointer (some ⟨root.b, 0, none⟩), .int .i64 0, .int .i64 0] 120 (0, 0)) ∧ W2.heap[W.heap.size + 1]? = some (.cells #[.slice (some ⟨W.heap.size, 0, none⟩) 1 1] 136 (0, 0)) := by
    rintro W2 rfl
    exact ⟨((Below.refl _ _).alloc (Nat.le_refl _) _).alloc (by simp) _, by rw [Below.heap_alloc _ _ _ (by simp)]; exact heap_alloc_new _ _, heap_new2 _ _ _⟩
  obtain ⟨hb2, x0, x1⟩ := hbox _ rfl
  clear hbox
  generalize (W.alloc (.cells #[.pointer (some ⟨root.b, 0, none⟩), .int .i64 0, .int .i64 0] 120)).alloc (.cells #[.slice (some ⟨W.heap.size, 0, none⟩) 1 1] 136) = W2 at *
  refine wpIn_loop_ghost_k (fun g a wr => ∃ (st pre : List Vs) (ds : List Nat) (tv u4 u5 u14 u15 u16 u17 u18 u19 u20 u21 u22 u23 u24 u25 u26 u27 u28 u29 u30 u31 u32 u33 u34 u35 u36 u37 u38 u39 u40 u41 u42 u43 u44 u45 u46 : Value), a = { tmps := F85 (.func (.yield l) #[] #[]) (.pointer (some ⟨bn, 0, none⟩)) (.pointer (some ⟨W.heap.size + 1, 0, none⟩)) (.pointer (some ⟨root.b, 0, none⟩)) (.bool true) (.bool false) (.pointer (some ⟨root.b, 0, none⟩)) (.agg #[.pointer (some ⟨root.b, 0, none⟩), .int .i64 0, .int .i64 0]) (.slice (some ⟨W.heap.size, 0, none⟩) 1 1) u4 u5 u14 u15 u16 u17 u18 u19 u20 u21 u22 u23 u24 u25 u26 u27 u28 u29 u30 u31 u32 u33 u34 u35 u36 u37 u38 u39 u40 u41 u42 u43 u44 u45 u46, defers := ds.map mk } ∧
    L85 w₀ W.heap.size (W.heap.size + 1) J (preN 0 0 root) st pre ds tv g wr) (preN 0 0 root).length ?start ?round
  case start =>
    have hsz := hB.size
    have hht := ht_le_cnt root HWF.out
    have hok := Nd.WF.ok root HWF.out
    refine ⟨[(root, 0, 0)], [], [], .slice (some ⟨W.heap.size, 0, none⟩) 1 1, _, _, _, _, _, _, _, _, _, _, _, _, _, _, _, _, _, _, _, _, _, _, _, _, _, _, _, _, _, _, _, _, _, _, _, rfl, ?_⟩
    exact ⟨by simp [preV], HJ.out _ _ _ h0 (AT.of_below hb2 hsz), x1, row_new x0 (Nat.le_refl _) rfl (by decide), by
      intro v hv
      simp only [List.mem_singleton] at hv
      subst hv
      exact ⟨HIN.out, HWF.out, Int.le_refl _, by show (0:Int) + root.bt ≤ 65536; have := hok.bt1; omega, Int.le_refl _, by show (0:Int) + root.ht ≤ 2000; omega⟩, hB.trans (hb2.mono hsz), List.nodup_nil, by simp, by simp [preV], hb2.size⟩
  case round =>
    have hB0 := hB.size
    clear h0 hB c0 hm hb2 x0 x1
    rintro g a wr ⟨st, pre, ds, tv, u4, u5, u14, u15, u16, u17, u18, u19, u20, u21, u22, u23, u24, u25, u26, u27, u28, u29, u30, u31, u32, u33, u34, u35, u36, u37, u38, u39, u40, u41, u42, u43, u44, u45, u46, rfl, hL⟩ J' K hJ' hK
    unfold F85
    have hsz := hL.sz
    have hdst := hL.ds
    have HDS := Lib.hid (And.intro hL.nd hdst)
    rcases st with _ | ⟨v, rest⟩
    · obtain ⟨A, c, hv⟩ := row_any hL.row
      have hbx := hL.box
      rw [hv] at hbx
      have b0 : wr.cell? ⟨W.heap.size + 1, 0, none⟩ = some (.slice A 0 c) := cell_of_heap hbx rfl
      have HXJ := Lib.hid (show J (preN 0 0 root) wr by
        have h := hL.xs
        rw [List.flatMap_nil, List.append_nil] at h
        rw [h]
        exact hL.j)
      have hn0 := hB0
      clear hL hbx hv hdst
      gi_wp2_with fail
      exact leaves_marks (T := [33, 120, 136, 3, 45]) (n₀ := w₀.heap.size) (m := W.heap.size) ds wr HDS.out.1 (fun D hD => ⟨(HDS.out.2 D hD).1, Nat.le_trans hB0 (HDS.out.2 D hD).1, (HDS.out.2 D hD).2⟩)
        (fun W' hat => ⟨_, results_none rfl _ _ _, ⟨_, rfl⟩, HJ.out _ _ _ HXJ.out hat⟩)
    · obtain ⟨g3, c, hv, hg1, hg2, hc1, ⟨cur, hg3⟩, ⟨y0, y1, y2⟩, hrow⟩ := row_last hL.row
      have hbx := hL.box
      rw [hv] at hbx
      have b0 : wr.cell? ⟨W.heap.size + 1, 0, none⟩ = some (.slice (some ⟨g3, 0, none⟩) (rest.length + 1) c) := cell_of_heap hbx rfl
      have z0 : wr.frozen? ⟨W.heap.size + 1, 0, none⟩ = false := frozen_of_heap hbx
      have l1 : W.heap.size + 1 < wr.heap.size := (Array.getElem?_eq_some_iff.1 hbx).1
      have HL := Lib.hid hL
      have HBX := Lib.hid hbx
      have HROW := Lib.hid hrow
      have HG3 := Lib.hid hg3
      have q0 : (0 : Int) ≤ (rest.length : Int) := Int.natCast_nonneg _
      have hlen : rest.length + 1 ≤ 1000 := by
        have h1 := len_preV (v :: rest)
        have h2 := congrArg List.length hL.xs
        rw [List.length_append, preN_len] at h2
        simp only [List.length_cons] at h1
        omega
      have q1 : IntKind.i64.wrap ((rest.length : Int) + 1 - 1) = (rest.length : Int) := by rw [IntKind.wrap_i64]; omega
      have q2 : (0 : Int) < (rest.length : Int) + 1 := by omega
      have q3 : (rest.length : Int) < (rest.length : Int) + 1 := by omega
      unfold Nd.ptr at y0
      clear hL hbx hrow hg3 hv hdst
      gi_upto_region 5 with fail
      obtain ⟨Wy, hWy⟩ : ∃ Wy, (wr.setCell ⟨W.heap.size + 1, 0, none⟩ (.slice (some ⟨g3, 0, none⟩) rest.length c)).alloc (.cells #[.pointer (some ⟨v.1.b, 0, none⟩), .int .i64 v.2.1, .int .i64 v.2.2] 120) = Wy := ⟨_, rfl⟩
      have hsz1 : (wr.setCell ⟨W.heap.size + 1, 0, none⟩ (.slice (some ⟨g3, 0, none⟩) rest.length c)).heap.size = wr.heap.size := by simp
      have haty : AT [33, 120, 136, 3, 45] w₀.heap.size wr.heap.size wr Wy := by
        rw [← hWy]
        exact ((AT.refl _ _ _ wr).setCell (p := ⟨W.heap.size + 1, 0, none⟩) (by show _ ≤ W.heap.size + 1; omega) HBX.out (by simp) _).trans (AT.of_below (below_alloc _ _) (by rw [hsz1]; omega))
      have hvb : Wy.heap[wr.heap.size]? = some (.cells #[.pointer (some ⟨v.1.b, 0, none⟩), .int .i64 v.2.1, .int .i64 v.2.2] 120 (0, 0)) := by
        have h := heap_alloc_new (wr.setCell ⟨W.heap.size + 1, 0, none⟩ (.slice (some ⟨g3, 0, none⟩) rest.length c)) (.cells #[.pointer (some ⟨v.1.b, 0, none⟩), .int .i64 v.2.1, .int .i64 v.2.2] 120)
        rw [hsz1, hWy] at h
        exact h
      have hbt : Wy.heap[W.heap.size + 1]? = some (.cells #[.slice (some ⟨g3, 0, none⟩) rest.length c] 136 (0, 0)) := by
        rw [← hWy, Below.heap_alloc _ _ _ (by rw [hsz1]; exact l1)]
        exact setCell_heap (i := 0) HBX.out _
      have hne : g3 ≠ W.heap.size + 1 := by
        intro e
        obtain h1 := HG3.out
        rw [e, HBX.out] at h1
        simp at h1
      have hg3y : Wy.heap[g3]? = wr.heap[g3]? := by
        rw [← hWy, Below.heap_alloc _ _ _ (by rw [hsz1]; exact hg2)]
        exact Below.heap_setCell _ _ _ _ hne
      have hrowy := ownsRow_of_block HROW.out (w' := Wy) (fun k hk => by
        have hk' : g3 = k := by simpa [Value.ownBlock] using hk
        subst hk'
        exact hg3y)
      have hjy : J pre Wy := HJ.out _ _ _ HL.out.j (haty.mono' hsz)
      have hmy : ∀ D ∈ ds, Wy.heap[D]? = some (.deferred (some [])) := fun D hD => haty.same _ _ (HDS.out.2 D hD).2 (InT.not_of rfl) (.inr (Array.getElem?_eq_some_iff.1 (HDS.out.2 D hD).2).1)
      have hby := HL.out.below.trans haty.below
      have hszy : Wy.heap.size = wr.heap.size + 1 := by rw [← hWy]; simp
      rw [hWy]
      clear hWy hsz1 y0 y1 y2 b0 z0
      have hxs := HL.out.xs
      rw [List.flatMap_cons, preV_eq, List.cons_append] at hxs
      obtain ⟨fn, tmps, assign, body, hy, hR⟩ := HY.out pre v _ Wy hxs hjy (n - 1)
      obtain ⟨hvin, hvwf, hv0, hv1, hv2, hv3⟩ := HL.out.ok v (by simp)
      have HR := Lib.hid hR
      have HVB := Lib.hid hvb
      have HBT := Lib.hid hbt
      have HROWY := Lib.hid hrowy
      have HMY := Lib.hid hmy
      have d0 : Wy.cell? ⟨wr.heap.size, 0, none⟩ = some (.pointer (some ⟨v.1.b, 0, none⟩)) := cell_of_heap hvb rfl
      have d1 : Wy.cell? ⟨wr.heap.size, 1, none⟩ = some (.int .i64 v.2.1) := cell_of_heap hvb rfl
      have d2 : Wy.cell? ⟨wr.heap.size, 2, none⟩ = some (.int .i64 v.2.2) := cell_of_heap hvb rfl
      have HXS := Lib.hid hxs
      have HVI := Lib.hid hvin
      have HVW := Lib.hid hvwf
      unfold visV Nd.ptr at hy
      clear hR hvb hbt hrowy hmy hjy hxs haty hvin hvwf HG3 HROW HBX hne hg3y
      gi_upto_region 6 with fail
      refine ⟨fun h => by simp [Fence.wide] at h, HR.out.mono ?_⟩
      rintro e W3 ⟨rfl, hJ3, hk3⟩
      clear hy HR d0 d1 d2
      have hvb3 := hk3.keep HVB.out (by simp)
      have hbt3 := hk3.keep HBT.out (by simp)
      have hb3 := hby.trans hk3.below
      have c0 : W3.cell? ⟨wr.heap.size, 0, none⟩ = some (.pointer (some ⟨v.1.b, 0, none⟩)) := cell_of_heap hvb3 rfl
      have c1 : W3.cell? ⟨wr.heap.size, 1, none⟩ = some (.int .i64 v.2.1) := cell_of_heap hvb3 rfl
      have cn : W3.cell? ⟨v.1.b, 1, none⟩ = some (.int .i64 v.1.bt) := (HVI.out.below hb3).cells.c1
      have hw1 : IntKind.i64.wrap (v.2.1 + v.1.bt) = v.2.1 + v.1.bt := by rw [IntKind.wrap_i64]; have := (Nd.WF.ok _ HVW.out).bt0; omega
      have hm : Try.prog.follows .mixedOrders = true := by kernel_rfl
      gi_upto_region 6 with fail
      refine wpIn_region_free free_wide (S := fun W => W.cell? ⟨wr.heap.size, 0, none⟩ = some (.pointer (some ⟨v.1.b, 0, none⟩)) ∧ W.cell? ⟨wr.heap.size, 1, none⟩ = some (.int .i64 v.2.1) ∧ W.cell? ⟨v.1.b, 1, none⟩ = some (.int .i64 v.1.bt)) hm (by rfl) ⟨c0, c1, cn⟩ 11 rfl (fun hH => ?_)
      refine AnyL.take (i := 0) (v := ?_) rfl (by kernel_rfl) (by kernel_rfl) (by kernel_rfl) (fun _ _ _ h => h) (Or.inl ⟨by rfl, ?_⟩) hH ?_
      rotate_left
      · (intro w hSw; (try dsimp only at hSw); go_simp; (try with_reducible rfl))
      (try simp only [List.getElem_toArray, List.getElem_cons_succ, List.getElem_cons_zero, Act.put, List.setIfInBounds_toArray, List.set_cons_zero, List.set_cons_succ])
      refine AnyL.take (i := 1) (v := ?_) rfl (by kernel_rfl) (by kernel_rfl) (by kernel_rfl) (fun _ _ _ h => h) (Or.inl ⟨by rfl, ?_⟩) hH ?_
      rotate_left
      · (intro w hSw; (try dsimp only at hSw); go_simp; (try with_reducible rfl))
      (try simp only [List.getElem_toArray, List.getElem_cons_succ, List.getElem_cons_zero, Act.put, List.setIfInBounds_toArray, List.set_cons_zero, List.set_cons_succ])
      refine AnyL.take (i := 2) (v := ?_) rfl (by kernel_rfl) (by kernel_rfl) (by kernel_rfl) (fun _ _ _ h => h) (Or.inl ⟨by rfl, ?_⟩) hH ?_
      rotate_left
      · (intro w hSw; (try dsimp only at hSw); go_simp; (try with_reducible rfl))
      (try simp only [List.getElem_toArray, List.getElem_cons_succ, List.getElem_cons_zero, Act.put, List.setIfInBounds_toArray, List.set_cons_zero, List.set_cons_succ])
      refine AnyL.take (i := 3) (v := ?_) rfl (by kernel_rfl) (by kernel_rfl) (by kernel_rfl) (fun _ _ _ h => h) (Or.inl ⟨by rfl, ?_⟩) hH ?_
      rotate_left
      · (intro w hSw; (try dsimp only at hSw); go_simp; (try with_reducible rfl))
      (try simp only [List.getElem_toArray, List.getElem_cons_succ, List.getElem_cons_zero, Act.put, List.setIfInBounds_toArray, List.set_cons_zero, List.set_cons_succ])
      refine AnyL.take (i := 4) (v := ?_) rfl (by kernel_rfl) (by kernel_rfl) (by kernel_rfl) (fun _ _ _ h => h) (Or.inl ⟨by rfl, ?_⟩) hH ?_
      rotate_left
      · (intro w hSw; (try dsimp only at hSw); go_simp; (try with_reducible rfl))
      (try simp only [List.getElem_toArray, List.getElem_cons_succ, List.getElem_cons_zero, Act.put, List.setIfInBounds_toArray, List.set_cons_zero, List.set_cons_succ])
      refine AnyL.take (i := 5) (v := ?_) rfl (by kernel_rfl) (by kernel_rfl) (by kernel_rfl) (fun _ _ _ h => h) (Or.inl ⟨by rfl, ?_⟩) hH ?_
      rotate_left
      · (intro w hSw; (try dsimp only at hSw); go_simp; (try with_reducible rfl))
      (try simp only [List.getElem_toArray, List.getElem_cons_succ, List.getElem_cons_zero, Act.put, List.setIfInBounds_toArray, List.set_cons_zero, List.set_cons_succ])
      refine AnyL.take (i := 6) (v := ?_) rfl (by kernel_rfl) (by kernel_rfl) (by kernel_rfl) (fun _ _ _ h => h) (Or.inl ⟨by rfl, ?_⟩) hH ?_
      rotate_left
      · (intro w hSw; (try dsimp only at hSw); go_simp; (try with_reducible rfl))
      (try simp only [List.getElem_toArray, List.getElem_cons_succ, List.getElem_cons_zero, Act.put, List.setIfInBounds_toArray, List.set_cons_zero, List.set_cons_succ])
      refine AnyL.take (i := 7) (v := ?_) rfl (by kernel_rfl) (by kernel_rfl) (by kernel_rfl) (fun _ _ _ h => h) (Or.inl ⟨by rfl, ?_⟩) hH ?_
      rotate_left
      · (intro w hSw; (try dsimp only at hSw); go_simp; (try with_reducible rfl))
      (try simp only [List.getElem_toArray, List.getElem_cons_succ, List.getElem_cons_zero, Act.put, List.setIfInBounds_toArray, List.set_cons_zero, List.set_cons_succ])
      refine AnyL.take (i := 8) (v := ?_) rfl (by kernel_rfl) (by kernel_rfl) (by kernel_rfl) (fun _ _ _ h => h) (Or.inl ⟨by rfl, ?_⟩) hH ?_
      rotate_left
      · (intro w hSw; (try dsimp only at hSw); go_simp; (try with_reducible rfl))
      (try simp only [List.getElem_toArray, List.getElem_cons_succ, List.getElem_cons_zero, Act.put, List.setIfInBounds_toArray, List.set_cons_zero, List.set_cons_succ])
      refine AnyL.step (i := 9) (by kernel_rfl) rfl (fun K hK => ?_)
      (try simp only [List.getElem_toArray, List.getElem_cons_succ, List.getElem_cons_zero])
      go_simp
      refine hK.out _ _ (.inr ⟨Lib.cell?_alloc_some _ c0, Lib.cell?_alloc_some _ c1, Lib.cell?_alloc_some _ cn⟩) ?_
      clear hK K
      (try simp only [List.getElem_toArray, List.getElem_cons_succ, List.getElem_cons_zero, Act.put, List.setIfInBounds_toArray, List.set_cons_zero, List.set_cons_succ])
      refine AnyL.step (i := 10) (by kernel_rfl) rfl (fun K hK => ?_)
      (try simp only [List.getElem_toArray, List.getElem_cons_succ, List.getElem_cons_zero])
      go_simp
      refine hK.out _ _ (.inl (by kernel_rfl)) ?_
      clear hK K
      (try simp only [List.getElem_toArray, List.getElem_cons_succ, List.getElem_cons_zero, Act.put, List.setIfInBounds_toArray, List.set_cons_zero, List.set_cons_succ])
      refine AnyL.done (by kernel_rfl) ?_ _
      dsimp only [OnNormal]
      obtain ⟨W4, hW4⟩ : ∃ W4, (W3.alloc (.cells #[.int .i64 (v.2.1 + v.1.bt)] 3)).drew = W4 := ⟨_, rfl⟩
      have hb34 : Below W3.heap.size W3 W4 := by rw [← hW4]; exact (below_alloc _ _).drew
      have hat4 : W4.heap[W3.heap.size]? = some (.cells #[.int .i64 (v.2.1 + v.1.bt)] 3 (0, 0)) := by
        rw [← hW4]
        exact heap_alloc_new W3 (.cells #[.int .i64 (v.2.1 + v.1.bt)] 3)
      rw [hW4]
      clear hW4 c0 c1 cn hH
      have hb4 := hb3.trans (hb34.mono hb3.size)
      have hvb4 := (hb34.block _ (Array.getElem?_eq_some_iff.1 hvb3).1).trans hvb3
      obtain ⟨A, ck, hks⟩ := (HVI.out.kidsAt).val
      have c0 : W4.cell? ⟨wr.heap.size, 0, none⟩ = some (.pointer (some ⟨v.1.b, 0, none⟩)) := cell_of_heap hvb4 rfl
      have cn : W4.cell? ⟨v.1.b, 10, none⟩ = some (.slice A v.1.kids.length ck) := by rw [← hks]; exact (HVI.out.below hb4).cells.c10
      have hbk := callsIn_wide (n := n - 1) |>.2 (back_call A v.1.kids.length ck W4)
      gi_wp2_with (first | (refine ⟨trivial, fun h => (by simp [Fence.wide] at h), ?_⟩; gi_at_call 86; refine hbk.mono ?_; rintro e w5 ⟨rfl, h5⟩; rw [h5]; clear h5 hbk))
      have hkid := HVI.out.kidsAt
      obtain ⟨W5, hW5⟩ : ∃ W5, W4.alloc (.cells #[.slice A v.1.kids.length ck] 45) = W5 := ⟨_, rfl⟩
      have hb45 : Below W4.heap.size W4 W5 := by rw [← hW5]; exact below_alloc _ _
      have hbb5 : W5.heap[W4.heap.size]? = some (.cells #[.slice A v.1.kids.length ck] 45 (0, 0)) := by rw [← hW5]; exact heap_alloc_new _ _
      have hsz5 : W5.heap.size = W4.heap.size + 1 := by rw [← hW5]; simp
      rw [hW5]
      clear hW5 c0 cn hvb4
      have hb35 : Below W3.heap.size W3 W5 := hb34.trans (hb45.mono hb34.size)
      have hb5 := hb3.trans (hb35.mono hb3.size)
      have hvok := Nd.WF.ok v.1 HVW.out
      have hkl : v.1.kids.length ≤ 262144 := hvok.klen
      have hsz34 := hb34.size
      have hszy3 := hk3.below.size
      have hkidsat : KidsAt w₀.heap.size W5 (.slice A v.1.kids.length ck) v.1.kids := by
        rw [← hks]
        exact ⟨hkid.val, fun i hi => by
          obtain ⟨g, c, e1, e2, e3⟩ := hkid.get i hi
          exact ⟨g, c, e1, e2, (hb5.cell (p := ⟨g, i, none⟩) e2).trans e3⟩⟩
      have hrow3 : W3.ownsRow W.heap.size 120 3 (.slice (some ⟨g3, 0, none⟩) rest.length c) rest.length (rest.reverse.flatMap vcells) := by
        obtain ⟨cur, hc⟩ : ∃ cur, Wy.heap[g3]? = some (.cells cur 120 (0, 0)) := by
          rcases HROWY.out.2 with ⟨h, _⟩ | ⟨g, c', cur, h, _, h3, _⟩
          · cases h
          · cases h; exact ⟨cur, h3⟩
        exact ownsRow_of_block HROWY.out (w' := W3) (fun k hk => by
          have hk' : g3 = k := by simpa [Value.ownBlock] using hk
          subst hk'
          rw [hc]
          exact hk3.keep hc (by simp))
      have hrow5 := ownsRow_of_block hrow3 (w' := W5) (fun k hk => hb35.block k (hrow3.lt k hk).2)
      have hi0 : I85 w₀ W3 W.heap.size (W.heap.size + 1) W3.heap.size wr.heap.size [33, 120, 136, 3, 45] v rest v.1.kids.length (v.2.1 + v.1.bt) (.slice (some ⟨g3, 0, none⟩) rest.length c) W5 := by
        refine ⟨(hb35.block _ (Array.getElem?_eq_some_iff.1 hbt3).1).trans hbt3, (hb45.block _ (Array.getElem?_eq_some_iff.1 hat4).1).trans hat4, ?_, (hb35.block _ (Array.getElem?_eq_some_iff.1 hvb3).1).trans hvb3, ?_, ?_, AT.of_below hb35 (Nat.le_trans (by omega) hszy3)⟩
        · intro h0
          rw [List.take_length]
          rcases HVW.out.cases with ⟨_, h2, _⟩ | ⟨_, _, _, h4, _⟩
          · rw [h2] at h0; simp at h0
          · rw [h4]
        · rw [List.drop_length]
          exact hrow5
        · intro e
          have e' : wr.heap.size = g3 := by simpa [Value.ownBlock] using e
          omega
      refine wpIn_rangeT (gf := 89) (lb := #[.pointer (some ⟨W4.heap.size, 0, none⟩)]) rfl (enters_of Try.func89 (by kernel_rfl) rfl) (back1_gives v.1.kids (.slice A v.1.kids.length ck) W4.heap.size w₀.heap.size W5 (by omega) hbb5 hkidsat (by omega)) (Below.refl _ _) (by omega) (fun _ => rfl)
        (fun p Wc => ∃ i y tv, p.length + i = v.1.kids.length ∧ I85 w₀ W3 W.heap.size (W.heap.size + 1) W3.heap.size wr.heap.size [33, 120, 136, 3, 45] v rest i y tv Wc)
        (fun p X Y ⟨i, y, tv, h1, h2⟩ hat => ⟨i, y, tv, h1, h2.abides hat (by omega) (by simp)⟩)
        ⟨v.1.kids.length, _, _, by simp, hi0⟩
        (fun x a' _ => a' = { tmps := List.toArray (((.func (.yield l) #[] #[]) : Value) :: ((.pointer (some ⟨bn, 0, none⟩)) : Value) :: undef :: ((.pointer (some ⟨W.heap.size + 1, 0, none⟩)) : Value) :: ((.pointer (some ⟨wr.heap.size, 0, none⟩)) : Value) :: ((.pointer (some ⟨W3.heap.size, 0, none⟩)) : Value) :: undef :: kp v.1.kids x :: ((.pointer (some ⟨root.b, 0, none⟩)) : Value) :: ((.bool true) : Value) :: ((.bool false) : Value) :: ((.pointer (some ⟨root.b, 0, none⟩)) : Value) :: ((.agg #[.pointer (some ⟨root.b, 0, none⟩), .int .i64 0, .int .i64 0]) : Value) :: ((.slice (some ⟨W.heap.size, 0, none⟩) 1 1) : Value) :: ((.slice (some ⟨g3, 0, none⟩) (rest.length + 1) c) : Value) :: ((.int .i64 ((rest.length : Int) + 1)) : Value) :: ((.bool true) : Value) :: ((.slice (some ⟨g3, 0, none⟩) (rest.length + 1) c) : Value) :: ((.slice (some ⟨g3, 0, none⟩) (rest.length + 1) c) : Value) :: ((.int .i64 ((rest.length : Int) + 1)) : Value) :: ((.int .i64 (rest.length : Int)) : Value) :: ((.pointer (some ⟨g3, rest.length * 3, none⟩)) : Value) :: ((.agg #[.pointer (some ⟨v.1.b, 0, none⟩), .int .i64 v.2.1, .int .i64 v.2.2]) : Value) :: ((.slice (some ⟨g3, 0, none⟩) (rest.length + 1) c) : Value) :: ((.slice (some ⟨g3, 0, none⟩) (rest.length + 1) c) : Value) :: ((.int .i64 ((rest.length : Int) + 1)) : Value) :: ((.int .i64 (rest.length : Int)) : Value) :: ((.slice (some ⟨g3, 0, none⟩) rest.length c) : Value) :: ((.func (.yield l) #[] #[]) : Value) :: ((.agg #[.pointer (some ⟨v.1.b, 0, none⟩), .int .i64 v.2.1, .int .i64 v.2.2]) : Value) :: ((.bool true) : Value) :: ((.bool false) : Value) :: ((.pointer (some ⟨wr.heap.size, 1, none⟩)) : Value) :: ((.int .i64 v.2.1) : Value) :: ((.pointer (some ⟨wr.heap.size, 0, none⟩)) : Value) :: ((.pointer (some ⟨v.1.b, 0, none⟩)) : Value) :: ((.pointer (some ⟨v.1.b, 0, none⟩)) : Value) :: ((.pointer (some ⟨v.1.b, 0, none⟩)) : Value) :: ((.pointer (some ⟨v.1.b, 1, none⟩)) : Value) :: ((.int .i64 v.1.bt) : Value) :: ((.int .i64 (v.2.1 + v.1.bt)) : Value) :: ((.pointer (some ⟨wr.heap.size, 0, none⟩)) : Value) :: ((.pointer (some ⟨v.1.b, 0, none⟩)) : Value) :: ((.pointer (some ⟨v.1.b, 0, none⟩)) : Value) :: ((.pointer (some ⟨v.1.b, 10, none⟩)) : Value) :: ((.slice A v.1.kids.length ck) : Value) :: ((.func (.func 89) #[] #[.pointer (some ⟨W4.heap.size, 0, none⟩)]) : Value) :: ((.int .i64 (x : Int)) : Value) :: kp v.1.kids x :: undef :: undef :: undef :: undef :: undef :: undef :: undef :: undef :: undef :: undef :: undef :: undef :: undef :: undef :: undef :: undef :: []), defers := [] })
        (fun _ _ _ _ h _ => h) ?assign ?body ?done
      case assign =>
        intro l2 m2 p x W6 hI _ _
        gi_wp2_with fail
        exact ⟨by first | rfl | trivial, KT.refl _ _ _, hI⟩
      case body =>
        rintro l2 m2 p x rs a₁ W6 hxs ⟨i, y, tv, hpi, hI⟩ rfl
        obtain ⟨_, hpx⟩ := down_at hxs
        obtain rfl : i = x + 1 := by omega
        have hxl : x < v.1.kids.length := by omega
        have hkm : v.1.kids[x] ∈ v.1.kids := List.getElem_mem hxl
        have hkin := HVI.out.head.2.2 _ hkm
        have hkwf := HVW.out.kid _ hkm
        have hkok := Nd.WF.ok _ hkwf
        have hks1 := hvok.kbt _ hkm
        have hb6 := hb3.trans hI.rel.below
        have hyv := hI.ay (by omega)
        rw [sumBt_take_succ hxl] at hyv
        have hst0 : 0 ≤ sumBt (v.1.kids.take x) := (sumBt_ge fun q hq => (Nd.WF.ok q (HVW.out.kid q (List.mem_of_mem_take hq))).bt0).1
        have hkd := kidsV_drop v.2.1 (v.2.2 + 1) hxl
        have hle := sumBt_take_le (l := v.1.kids) (fun q hq => (Nd.WF.ok q (HVW.out.kid q hq)).bt0) x
        have hle2 := HVW.out.sum.2
        rw [kp_at hxl]
        have hkb := (hkin.below hb6).cells.c1
        obtain ⟨kd, hkd0⟩ : ∃ kd, kd = v.1.kids[x] := ⟨_, rfl⟩
        rw [← hkd0] at hkd hkin hkwf hkok hks1 hyv hkb ⊢
        have b1 := hkok.bt0
        have b2 := hkok.bt1
        have hw2 : IntKind.i64.wrap (y - kd.bt) = v.2.1 + sumBt (v.1.kids.take x) := by rw [IntKind.wrap_i64]; omega
        have hw3 : IntKind.i64.wrap (v.2.2 + 1) = v.2.2 + 1 := by have := hvok.ht1; rw [IntKind.wrap_i64]; omega
        have e0 : W6.cell? ⟨W3.heap.size, 0, none⟩ = some (.int .i64 y) := cell_of_heap hI.at_ rfl
        have z0 : W6.frozen? ⟨W3.heap.size, 0, none⟩ = false := frozen_of_heap hI.at_
        unfold Nd.ptr
        have HI := Lib.hid hI
        have HKD := Lib.hid hkd
        have HKD0 := Lib.hid hkd0
        have HYV := Lib.hid hyv
        clear hI hkd hkd0 hyv hi0 hrow5 hrow3
        gi_wp2_with fail
        refine wpIn_region_free (free_round l2) (S := fun W => W.cell? ⟨W3.heap.size, 0, none⟩ = some (.int .i64 y) ∧ W.cell? ⟨kd.b, 1, none⟩ = some (.int .i64 kd.bt)) hm (by rfl) ⟨e0, hkb⟩ 8 rfl (fun hH => ?_)
        refine AnyL.take (i := 0) (v := ?_) rfl (by kernel_rfl) (by kernel_rfl) (by kernel_rfl) (fun _ _ _ h => h) (Or.inl ⟨by rfl, ?_⟩) hH ?_
        rotate_left
        · (intro w hSw; (try dsimp only at hSw); go_simp; (try with_reducible rfl))
        (try simp only [List.getElem_toArray, List.getElem_cons_succ, List.getElem_cons_zero, Act.put, List.setIfInBounds_toArray, List.set_cons_zero, List.set_cons_succ])
        refine AnyL.take (i := 1) (v := ?_) rfl (by kernel_rfl) (by kernel_rfl) (by kernel_rfl) (fun _ _ _ h => h) (Or.inl ⟨by rfl, ?_⟩) hH ?_
        rotate_left
        · (intro w hSw; (try dsimp only at hSw); go_simp; (try with_reducible rfl))
        (try simp only [List.getElem_toArray, List.getElem_cons_succ, List.getElem_cons_zero, Act.put, List.setIfInBounds_toArray, List.set_cons_zero, List.set_cons_succ])
        refine AnyL.take (i := 2) (v := ?_) rfl (by kernel_rfl) (by kernel_rfl) (by kernel_rfl) (fun _ _ _ h => h) (Or.inl ⟨by rfl, ?_⟩) hH ?_
        rotate_left
        · (intro w hSw; (try dsimp only at hSw); go_simp; (try with_reducible rfl))
        (try simp only [List.getElem_toArray, List.getElem_cons_succ, List.getElem_cons_zero, Act.put, List.setIfInBounds_toArray, List.set_cons_zero, List.set_cons_succ])
        refine AnyL.take (i := 3) (v := ?_) rfl (by kernel_rfl) (by kernel_rfl) (by kernel_rfl) (fun _ _ _ h => h) (Or.inl ⟨by rfl, ?_⟩) hH ?_
        rotate_left
        · (intro w hSw; (try dsimp only at hSw); go_simp; (try with_reducible rfl))
        (try simp only [List.getElem_toArray, List.getElem_cons_succ, List.getElem_cons_zero, Act.put, List.setIfInBounds_toArray, List.set_cons_zero, List.set_cons_succ])
        refine AnyL.take (i := 4) (v := ?_) rfl (by kernel_rfl) (by kernel_rfl) (by kernel_rfl) (fun _ _ _ h => h) (Or.inl ⟨by rfl, ?_⟩) hH ?_
        rotate_left
        · (intro w hSw; (try dsimp only at hSw); go_simp; (try with_reducible rfl))
        (try simp only [List.getElem_toArray, List.getElem_cons_succ, List.getElem_cons_zero, Act.put, List.setIfInBounds_toArray, List.set_cons_zero, List.set_cons_succ])
        refine AnyL.take (i := 5) (v := ?_) rfl (by kernel_rfl) (by kernel_rfl) (by kernel_rfl) (fun _ _ _ h => h) (Or.inl ⟨by rfl, ?_⟩) hH ?_
        rotate_left
        · (intro w hSw; (try dsimp only at hSw); go_simp; (try with_reducible rfl))
        (try simp only [List.getElem_toArray, List.getElem_cons_succ, List.getElem_cons_zero, Act.put, List.setIfInBounds_toArray, List.set_cons_zero, List.set_cons_succ])
        refine AnyL.take (i := 6) (v := ?_) rfl (by kernel_rfl) (by kernel_rfl) (by kernel_rfl) (fun _ _ _ h => h) (Or.inl ⟨by rfl, ?_⟩) hH ?_
        rotate_left
        · (intro w hSw; (try dsimp only at hSw); go_simp; (try with_reducible rfl))
        (try simp only [List.getElem_toArray, List.getElem_cons_succ, List.getElem_cons_zero, Act.put, List.setIfInBounds_toArray, List.set_cons_zero, List.set_cons_succ])
        refine AnyL.step (i := 7) (by kernel_rfl) rfl (fun K hK => ?_)
        (try simp only [List.getElem_toArray, List.getElem_cons_succ, List.getElem_cons_zero])
        go_simp
        refine hK.out _ _ (.inl (by kernel_rfl)) ?_
        clear hK K
        (try simp only [List.getElem_toArray, List.getElem_cons_succ, List.getElem_cons_zero, Act.put, List.setIfInBounds_toArray, List.set_cons_zero, List.set_cons_succ])
        refine AnyL.done (by kernel_rfl) ?_ _
        dsimp only [OnNormal]
        clear hH
        obtain ⟨ny, hny⟩ : ∃ ny, ny = v.2.1 + sumBt (v.1.kids.take x) := ⟨_, rfl⟩
        rw [← hny]
        obtain ⟨W7, hW7⟩ : ∃ W7, (W6.setCell ⟨W3.heap.size, 0, none⟩ (.int .i64 ny)).drew = W7 := ⟨_, rfl⟩
        have hsz7 : W7.heap.size = W6.heap.size := by rw [← hW7]; simp [World.drew]
        have hblk : ∀ k, k ≠ W3.heap.size → W7.heap[k]? = W6.heap[k]? := fun k hk => by rw [← hW7]; exact Below.heap_setCell _ _ _ _ hk
        have hat7 : W7.heap[W3.heap.size]? = some (.cells #[.int .i64 ny] 3 (0, 0)) := by rw [← hW7]; exact setCell_heap (i := 0) HI.out.at_ _
        have hn3 : w₀.heap.size ≤ W3.heap.size := hb3.size
        have hn6 : W3.heap.size ≤ W6.heap.size := HI.out.rel.below.size
        have kt7 : KT [45] w₀.heap.size W6 W7 := by
          rw [← hW7]
          exact ((KT.refl _ _ W6).setCell (p := ⟨W3.heap.size, 0, none⟩) hn3 HI.out.at_ (by decide) _).trans ⟨(Below.refl _ _).drew, fun k o hk _ => hk⟩
        have at7 : AT [33, 120, 136, 3, 45] w₀.heap.size W3.heap.size W6 W7 := by
          rw [← hW7]
          exact ((AT.refl _ _ _ W6).setCell (p := ⟨W3.heap.size, 0, none⟩) hn3 HI.out.at_ (by decide) _).trans ⟨(Below.refl _ _).drew, fun k o hk _ _ => hk⟩
        have hbox7 := (hblk (W.heap.size + 1) (by omega)).trans HI.out.box
        have hvb7 := (hblk wr.heap.size (by omega)).trans HI.out.vbx
        have hrow7 := ownsRow_of_block HI.out.row (w' := W7) (fun k hk => hblk k (fun e => own_ne HI.out.row HI.out.at_ (by decide) (by rw [hk, e])))
        have hvbr := HI.out.vbr
        rw [hW7]
        clear hW7 hblk e0 z0 hkb
        have hql : (kidsV (v.2.1 + sumBt (v.1.kids.take (x + 1))) (v.2.2 + 1) (v.1.kids.drop (x + 1)) ++ rest).length ≤ 300000 := by
          rw [List.length_append, kidsV_len, List.length_drop]; omega
        have HQ := Lib.hid (show (kidsV (v.2.1 + sumBt (v.1.kids.take x)) (v.2.2 + 1) (v.1.kids.drop x) ++ rest).length = (kidsV (v.2.1 + sumBt (v.1.kids.take (x + 1))) (v.2.2 + 1) (v.1.kids.drop (x + 1)) ++ rest).length + 1 ∧
            (kidsV (v.2.1 + sumBt (v.1.kids.take x)) (v.2.2 + 1) (v.1.kids.drop x) ++ rest).reverse.flatMap vcells = (kidsV (v.2.1 + sumBt (v.1.kids.take (x + 1))) (v.2.2 + 1) (v.1.kids.drop (x + 1)) ++ rest).reverse.flatMap vcells ++ [.pointer (some ⟨kd.b, 0, none⟩), .int .i64 ny, .int .i64 (v.2.2 + 1)] by
          rw [HKD.out, hny]
          refine ⟨rfl, ?_⟩
          rw [List.cons_append, List.reverse_cons, List.flatMap_append]
          rfl)
        generalize kidsV (v.2.1 + sumBt (v.1.kids.take (x + 1))) (v.2.2 + 1) (v.1.kids.drop (x + 1)) ++ rest = st7 at hrow7 hql HQ
        obtain ⟨A2, c2, htv⟩ := row_any hrow7
        subst htv
        have f0 : W7.cell? ⟨W.heap.size + 1, 0, none⟩ = some (.slice A2 st7.length c2) := cell_of_heap hbox7 rfl
        have f1 : W7.cell? ⟨W3.heap.size, 0, none⟩ = some (.int .i64 ny) := cell_of_heap hat7 rfl
        have f2 : W7.cell? ⟨wr.heap.size, 2, none⟩ = some (.int .i64 v.2.2) := cell_of_heap hvb7 rfl
        have hl7 : W.heap.size + 1 < W7.heap.size := by omega
        have hm7 : W.heap.size ≤ W7.heap.size := by omega
        have HSZ7 := Lib.hid hsz7
        clear hsz7
        have HBOX7 := Lib.hid hbox7
        have HAT7 := Lib.hid hat7
        have HVB7 := Lib.hid hvb7
        have HROW7 := Lib.hid hrow7
        have HVBR := Lib.hid hvbr
        have HNY := Lib.hid hny
        have HKT7 := Lib.hid kt7
        have HAT77 := Lib.hid at7
        clear hbox7 hat7 hvb7 hvbr hny kt7 at7 hrow7
        gi_wp2_with (first | (gi_at_builtin; refine wpListIn_push rfl (.tmp 56) (.tmp 63) 136 rfl 120 _ 3 24 info120 Try.underlying136 rfl (by decide) W.heap.size (.slice A2 st7.length c2) st7.length (st7.reverse.flatMap vcells) rfl HROW7.out [.pointer (some ⟨kd.b, 0, none⟩), .int .i64 ny, .int .i64 (v.2.2 + 1)] rfl rfl (by simp [Value.oneCell']) (by omega) (by omega) (by omega) ?_; intro g9 c9 W9 hown9 hgr9 hg9; have G9 := (hgr9.block (W.heap.size + 1) (by simp; omega) (own_ne HROW7.out HBOX7.out (by decide))).trans ((Below.heap_alloc _ _ _ hl7).trans HBOX7.out); have f9 := cell_of_heap (i := 0) (v := .slice A2 st7.length c2) G9 rfl; have z9 : W9.frozen? ⟨W.heap.size + 1, 0, none⟩ = false := frozen_of_heap G9; have HG9 := Lib.hid G9; have HOWN9 := Lib.hid hown9; have HGR9 := Lib.hid hgr9; have HGG9 := Lib.hid hg9; clear G9 hown9 hgr9 hg9))
        have hsz7 := HSZ7.out
        have al7 := below_alloc W7 (.cells #[.pointer (some ⟨kd.b, 0, none⟩), .int .i64 ny, .int .i64 (v.2.2 + 1)] 120)
        have hgr := HGR9.out
        have hrb := row_block (HROW7.out.alloc (.cells #[.pointer (some ⟨kd.b, 0, none⟩), .int .i64 ny, .int .i64 (v.2.2 + 1)] 120))
        have hals := al7.size
        have kt9 : KT [45] w₀.heap.size W7 W9 := (KT.of_below al7 (by omega)).grown hgr (Nat.le_trans (by omega) hals) (fun k hk => by
          obtain ⟨h1, c, h2⟩ := hrb k hk
          exact ⟨by omega, c, _, _, h2, by decide⟩)
        have at9 : AT [33, 120, 136, 3, 45] w₀.heap.size W3.heap.size W7 W9 := (AT.of_below al7 (by omega)).grown hgr (Nat.le_trans (by omega) hals) (fun k hk => by
          obtain ⟨h1, c, h2⟩ := hrb k hk
          exact ⟨by omega, c, _, _, h2, by decide⟩)
        have hlt9 : ∀ {k : Nat} {o : Obj}, W7.heap[k]? = some o → k < (W7.alloc (.cells #[.pointer (some ⟨kd.b, 0, none⟩), .int .i64 ny, .int .i64 (v.2.2 + 1)] 120)).heap.size := fun h => Nat.lt_of_lt_of_le (Array.getElem?_eq_some_iff.1 h).1 hals
        have hat9 := (hgr.block _ (hlt9 HAT7.out) (own_ne HROW7.out HAT7.out (by decide))).trans ((Below.heap_alloc _ _ _ (Array.getElem?_eq_some_iff.1 HAT7.out).1).trans HAT7.out)
        have hvb9 := (hgr.block _ (hlt9 HVB7.out) HVBR.out).trans ((Below.heap_alloc _ _ _ (Array.getElem?_eq_some_iff.1 HVB7.out).1).trans HVB7.out)
        have hvlt := (Array.getElem?_eq_some_iff.1 HVB7.out).1
        obtain ⟨q1, q2⟩ := HQ.out
        refine ⟨(HKT7.out.trans kt9).setCell (p := ⟨W.heap.size + 1, 0, none⟩) (by show _ ≤ W.heap.size + 1; omega) HG9.out (by decide) _, x, ny, .slice (some ⟨g9, 0, none⟩) (st7.length + 1) c9, by rw [List.length_append, List.length_singleton]; omega, ?_⟩
        refine ⟨setCell_heap (i := 0) HG9.out _, (Below.heap_setCell _ _ _ _ (by show W3.heap.size ≠ W.heap.size + 1; omega)).trans hat9, fun _ => HNY.out, (Below.heap_setCell _ _ _ _ (by show wr.heap.size ≠ W.heap.size + 1; omega)).trans hvb9, ?_, ?_, ?_⟩
        · rw [q1, q2]
          exact ownsRow_of_block HOWN9.out (fun k hk => Below.heap_setCell _ _ _ _ (fun e => own_ne HOWN9.out HG9.out (by decide) (by rw [hk]; exact congrArg some e.symm)))
        · intro e
          have e' : wr.heap.size = g9 := by simpa [Value.ownBlock] using e
          rcases HGG9.out with h | h
          · exact HVBR.out (by rw [h, e'])
          · omega
        · exact HI.out.rel.trans (HAT77.out.trans (at9.setCell (p := ⟨W.heap.size + 1, 0, none⟩) (by show _ ≤ W.heap.size + 1; omega) HG9.out (by decide) _))
      case done =>
        rintro D W8 hD ⟨i, y, tv, hpi, hI⟩ hDW
        rw [down_len] at hpi
        obtain rfl : i = 0 := by omega
        have hk0 : kidsV (v.2.1 + sumBt (v.1.kids.take 0)) (v.2.2 + 1) (v.1.kids.drop 0) = kidsV v.2.1 (v.2.2 + 1) v.1.kids := by
          rw [List.take_zero, List.drop_zero, sumBt_nil, Int.add_zero]
        have hrow := hI.row
        rw [hk0] at hrow
        have hn8 := hI.rel.below.size
        have hm3 : W.heap.size ≤ W3.heap.size := by omega
        show K _ _
        refine hK _ _ (Handed.intro ((kidsV v.2.1 (v.2.2 + 1) v.1.kids ++ rest).flatMap preV).length ?_ (hJ' _ _ _ ⟨kidsV v.2.1 (v.2.2 + 1) v.1.kids ++ rest, pre ++ [v], D :: ds, tv, _, _, _, _, _, _, _, _, _, _, _, _, _, _, _, _, _, _, _, _, _, _, _, _, _, _, _, _, _, _, _, _, _, _, _, rfl, ?_⟩))
        · rw [← HL.out.g, List.flatMap_cons, List.flatMap_append, preV_eq v, List.length_append, List.length_append, List.length_cons]
          omega
        · refine ⟨?_, HJ.out _ _ _ hJ3 (hI.rel.mono' hm3), hI.box, hrow, ?_, hb3.trans hI.rel.below, ?_, ?_, rfl, by omega⟩
          · rw [HXS.out, List.flatMap_append, List.append_assoc]
            rfl
          · intro u hu
            rcases List.mem_append.1 hu with hu | hu
            · obtain ⟨k1, k2, k3, k4⟩ := kidsV_ok (v.2.2 + 1) v.1.kids v.2.1 (fun q hq => (Nd.WF.ok q (HVW.out.kid q hq)).bt0) u hu
              have ks := HVW.out.sum.2
              have kh := hvok.kht _ k1
              exact ⟨HVI.out.head.2.2 _ k1, HVW.out.kid _ k1, by omega, by omega, by omega, by omega⟩
            · exact HL.out.ok u (List.mem_cons_of_mem _ hu)
          · refine List.nodup_cons.2 ⟨fun h => ?_, HDS.out.1⟩
            have := (Array.getElem?_eq_some_iff.1 (HMY.out D h)).1
            have := hb35.size
            omega
          · intro D' hD'
            rcases List.mem_cons.1 hD' with rfl | hD'
            · exact ⟨by have := hb35.size; omega, hDW⟩
            · have h3 := hk3.same _ _ (HMY.out D' hD') (.inr rfl)
              exact ⟨(HDS.out.2 D' hD').1, hI.rel.same _ _ h3 (InT.not_of rfl) (.inr (Array.getElem?_eq_some_iff.1 h3).1)⟩

end Go.Proofs.Ytcjpmgfobnaoeaa
