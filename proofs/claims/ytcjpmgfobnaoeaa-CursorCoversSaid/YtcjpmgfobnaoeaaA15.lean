/- The node that the builder makes. -/
import Derived.Test.YtcjpmgfobnaoeaaA14
namespace Go.Proofs.Ytcjpmgfobnaoeaa
open Go.RowKit

theorem ht_le_cnt : ∀ n : Nd, n.WF → n.ht ≤ n.cnt := by
  refine Nd.ind ?_
  intro n ih h
  have hm : ∀ l : List Nd, (∀ k ∈ l, k.ht ≤ (k.cnt : Int)) → maxHt l ≤ (NdsCnt l : Int) := by
    intro l
    induction l with
    | nil => intro _; simp [maxHt, NdsCnt]
    | cons x xs ih2 =>
      intro hl
      have h1 := hl x (by simp)
      have h2 := ih2 fun k hk => hl k (by simp [hk])
      simp only [maxHt, NdsCnt]
      omega
  have h1 := hm n.kids fun k hk => ih k hk (h.kid k hk)
  rw [Nd.cnt_eq]
  rcases h.cases with ⟨_, h2, _, h4, _⟩ | ⟨_, _, _, _, _, h6, _⟩ <;> omega

theorem NdsCnt_append (l m : List Nd) : NdsCnt (l ++ m) = NdsCnt l + NdsCnt m := by
  induction l with
  | nil => simp [NdsCnt]
  | cons x xs ih => simp only [List.cons_append, NdsCnt, ih]; omega

theorem len_le_cnt (l : List Tr) : l.length ≤ TrsCnt l := by
  induction l with
  | nil => simp
  | cons x xs ih => simp only [List.length_cons, TrsCnt]; have := Tr.cnt_eq x; omega

theorem row_gb {W W' : World} {B g e sz : Nat} {v : Value} {n : Nat} {xs : List Value} (h : W.ownsRow B e sz v n xs) (hg : W.grownBy W' (some g)) (hB : g < B) : W'.ownsRow B e sz v n xs :=
  ownsRow_of_block h fun k hk => hg.block k (h.lt k hk).2 (fun e => by injection e with e; have := (h.lt k hk).1; omega)

theorem nd_gb {W W' : World} {B g : Nat} {n : Nd} (h : n.In W) (hg : W.grownBy W' (some g)) (hb : ∀ k ∈ n.blocks, B ≤ k) (hB : g < B) : n.In W' :=
  h.frame fun k hk => hg.block k (h.lt k hk) (fun e => by injection e with e; have := hb k hk; omega)

/-- The builder's loop over the kids. -/
structure NodeLoop (g : Nat) (S P : Int) (KV tv sv : Value) (tks : List (Int × Int × Int)) (sts : List (Int × Int × Bool)) (w : World) (bx : Array Value) (kids : List Tr) (lv0 md0 : Nat) (i : Nat) (nsv : Value) (ns : List Nd) (lv md : Nat) (wx : World) : Prop where
  grown : w.grownBy wx (some g)
  box : wx.heap[w.heap.size]? = some (.cells bx 24 (0, 0))
  bld : wx.heap[g]? = some (.cells (bcells S P KV tv sv lv md) 91 (0, 0))
  row : wx.ownsRow w.heap.size 33 1 nsv i (ns.map Nd.ptr)
  len : ns.length = i
  inw : ∀ n ∈ ns, n.In wx
  wf : ∀ n ∈ ns, n.WF
  old : ∀ n ∈ ns, ∀ k ∈ n.blocks, w.heap.size ≤ k ∧ some k ≠ nsv.ownBlock
  cnt : NdsCnt ns + TrsCnt (kids.drop i) ≤ TrsCnt kids
  ans : afterP (ns.map Nd.plain) (bldL tks sts (kids.drop i) lv md) = bldL tks sts kids lv0 md0
  hlv : lv + TrsCnt (kids.drop i) ≤ 1000000
  hmd : md + TrsCnt (kids.drop i) + 1 ≤ 1000000

theorem NodeLoop.step {g : Nat} {S P : Int} {KV tv sv : Value} {tks : List (Int × Int × Int)} {sts : List (Int × Int × Bool)} {w : World} {bx : Array Value} {kids : List Tr} {lv0 md0 i : Nat} {nsv : Value} {ns : List Nd} {lv md lv' md' : Nat} {wx w2 w4 : World} {kd : Tr} {n : Nd} {g4 c4 : Nat}
    (h : NodeLoop g S P KV tv sv tks sts w bx kids lv0 md0 i nsv ns lv md wx) (hg : g < w.heap.size) (hd : kids.drop i = kd :: kids.drop (i + 1))
    (h1 : wx.grownBy w2 (some g)) (h2 : w2.heap[g]? = some (.cells (bcells S P KV tv sv lv' md') 91 (0, 0))) (h3 : bldT tks sts kd lv md = (.ok n.plain, lv', md'))
    (h4 : n.In w2) (h5 : n.WF) (h6 : n.cnt ≤ kd.cnt) (h7 : ∀ k ∈ n.blocks, wx.heap.size ≤ k)
    (hown : w4.ownsRow w.heap.size 33 1 (.slice (some ⟨g4, 0, none⟩) (i + 1) c4) (i + 1) (ns.map Nd.ptr ++ [n.ptr])) (hgr : Grew w.heap.size nsv w2 w4 g4) :
    NodeLoop g S P KV tv sv tks sts w bx kids lv0 md0 (i + 1) (.slice (some ⟨g4, 0, none⟩) (i + 1) c4) (ns ++ [n]) lv' md' w4 := by
  have hcnt := bldT_counts tks sts kd lv md
  rw [h3] at hcnt
  simp only [] at hcnt
  have hdc : TrsCnt (kids.drop i) = kd.cnt + TrsCnt (kids.drop (i + 1)) := by rw [hd]; rfl
  have hrow2 := row_gb h.row h1 hg
  have hs1 := h1.size
  have hs0 := h.grown.size
  have hgb : ∀ k, k < w2.heap.size → some k ≠ nsv.ownBlock → w4.heap[k]? = w2.heap[k]? := fun k hk hn => hgr.far k hk hn
  have hnl : ∀ k, k < w.heap.size → some k ≠ nsv.ownBlock := fun k hk e => by have := (h.row.lt k e.symm).1; omega
  refine ⟨?_, ?_, ?_, ?_, ?_, ?_, ?_, ?_, ?_, ?_, ?_, ?_⟩
  · have hb := hgr.below
    have hgg := gb_trans h.grown h1
    exact ⟨hb.os.trans hgg.os, hb.tape.trans hgg.tape, hb.output.trans hgg.output, by have := hb.size; omega, fun k hk hn => (hgb k (by omega) (hnl k hk)).trans (hgg.block k hk hn)⟩
  · rw [hgb _ (by have := (Array.getElem?_eq_some_iff.1 h.box).1; omega) (own_ne h.row h.box (by decide)), h1.block _ (Array.getElem?_eq_some_iff.1 h.box).1 (fun e => by injection e with e; omega)]
    exact h.box
  · rw [hgb _ (by omega) (hnl _ hg)]
    exact h2
  · rw [List.map_append]; exact hown
  · rw [List.length_append, h.len]; rfl
  · intro m hm
    rcases List.mem_append.1 hm with hm | hm
    · have hin := nd_gb (h.inw m hm) h1 (fun k hk => (h.old m hm k hk).1) hg
      exact hin.frame fun k hk => hgb k (hin.lt k hk) (h.old m hm k hk).2
    · rw [List.mem_singleton.1 hm]
      exact h4.frame fun k hk => hgb k (h4.lt k hk) (fun e => by have := (h.row.lt k e.symm).2; have := h7 k hk; omega)
  · intro m hm
    rcases List.mem_append.1 hm with hm | hm
    · exact h.wf m hm
    · rw [List.mem_singleton.1 hm]; exact h5
  · intro m hm k hk
    have hg4 : ∀ k, k < w2.heap.size → some k ≠ nsv.ownBlock → some k ≠ (Value.slice (some ⟨g4, 0, none⟩) (i + 1) c4).ownBlock := by
      intro k hk hn he
      simp only [Value.ownBlock, Option.some.injEq] at he
      subst he
      rcases hgr.at_ with h | h
      · exact hn h.symm
      · omega
    rcases List.mem_append.1 hm with hm | hm
    · have hin := nd_gb (h.inw m hm) h1 (fun k hk => (h.old m hm k hk).1) hg
      exact ⟨(h.old m hm k hk).1, hg4 k (hin.lt k hk) (h.old m hm k hk).2⟩
    · rw [List.mem_singleton.1 hm] at hk
      exact ⟨by have := h7 k hk; omega, hg4 k (h4.lt k hk) (fun e => by have := (h.row.lt k e.symm).2; have := h7 k hk; omega)⟩
  · rw [NdsCnt_append]
    have := h.cnt
    simp only [NdsCnt]
    omega
  · have := h.ans
    rw [hd, afterP_cons, h3] at this
    rw [List.map_append]
    exact this
  · have := h.hlv; omega
  · have := h.hmd; omega

theorem bldL_end {g : Nat} {S P : Int} {KV tv sv : Value} {tks : List (Int × Int × Int)} {sts : List (Int × Int × Bool)} {w : World} {bx : Array Value} {kids : List Tr} {lv0 md0 : Nat} {nsv : Value} {ns : List Nd} {lv md : Nat} {wx : World}
    (h : NodeLoop g S P KV tv sv tks sts w bx kids lv0 md0 kids.length nsv ns lv md wx) : bldL tks sts kids lv0 md0 = (.ok (ns.map Nd.plain), lv, md) := by
  have h1 := h.ans
  rw [List.drop_length] at h1
  rw [← h1]
  simp [bldL, afterP]

/-- NodeSays, where the answer is known. -/
theorem NodeSays.ok {g : Nat} {S P : Int} {KV tv sv : Value} {pn : Pn} {lv md cnt : Nat} {w w' : World} {e : Ending} (h : NodeSays g S P KV tv sv (.ok pn, lv, md) cnt w e w') :
    w.grownBy w' (some g) ∧ w'.heap[g]? = some (.cells (bcells S P KV tv sv lv md) 91 (0, 0)) ∧ ∃ n : Nd, pn = n.plain ∧ e = .returned (.tuple #[n.ptr, .int .i64 0]) ∧ n.In w' ∧ n.WF ∧ n.ht ≤ cnt ∧ n.cnt ≤ cnt ∧ ∀ k ∈ n.blocks, w.heap.size ≤ k := by
  obtain ⟨h1, h2, ⟨x, hx, _⟩ | ⟨n, hn, h3⟩⟩ := h
  · simp at hx
  · refine ⟨h1, h2, n, ?_, h3⟩
    simpa using hn
theorem NodeSays.err {g : Nat} {S P : Int} {KV tv sv : Value} {x : Int} {lv md cnt : Nat} {w w' : World} {e : Ending} (h : NodeSays g S P KV tv sv (.error x, lv, md) cnt w e w') :
    w.grownBy w' (some g) ∧ w'.heap[g]? = some (.cells (bcells S P KV tv sv lv md) 91 (0, 0)) ∧ x ≠ 0 ∧ e = .returned (.tuple #[.pointer none, .int .i64 x]) := by
  obtain ⟨h1, h2, ⟨y, hy, h0, h3⟩ | ⟨n, hn, h3⟩⟩ := h
  · have e : x = y := by simpa using hy
    subst e
    exact ⟨h1, h2, h0, h3⟩
  · simp at hn

theorem MakeSays.ok {w w' : World} {head : Int} {body : List Int} {prod st lk : Int} {fm : Bool} {kids : List Nd} {e : Ending} (h : MakeSays w head body prod st lk fm kids e w') (hE : makeE head body prod st lk kids = 0) :
    Below w.heap.size w w' ∧ ∃ g ks, e = .returned (.tuple #[.pointer (some ⟨g, 0, none⟩), .int .i64 0]) ∧ w.heap.size ≤ g ∧ w'.heap[g]? = some (.cells (makeNd g ks head prod st lk fm kids).cs 87 (0, 0)) ∧
      w'.ownsRow w.heap.size 33 1 ks kids.length (kids.map Nd.ptr) := by
  rcases h.2 with ⟨h1, _⟩ | ⟨_, h2⟩
  · exact absurd hE h1
  · exact ⟨h.1, h2⟩
theorem MakeSays.bad {w w' : World} {head : Int} {body : List Int} {prod st lk : Int} {fm : Bool} {kids : List Nd} {e : Ending} (h : MakeSays w head body prod st lk fm kids e w') (hE : ¬ makeE head body prod st lk kids = 0) :
    Below w.heap.size w w' ∧ e = .returned (.tuple #[.pointer none, .int .i64 (makeE head body prod st lk kids)]) := by
  rcases h.2 with ⟨_, h1⟩ | ⟨h2, _⟩
  · exact ⟨h.1, h1⟩
  · exact absurd h2 hE

set_option maxHeartbeats 8000000 in
theorem node_call (g : Nat) (S P : Int) (KV tv sv : Value) (tks : List (Int × Int × Int)) (sts : List (Int × Int × Bool)) (t : Tr) : ∀ (kv : Value) (lv md : Nat) (w : World),
    w.heap[g]? = some (.cells (bcells S P KV tv sv lv md) 91 (0, 0)) → SlcAt g w 3 tv (tks.map tkCells) → SlcAt g w 3 sv (sts.map stCells) → t.At g w kv → lv + t.cnt ≤ 1000000 → md + t.cnt ≤ 1000000 →
    Calls Try.prog 65 #[.pointer (some ⟨g, 0, none⟩), .agg #[.int .i64 t.sy, .int .i64 t.pr, kv]] w (NodeSays g S P KV tv sv (bldT tks sts t lv md) t.cnt w) := by
  revert t
  refine Tr.ind ?_
  intro t ih kv lv md w hg htv hsv hat hlv hmd
  have hc1 : t.cnt = 1 + TrsCnt t.kids := Tr.cnt_eq t
  have lg : g < w.heap.size := (Array.getElem?_eq_some_iff.1 hg).1
  obtain ⟨a, c, rfl, hts⟩ := hat.len
  by_cases h0 : t.kids.length = 0
  · have hb : bldT tks sts t lv md = (leafP t.sy (leadP tks lv).1 (leadP tks lv).2 (stampP sts md).1 (stampP sts md).2.2, lv + 1, md + 1) := by
      cases t with
      | mk s p kids => unfold bldT; exact if_pos h0
    have hk0 : t.kids = [] := List.eq_nil_of_length_eq_zero h0
    have e1 : t.cnt = 1 := by rw [hc1, hk0]; rfl
    rw [hb, e1, h0]
    exact leaf_case g S P KV tv sv tks sts t.sy t.pr a c lv md w hg htv hsv (by omega) (by omega)
  · have e0 : (w.alloc (.cells #[.int .i64 t.sy, .int .i64 t.pr, .slice a t.kids.length c] 24)).heap[w.heap.size]? = some (.cells #[.int .i64 t.sy, .int .i64 t.pr, .slice a t.kids.length c] 24 (0, 0)) := heap_alloc_new _ _
    have L0 : NodeLoop g S P KV tv sv tks sts w #[.int .i64 t.sy, .int .i64 t.pr, .slice a t.kids.length c] t.kids lv md 0 (.slice none 0 0) [] lv md (w.alloc (.cells #[.int .i64 t.sy, .int .i64 t.pr, .slice a t.kids.length c] 24)) :=
      ⟨gb_alloc (gb_refl _ _) _, e0, (Below.heap_alloc _ _ _ lg).trans hg, World.ownsRow_nil _ _ _ _, rfl, by simp, by simp, by simp, by simp [NdsCnt], by rw [List.map_nil, afterP_nil, List.drop_zero], by rw [List.drop_zero]; omega, by rw [List.drop_zero]; omega⟩
    have hbT : bldT tks sts t lv md = match bldL tks sts t.kids lv md with
      | (.error e, lv', md') => (.error e, lv', md')
      | (.ok l, lv', md') => (makeP t.sy (t.kids.map Tr.sy) t.pr (stampP sts md').1 (stampP sts md').2.1 (stampP sts md').2.2 l, lv', md' + 1) := by
      cases t with
      | mk s p kids => rw [bldT]; exact if_neg h0
    have hkeep : ∀ W, w.grownBy W (some g) → Below g w W := fun W hW => below_gb hW (Nat.le_refl _) (Nat.le_of_lt lg)
    have hlen0 : ((t.kids.length : Int) == 0) = false := beq_eq_false_iff_ne.2 (by omega)
    have IH := Lib.hid ih
    have HTS := Lib.hid hts
    have HTV := Lib.hid htv
    have HSV := Lib.hid hsv
    have HBT := Lib.hid hbT
    have HAT := Lib.hid hat
    have HKEEP := Lib.hid hkeep
    have HL0 := Lib.hid L0
    have E0 := Lib.hid e0
    have HB := Lib.hid (And.intro hlv (And.intro hmd hc1))
    clear ih hts htv hsv hbT hat hkeep L0 e0 hg hlv hmd hc1 h0
    go_enter Try.func65, Try.ntmps65
    go_wp2_with fail
    have y2 : (w.alloc (.cells #[.int .i64 t.sy, .int .i64 t.pr, .slice a t.kids.length c] 24)).cell? ⟨w.heap.size, 2, none⟩ = some (.slice a t.kids.length c) := cell_of_heap E0.out rfl
    clear y2
    go_loopg [7, 8] t.kids.length (fun gi nsv iv wx => ∃ (i : Nat) (ns : List Nd) (lv' md' : Nat), iv = .int .i64 i ∧ i + gi = t.kids.length ∧ NodeLoop g S P KV tv sv tks sts w #[.int .i64 t.sy, .int .i64 t.pr, .slice a t.kids.length c] t.kids lv md i nsv ns lv' md' wx)
    case atStart => exact ⟨0, [], lv, md, rfl, by omega, HL0.out⟩
    case round =>
      obtain ⟨i, ns, lv', md', rfl, hi, HL⟩ := hrel
      have y2 : wr.cell? ⟨w.heap.size, 2, none⟩ = some (.slice a t.kids.length c) := cell_of_heap HL.box rfl
      by_cases hlt : i < t.kids.length
      · obtain ⟨b, o, kvi, rfl, hb, q0, q1, q2, hati⟩ := HTS.out.get i hlt
        have hdrop := drop_cons hlt
        obtain ⟨kd, hkd⟩ : ∃ kd, kd = t.kids[i] := ⟨_, rfl⟩
        rw [← hkd] at hdrop q0 q1 hati
        have hmem : kd ∈ t.kids := by rw [hkd]; exact List.getElem_mem hlt
        rw [Nat.zero_add] at q0 q1 q2
        have hbx : Below g w wr := HKEEP.out _ HL.grown
        have d0 : wr.cell? ⟨b, o + i * 3, none⟩ = some (.int .i64 kd.sy) := (hbx.cell (p := ⟨b, _, none⟩) hb).trans q0
        have d1 : wr.cell? ⟨b, o + i * 3 + 1, none⟩ = some (.int .i64 kd.pr) := (hbx.cell (p := ⟨b, _, none⟩) hb).trans q1
        have d2 : wr.cell? ⟨b, o + i * 3 + 2, none⟩ = some kvi := (hbx.cell (p := ⟨b, _, none⟩) hb).trans q2
        have hdc : TrsCnt (t.kids.drop i) = kd.cnt + TrsCnt (t.kids.drop (i + 1)) := by rw [hdrop]; rfl
        have HC := Lib.hid (IH.out kd hmem kvi lv' md' wr HL.bld (HTV.out.keep hbx) (HSV.out.keep hbx) (hati.keep hbx) (by have := HL.hlv; omega) (by have := HL.hmd; omega))
        obtain ⟨akd, ckd, rfl, _⟩ := hati.len
        have HDR := Lib.hid hdrop
        have hltI : (i : Int) < (t.kids.length : Int) := by omega
        have hi6 : i + 1 ≤ 1000000 := by have := len_le_cnt t.kids; have := HB.out.1; have := HB.out.2.2; omega
        have HLH := Lib.hid HL
        clear q0 q1 q2 hati hdrop hkd hmem HL
        rcases hr : bldT tks sts kd lv' md' with ⟨x | pn, lv2, md2⟩
        · rw [hr] at HC
          have HR := Lib.hid hr
          clear hr
          go_wp2_with (go_at_call 65; refine HC.out.mono ?_; rintro e w2 hsay; obtain ⟨hg2, hb2, hx0, rfl⟩ := hsay.err; have hq : (x == 0) = false := beq_eq_false_iff_ne.2 hx0)
          have hres : bldT tks sts t lv md = (.error x, lv2, md2) := by
            rw [HBT.out, ← HLH.out.ans, HDR.out, afterP_cons, HR.out]
          go_wp2_with fail
          rw [hres]
          exact bodyPost_ret (v := .tuple #[.pointer none, .int .i64 x]) (by simp [results, Try.results65, go_sem]) rfl ⟨gb_trans HLH.out.grown hg2, hb2, .inl ⟨x, rfl, hx0, rfl⟩⟩
        · rw [hr] at HC
          have HR := Lib.hid hr
          clear hr
          go_wp2_with (first | (go_at_call 65; refine HC.out.mono ?_; rintro e w2 hsay; obtain ⟨hg2, hb2, n, hpn, rfl, hin, hwf, hht, hcn, hbk⟩ := hsay.ok; unfold Nd.ptr) | (at_builtin; go_loud (refine wpList_push rfl _ _ 45 rfl 33 _ 1 8 info33 Try.underlying45 rfl (by decide) w.heap.size u7 i (ns.map Nd.ptr) rfl (row_gb HLH.out.row hg2 lg) [.pointer (some ⟨n.b, 0, none⟩)] rfl rfl (by simp [Value.oneCell']) (by omega) (by omega) (Nat.le_trans HLH.out.grown.size hg2.size) ?_; intro g4 c4 w4 hown4 hgr4)))
          subst hpn
          go_roundg (gk - 1)
          case measure => omega
          case rel => exact ⟨i + 1, ns ++ [n], lv2, md2, by go_num, by omega, HLH.out.step lg HDR.out hg2 hb2 HR.out hin hwf hcn hbk hown4 hgr4⟩
      · have hge : ¬ ((i : Int) < (t.kids.length : Int)) := by omega
        have hil : i = t.kids.length := by omega
        subst hil
        have hend := bldL_end HL
        have hbl : bldT tks sts t lv md = (makeP t.sy (t.kids.map Tr.sy) t.pr (stampP sts md').1 (stampP sts md').2.1 (stampP sts md').2.2 (ns.map Nd.plain), lv', md' + 1) := by rw [HBT.out, hend]
        have y0 : wr.cell? ⟨w.heap.size, 0, none⟩ = some (.int .i64 t.sy) := cell_of_heap HL.box rfl
        have y1 : wr.cell? ⟨w.heap.size, 1, none⟩ = some (.int .i64 t.pr) := cell_of_heap HL.box rfl
        have hkl : t.kids.length ≤ 1000000 := by have := len_le_cnt t.kids; have := HB.out.1; have := HB.out.2.2; omega
        have hncnt : NdsCnt ns + 1 ≤ t.cnt := by have := HL.cnt; have := HB.out.2.2; omega
        have hsz := HL.grown.size
        have hbody : ∀ W, wr.grownBy W (some g) → Calls Try.prog 82 #[.agg #[.int .i64 t.sy, .int .i64 t.pr, .slice a t.kids.length c]] W fun e w' => ∃ bv, e = .returned (.agg #[.int .i64 t.sy, bv, .bool false]) ∧ w'.ownsRow wr.heap.size 3 1 bv t.kids.length (ints (t.kids.map Tr.sy)) ∧ Below W.heap.size W w' := fun W hW =>
          (body_call g t _ W (HAT.out.keep (HKEEP.out _ (gb_trans HL.grown hW))) (by have := hW.size; omega) hkl).mono fun e w' ⟨bv, h1, h2, h3⟩ => ⟨bv, h1, ownsRow_base h2 hW.size, h3⟩
        have hstamp : ∀ W, wr.grownBy W (some g) → W.heap[g]? = some (.cells (bcells S P KV tv sv lv' md') 91 (0, 0)) → Calls Try.prog 80 #[.pointer (some ⟨g, 0, none⟩)] W fun e w' => e = .returned (.agg #[.int .i64 (stampP sts md').1, .int .i64 (stampP sts md').2.1, .bool (stampP sts md').2.2]) ∧
            w'.heap[g]? = some (.cells (bcells S P KV tv sv lv' (md' + 1)) 91 (0, 0)) ∧ W.grownBy w' (some g) := fun W hW h1 =>
          stamp_call g g S P KV tv sv lv' md' sts W h1 (HSV.out.keep (HKEEP.out _ (gb_trans HL.grown hW))) (by have := HL.hmd; omega)
        have hmake : ∀ W bv, wr.grownBy W (some g) → W.ownsRow wr.heap.size 3 1 bv t.kids.length (ints (t.kids.map Tr.sy)) → Calls Try.prog 33 #[.agg #[.int .i64 t.sy, bv, .bool false], .int .i64 t.pr, .agg #[.int .i64 (stampP sts md').1, .int .i64 (stampP sts md').2.1, .bool (stampP sts md').2.2], u7] W
            (MakeSays W t.sy (t.kids.map Tr.sy) t.pr (stampP sts md').1 (stampP sts md').2.1 (stampP sts md').2.2 ns) := fun W bv hW h1 =>
          make_any t.sy bv (t.kids.map Tr.sy) false t.pr _ _ _ u7 ns W (ints_at (by rw [List.length_map]; exact h1)) (ptrs_at (by rw [HL.len]; exact row_gb HL.row hW lg)) (fun n hn => nd_gb (HL.inw n hn) hW (fun k hk => (HL.old n hn k hk).1) lg) HL.wf
            (fun n hn => by have := ht_le_cnt n (HL.wf n hn); have := cnt_mem hn; have := HB.out.1; omega) (by rw [List.length_map]; exact hkl) (by rw [HL.len]; exact hkl)
        have HBODY := Lib.hid hbody
        have HSTAMP := Lib.hid hstamp
        have HMAKE := Lib.hid hmake
        have HLH := Lib.hid HL
        have HBL := Lib.hid hbl
        have hgg0 : wr.grownBy wr.drew (some g) := gb_drew (gb_refl _ _)
        have hst0 := HL.bld
        have lgr : g < wr.heap.size := grown_block_lt HL.grown lg
        clear hend hbody hstamp hmake hbl HL
        by_cases hE : makeE t.sy (t.kids.map Tr.sy) t.pr (stampP sts md').1 (stampP sts md').2.1 ns = 0
        · have HEH := Lib.hid hE
          go_wp2_with fail
          go_region_held3 (fun W => W.cell? ⟨w.heap.size, 0, none⟩ = some (.int .i64 t.sy) ∧ W.cell? ⟨w.heap.size, 1, none⟩ = some (.int .i64 t.pr) ∧ W.cell? ⟨w.heap.size, 2, none⟩ = some (.slice a t.kids.length c))
            (first | exact ⟨y0, y1, y2⟩ | exact ⟨r0, r1, r2⟩ | exact ⟨s0, s1, s2⟩ | exact ⟨m0, m1, m2⟩)
            (first
              | (go_at_call 82; (refine (HBODY.out _ hgg0).mono ?_; rintro e w82 ⟨bv, rfl, hbv, hb82⟩; have hg82 := gb_below hgg0 hb82; have hst1 := (hb82.block g lgr).trans hst0; have r0 := (hb82.cell (p := ⟨w.heap.size, 0, none⟩) (World.block_lt_of_cell? _ _ y0)).trans y0; have r1 := (hb82.cell (p := ⟨w.heap.size, 1, none⟩) (World.block_lt_of_cell? _ _ y1)).trans y1; have r2 := (hb82.cell (p := ⟨w.heap.size, 2, none⟩) (World.block_lt_of_cell? _ _ y2)).trans y2))
              | (go_at_call 80; refine (HSTAMP.out _ hg82 hst1).mono ?_; rintro e w80 ⟨rfl, hst2, hgs⟩; have hg80 := gb_trans hg82 hgs; have hbv' := row_gb hbv hgs lgr; have s0 := hgs.cell (a := ⟨w.heap.size, 0, none⟩) r0 (fun e => by simp at e; omega); have s1 := hgs.cell (a := ⟨w.heap.size, 1, none⟩) r1 (fun e => by simp at e; omega); have s2 := hgs.cell (a := ⟨w.heap.size, 2, none⟩) r2 (fun e => by simp at e; omega))
              | (go_at_call 33; refine (HMAKE.out _ _ hg80 hbv').mono ?_; rintro e w33 hsay; obtain ⟨hb33, g5, ks, rfl, hg5, hc5, hk5⟩ := hsay.ok hE; have hg33 := gb_below hg80 hb33; have hst3 := (hb33.block g (grown_block_lt (gb_trans HLH.out.grown hg80) lg)).trans hst2; have m0 := (hb33.cell (p := ⟨w.heap.size, 0, none⟩) (World.block_lt_of_cell? _ _ s0)).trans s0; have m1 := (hb33.cell (p := ⟨w.heap.size, 1, none⟩) (World.block_lt_of_cell? _ _ s1)).trans s1; have m2 := (hb33.cell (p := ⟨w.heap.size, 2, none⟩) (World.block_lt_of_cell? _ _ s2)).trans s2))
          go_wp2_with fail
          have hgw := gb_trans HLH.out.grown hg33
          rw [HBL.out]
          refine bodyPost_ret (v := .tuple #[.pointer (some ⟨g5, 0, none⟩), .int .i64 0]) (by simp [results, Try.results65, go_sem]) rfl ⟨hgw, hst3, .inr ⟨makeNd g5 ks t.sy t.pr (stampP sts md').1 (stampP sts md').2.1 (stampP sts md').2.2 ns, makeP_ok HLH.out.wf hE, rfl, ?_, makeNd_wf HLH.out.wf hE, ?_, ?_, ?_⟩⟩
          · refine makeNd_in hc5 hk5 fun n hn => ?_
            exact (nd_gb (HLH.out.inw n hn) hg80 (fun k hk => (HLH.out.old n hn k hk).1) lg).below hb33
          · have h1 := ht_le_cnt _ (makeNd_wf (g := g5) (ks := ks) (fm := (stampP sts md').2.2) HLH.out.wf hE)
            have h2 : (makeNd g5 ks t.sy t.pr (stampP sts md').1 (stampP sts md').2.1 (stampP sts md').2.2 ns).cnt = 1 + NdsCnt ns := by rw [Nd.cnt_eq]; rfl
            omega
          · have h2 : (makeNd g5 ks t.sy t.pr (stampP sts md').1 (stampP sts md').2.1 (stampP sts md').2.2 ns).cnt = 1 + NdsCnt ns := by rw [Nd.cnt_eq]; rfl
            omega
          · have hs80 : wr.heap.size ≤ w80.heap.size := hg80.size
            exact makeNd_blocks (by omega) (fun k hk => by have := (hk5.lt k hk).1; omega) (fun n hn k hk => (HLH.out.old n hn k hk).1)
        · have HEH := Lib.hid hE
          go_wp2_with fail
          go_region_held3 (fun W => W.cell? ⟨w.heap.size, 0, none⟩ = some (.int .i64 t.sy) ∧ W.cell? ⟨w.heap.size, 1, none⟩ = some (.int .i64 t.pr) ∧ W.cell? ⟨w.heap.size, 2, none⟩ = some (.slice a t.kids.length c))
            (first | exact ⟨y0, y1, y2⟩ | exact ⟨r0, r1, r2⟩ | exact ⟨s0, s1, s2⟩ | exact ⟨m0, m1, m2⟩)
            (first
              | (go_at_call 82; (refine (HBODY.out _ hgg0).mono ?_; rintro e w82 ⟨bv, rfl, hbv, hb82⟩; have hg82 := gb_below hgg0 hb82; have hst1 := (hb82.block g lgr).trans hst0; have r0 := (hb82.cell (p := ⟨w.heap.size, 0, none⟩) (World.block_lt_of_cell? _ _ y0)).trans y0; have r1 := (hb82.cell (p := ⟨w.heap.size, 1, none⟩) (World.block_lt_of_cell? _ _ y1)).trans y1; have r2 := (hb82.cell (p := ⟨w.heap.size, 2, none⟩) (World.block_lt_of_cell? _ _ y2)).trans y2))
              | (go_at_call 80; refine (HSTAMP.out _ hg82 hst1).mono ?_; rintro e w80 ⟨rfl, hst2, hgs⟩; have hg80 := gb_trans hg82 hgs; have hbv' := row_gb hbv hgs lgr; have s0 := hgs.cell (a := ⟨w.heap.size, 0, none⟩) r0 (fun e => by simp at e; omega); have s1 := hgs.cell (a := ⟨w.heap.size, 1, none⟩) r1 (fun e => by simp at e; omega); have s2 := hgs.cell (a := ⟨w.heap.size, 2, none⟩) r2 (fun e => by simp at e; omega))
              | (go_at_call 33; refine (HMAKE.out _ _ hg80 hbv').mono ?_; rintro e w33 hsay; obtain ⟨hb33, rfl⟩ := hsay.bad hE; have hg33 := gb_below hg80 hb33; have hst3 := (hb33.block g (grown_block_lt (gb_trans HLH.out.grown hg80) lg)).trans hst2; have m0 := (hb33.cell (p := ⟨w.heap.size, 0, none⟩) (World.block_lt_of_cell? _ _ s0)).trans s0; have m1 := (hb33.cell (p := ⟨w.heap.size, 1, none⟩) (World.block_lt_of_cell? _ _ s1)).trans s1; have m2 := (hb33.cell (p := ⟨w.heap.size, 2, none⟩) (World.block_lt_of_cell? _ _ s2)).trans s2))
          go_wp2_with fail
          have hgw := gb_trans HLH.out.grown hg33
          rw [HBL.out]
          exact bodyPost_ret (v := .tuple #[.pointer none, .int .i64 (makeE t.sy (t.kids.map Tr.sy) t.pr (stampP sts md').1 (stampP sts md').2.1 ns)]) (by simp [results, Try.results65, go_sem]) rfl ⟨hgw, hst3, .inl ⟨_, makeP_err HLH.out.wf hE, hE, rfl⟩⟩

end Go.Proofs.Ytcjpmgfobnaoeaa
