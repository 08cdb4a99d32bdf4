/- begins: the nodes that begin at a token, as the law finds them. -/
import Derived.Test.YtcjpmgfobnaoeaaA6
import Derived.Deep.RegionHeld3
namespace Go.Proofs.Ytcjpmgfobnaoeaa
open Go.RowKit

mutual
/-- How many nodes there are. -/
def Nd.cnt : Nd → Nat
  | .mk _ _ _ _ _ _ _ _ _ _ _ _ kids => 1 + NdsCnt kids
def NdsCnt : List Nd → Nat
  | [] => 0
  | n :: ns => n.cnt + NdsCnt ns
end
theorem Nd.cnt_eq (n : Nd) : n.cnt = 1 + NdsCnt n.kids := by cases n; rfl

mutual
/-- The nodes that begin at a token and stay, those above ahead. -/
def begN (tk0 a b at' : Int) (fr : Int) : Nd → List Nd
  | .mk bb tk bt ld ht sy pr wd st lk fm ks kids =>
    (if fr = at' ∧ staysC tk0 a b fr tk = true then [.mk bb tk bt ld ht sy pr wd st lk fm ks kids] else []) ++ begK tk0 a b at' fr kids
def begK (tk0 a b at' : Int) (fr : Int) : List Nd → List Nd
  | [] => []
  | k :: ks => begN tk0 a b at' fr k ++ begK tk0 a b at' (fr + k.tk) ks
end
theorem begN_eq (tk0 a b at' fr : Int) (n : Nd) : begN tk0 a b at' fr n = (if fr = at' ∧ staysC tk0 a b fr n.tk = true then [n] else []) ++ begK tk0 a b at' fr n.kids := by
  cases n; rfl

mutual
theorem begN_len (tk0 a b at' : Int) : ∀ (n : Nd) (fr : Int), (begN tk0 a b at' fr n).length ≤ n.cnt
  | .mk bb tk bt ld ht sy pr wd st lk fm ks kids, fr => by
    have := begK_len tk0 a b at' kids fr
    unfold begN Nd.cnt
    rw [List.length_append]
    split <;> simp <;> omega
theorem begK_len (tk0 a b at' : Int) : ∀ (ns : List Nd) (fr : Int), (begK tk0 a b at' fr ns).length ≤ NdsCnt ns
  | [], fr => by unfold begK; simp
  | n :: ns, fr => by
    have h1 := begN_len tk0 a b at' n fr
    have h2 := begK_len tk0 a b at' ns (fr + n.tk)
    unfold begK NdsCnt
    rw [List.length_append]
    omega
end

theorem cnt_mem {n : Nd} : ∀ {ns : List Nd}, n ∈ ns → n.cnt ≤ NdsCnt ns
  | m :: ns, h => by
    unfold NdsCnt
    rcases List.mem_cons.1 h with rfl | h
    · omega
    · have := cnt_mem h; omega

set_option maxHeartbeats 4000000 in
set_option maxRecDepth 100000 in
theorem begins_any (old a b t k at' : Int) (c : CurOk old a b t) (n : Nd) : ∀ (fr : Int) (w : World), n.In w → n.WF → n.cnt ≤ 100000 → 0 ≤ fr → fr + n.tk ≤ 1000000 →
    Calls Try.prog 28 #[n.ptr, .int .i64 old, .agg #[.int .i64 a, .int .i64 b, .int .i64 t, .int .i64 k], .int .i64 fr, .int .i64 at'] w fun e w' => ∃ v, e = .returned v ∧
      w'.ownsRow w.heap.size 33 1 v (begN old a b at' fr n).length ((begN old a b at' fr n).map Nd.ptr) ∧ Below w.heap.size w w' := by
  revert n
  refine Nd.ind ?_
  intro n ih fr w hin hwf hcnt hf0 hf1
  have hok := Nd.WF.ok n hwf
  have HIN := Lib.hid hin
  have HWF := Lib.hid hwf
  have HOK := Lib.hid hok
  have IH := Lib.hid ih
  have ht1 := hok.tk1
  clear hin hwf hok ih
  unfold Nd.ptr
  go_enter Try.func28, Try.ntmps28
  apply wp_seq_k
  intro K1 h1
  have H1 := Lib.hid h1
  clear h1
  go_wp2_with fail
  refine H1.out _ _ ?_
  clear H1 K1
  apply wp_seq_k
  intro K1 h1
  have H1 := Lib.hid h1
  clear h1
  go_wp2_with fail
  refine H1.out _ _ ?_
  clear H1 K1
  apply wp_seq_k
  intro K1 h1
  go_cut [11] (fun v wx => ∃ l : List Nd, wx.ownsRow w.heap.size 33 1 v l.length (l.map Nd.ptr) ∧ Below w.heap.size w wx ∧ wx.heap[w.heap.size]? = some (.cells #[.int .i64 a, .int .i64 b, .int .i64 t, .int .i64 k] 30 (0, 0)) ∧
        Hid (l = (if fr = at' ∧ staysC old a b fr n.tk = true then [n] else [])))
  case first =>
    have e0 : (w.alloc (.cells #[.int .i64 a, .int .i64 b, .int .i64 t, .int .i64 k] 30)).heap[w.heap.size]? = some (.cells #[.int .i64 a, .int .i64 b, .int .i64 t, .int .i64 k] 30 (0, 0)) := heap_alloc_new _ _
    have eb : Below w.heap.size w (w.alloc (.cells #[.int .i64 a, .int .i64 b, .int .i64 t, .int .i64 k] 30)) := below_alloc _ _
    have el : w.heap.size < (w.alloc (.cells #[.int .i64 a, .int .i64 b, .int .i64 t, .int .i64 k] 30)).heap.size := by simp
    generalize w.alloc (.cells #[.int .i64 a, .int .i64 b, .int .i64 t, .int .i64 k] 30) = W at *
    have hin := HIN.out.below eb
    by_cases h1 : fr = at'
    · have hq : (fr == at') = true := by simpa using h1
      have H1 := Lib.hid h1
      clear h1
      have e1 : ∀ s : Sb W, s.w.cell? ⟨w.heap.size, 0, none⟩ = some (.int .i64 a) := fun s => s.cell (cell_of_heap e0 rfl)
      have e2 : ∀ s : Sb W, s.w.cell? ⟨w.heap.size, 1, none⟩ = some (.int .i64 b) := fun s => s.cell (cell_of_heap e0 rfl)
      have E0 := Lib.hid e0
      have hT : ∀ s : Sb W, Calls Try.prog 24 #[.pointer (some ⟨n.b, 0, none⟩)] s.w fun e w' => e = .returned (.int .i64 n.tk) ∧ ∃ s' : Sb W, w' = s'.w := fun s => Calls.sb (tokens_some n _ (hin.below s.below))
      have hS : ∀ s : Sb W, Calls Try.prog 68 #[.int .i64 old, .int .i64 a, .int .i64 b, .int .i64 fr, .int .i64 n.tk] s.w fun e w' => e = .returned (.bool (staysC old a b fr n.tk)) ∧ ∃ s' : Sb W, w' = s'.w := fun s => Calls.sb_same (refStays_any old a b t fr n.tk _ c hf0 (by omega) ht1 (by omega))
      clear e0 hin
      cases h2 : staysC old a b fr n.tk with
      | true =>
        rw [h2] at hS
        have H2 := Lib.hid h2
        have HS := Lib.hid hS
        have HT := Lib.hid hT
        clear h2 hS hT
        go_wp2_with fail
        refine wp_region_sb (by kernel_rfl) (by kernel_rfl) ?_
        repeat (go_big_quiet_step (first | (go_at_call 24; exact HT.out _) | (go_at_call 68; exact HS.out _)))
        refine wpQuiet_nil ?_
        intro s
        clear e1 e2
        have hbs := eb.trans (s.below.mono eb.size)
        go_wp2_with (at_builtin; refine wpList_push rfl _ _ 45 rfl 33 _ 1 8 info33 Try.underlying45 rfl (by decide) w.heap.size (.slice none 0 0) 0 [] rfl (World.ownsRow_nil _ _ _ _) [.pointer (some ⟨n.b, 0, none⟩)] rfl rfl (by simp [Value.oneCell']) (by omega) (by omega) hbs.size ?_; intro g4 c4 w4 hown4 hgr4)
        go_meet
        refine ⟨[n], by simpa [Nd.ptr] using hown4, hbs.trans hgr4.below, ?_, by rw [if_pos ⟨H1.out, H2.out⟩]; rfl⟩
        rw [hgr4.far _ (Nat.lt_of_lt_of_le el s.below.size) (by simp [Value.ownBlock]), s.below.block _ el]
        exact E0.out
      | false =>
        rw [h2] at hS
        have H2 := Lib.hid h2
        have HS := Lib.hid hS
        have HT := Lib.hid hT
        clear h2 hS hT
        go_wp2_with fail
        refine wp_region_sb (by kernel_rfl) (by kernel_rfl) ?_
        repeat (go_big_quiet_step (first | (go_at_call 24; exact HT.out _) | (go_at_call 68; exact HS.out _)))
        refine wpQuiet_nil ?_
        intro s
        clear e1 e2
        have hbs := eb.trans (s.below.mono eb.size)
        go_wp2_with fail
        go_meet
        refine ⟨[], World.ownsRow_nil _ _ _ _, hbs, ?_, by rw [if_neg (by rw [H2.out]; simp)]; rfl⟩
        rw [s.below.block _ el]
        exact E0.out
    · have hq : (fr == at') = false := by simpa using h1
      have H1 := Lib.hid h1
      have E0 := Lib.hid e0
      clear h1 e0 hin
      go_wp2_with fail
      refine wp_region_sb (by kernel_rfl) (by kernel_rfl) ?_
      repeat (go_big_quiet_step (fail))
      refine wpQuiet_nil ?_
      intro s
      have hbs := eb.trans (s.below.mono eb.size)
      go_wp2_with fail
      go_meet
      refine ⟨[], World.ownsRow_nil _ _ _ _, hbs, ?_, by rw [if_neg (fun h => H1.out h.1)]; rfl⟩
      rw [s.below.block _ el]
      exact E0.out
  case rest =>
    obtain ⟨l0, hown, hbr, hx0, hl0⟩ := hcut
    have lx : w.heap.size < wc.heap.size := (Array.getElem?_eq_some_iff.1 hx0).1
    have hkids := kids_some n wc (HIN.out.below hbr) (by have := HOK.out.ht1; omega) (by have := HOK.out.klen; omega)
    have hkl : n.kids.length ≤ 262144 := HOK.out.klen
    refine h1 _ _ ?_
    clear h1 K1
    go_wp2_with (go_at_call 34; refine hkids.mono ?_; rintro e w5 ⟨kv, rfl, ho5, hb5⟩; obtain ⟨ka, kc, rfl, hcell⟩ := ownsRow_any ho5; have HCELL := Lib.hid hcell; clear hcell)
    have hb05 := hbr.trans (hb5.mono hbr.size)
    have hx5 : w5.heap[w.heap.size]? = some (.cells #[.int .i64 a, .int .i64 b, .int .i64 t, .int .i64 k] 30 (0, 0)) := by rw [hb5.block _ lx]; exact hx0
    have hown5 := ownsRow_of_block hown (fun k hk => hb5.block k (hown.lt k hk).2)
    have hap5 : Apart u11 (.slice ka n.kids.length kc) := fun g hg h2 => by
      have h3 := (hown.lt g hg).2
      have h4 := (ho5.lt g h2).1
      omega
    have lkx : ∀ g, (Value.slice ka n.kids.length kc).ownBlock = some g → wc.heap.size ≤ g := fun g hg => (ho5.lt g hg).1
    clear hkids hown hx0
    go_loopg [11, 13, 3] n.kids.length (fun gi v iv fv wx => ∃ (i : Nat) (f : Int) (l : List Nd), iv = .int .i64 i ∧ fv = .int .i64 f ∧ i + gi = n.kids.length ∧ wx.ownsRow w.heap.size 33 1 v l.length (l.map Nd.ptr) ∧ Below w.heap.size w wx ∧
          wx.heap[w.heap.size]? = some (.cells #[.int .i64 a, .int .i64 b, .int .i64 t, .int .i64 k] 30 (0, 0)) ∧ wx.ownsRow wc.heap.size 33 1 (.slice ka n.kids.length kc) n.kids.length (n.kids.map Nd.ptr) ∧ Apart v (.slice ka n.kids.length kc) ∧
          Hid (l ++ begK old a b at' f (n.kids.drop i) = begN old a b at' fr n ∧ 0 ≤ f ∧ f + sumTk (n.kids.drop i) ≤ 1000000 ∧ l.length + NdsCnt (n.kids.drop i) ≤ 100001))
    case atStart =>
      refine ⟨0, fr, l0, rfl, rfl, by omega, hown5, hb05, hx5, ho5, hap5, ?_, hf0, ?_, ?_⟩
      · rw [hl0.out, List.drop_zero, ← begN_eq]
      · have := HWF.out.sum.1; rw [List.drop_zero]; omega
      · have := hl0.out
        have h2 : l0.length ≤ 1 := by rw [this]; split <;> simp
        rw [List.drop_zero]
        have := n.cnt_eq
        omega
    case round =>
      obtain ⟨i, f, l, rfl, rfl, hi, hown, hbr2, hx, hkr, hap, HI⟩ := hrel
      clear hx5 hown5 hap5 ho5 hb5 hb05 hbr
      by_cases hlt : i < n.kids.length
      · obtain ⟨kd, hkd⟩ : ∃ kd, kd = n.kids[i] := ⟨_, rfl⟩
        have hmem : kd ∈ n.kids := by rw [hkd]; exact List.getElem_mem hlt
        have hkin : kd.In w := HIN.out.head.2.2 _ hmem
        have hkwf : kd.WF := HWF.out.kid _ hmem
        have hkok := Nd.WF.ok kd hkwf
        have hdrop := drop_cons hlt
        rw [← hkd] at hdrop
        obtain ⟨a', c', he, hce⟩ := ownsRow_any hkr
        obtain ⟨gc, rfl, hg1, hg2, hcl⟩ := hce i kd.ptr (by simp [hkd, hlt])
        injection he with he1 he2 he3
        subst he1 he3
        have hcell : wr.cell? ⟨gc, i, none⟩ = some (.pointer (some ⟨kd.b, 0, none⟩)) := hcl
        have hfs := HI.out.2.2.1
        have hcs := HI.out.2.2.2
        rw [hdrop, sumTk_cons] at hfs
        rw [hdrop] at hcs
        unfold NdsCnt at hcs
        have hs0 : 0 ≤ sumTk (n.kids.drop (i + 1)) := by
          have := (sumTk_ge (l := n.kids.drop (i + 1)) fun k hk => (Nd.WF.ok k (HWF.out.kid k (List.mem_of_mem_drop hk))).tk1).1
          omega
        have e1 : wr.cell? ⟨w.heap.size, 0, none⟩ = some (.int .i64 a) := cell_of_heap hx rfl
        have e2 : wr.cell? ⟨w.heap.size, 1, none⟩ = some (.int .i64 b) := cell_of_heap hx rfl
        have e3 : wr.cell? ⟨w.heap.size, 2, none⟩ = some (.int .i64 t) := cell_of_heap hx rfl
        have e4 : wr.cell? ⟨w.heap.size, 3, none⟩ = some (.int .i64 k) := cell_of_heap hx rfl
        have HC := Lib.hid (show ∀ W, Below wr.heap.size wr W → Calls Try.prog 28 #[.pointer (some ⟨kd.b, 0, none⟩), .int .i64 old, .agg #[.int .i64 a, .int .i64 b, .int .i64 t, .int .i64 k], .int .i64 f, .int .i64 at'] W fun e w' => ∃ v, e = .returned v ∧
            w'.ownsRow wr.heap.size 33 1 v (begN old a b at' f kd).length ((begN old a b at' f kd).map Nd.ptr) ∧ Below wr.heap.size wr w' from
          fun W hW => (IH.out kd hmem f W (hkin.below (hbr2.trans (hW.mono hbr2.size))) hkwf (by have := n.cnt_eq; have := cnt_mem hmem; omega) HI.out.2.1 (by omega)).mono fun e w' ⟨v, h1, h2, h3⟩ =>
            ⟨v, h1, ownsRow_base h2 hW.size, hW.trans (h3.mono hW.size)⟩)
        have HT := Lib.hid (show ∀ W, Below w.heap.size w W → Calls Try.prog 24 #[.pointer (some ⟨kd.b, 0, none⟩)] W fun e w' => e = .returned (.int .i64 kd.tk) ∧ Below W.heap.size W w' from
              fun W hW => tokens_some kd W (hkin.below hW))
        have hlen2 := begN_len old a b at' kd f
        have hltI : (i : Int) < (n.kids.length : Int) := by omega
        have hk1 := hkok.tk1
        have hf0' := HI.out.2.1
        have HDR := Lib.hid hdrop
        have HKR := Lib.hid hkr
        have HX := Lib.hid hx
        have HAP := Lib.hid hap
        have lx0 : w.heap.size < wr.heap.size := (Array.getElem?_eq_some_iff.1 HX.out).1
        have hdw : Below wr.heap.size wr wr.drew := (Below.refl _ _).drew
        clear hmem hkin hkwf hkok hdrop hce hcl hkd hkr hx hap
        have hi0 : (0 : Int) ≤ (i : Int) := Int.natCast_nonneg _
        go_wp2_with fail
        go_region_held3 (fun W => W.cell? ⟨gc, i, none⟩ = some (.pointer (some ⟨kd.b, 0, none⟩)) ∧ W.cell? ⟨w.heap.size, 0, none⟩ = some (.int .i64 a) ∧ W.cell? ⟨w.heap.size, 1, none⟩ = some (.int .i64 b) ∧ W.cell? ⟨w.heap.size, 2, none⟩ = some (.int .i64 t) ∧ W.cell? ⟨w.heap.size, 3, none⟩ = some (.int .i64 k))
          (first
            | exact ⟨hcell, e1, e2, e3, e4⟩
            | exact ⟨hcell7, cell_of_heap hx7 rfl, cell_of_heap hx7 rfl, cell_of_heap hx7 rfl, cell_of_heap hx7 rfl⟩
            | exact ⟨hcell8, cell_of_heap hx8 rfl, cell_of_heap hx8 rfl, cell_of_heap hx8 rfl, cell_of_heap hx8 rfl⟩)
          (first
            | (go_at_call 28; refine (HC.out _ hdw).mono ?_; rintro e w7 ⟨v7, rfl, ho7, hb7⟩; have hown7 := ownsRow_of_block hown (fun k hk => hb7.block k (hown.lt k hk).2); have hbr7 := hbr2.trans (hb7.mono hbr2.size); have hcell7 := (hb7.cell (p := ⟨gc, i, none⟩) hg2).trans hcell; have hx7 := (hb7.block _ lx0).trans HX.out)
            | (refine step_spread rfl _ _ 45 rfl 33 _ 1 8 info33 Try.underlying45 rfl (by decide) w.heap.size u11 l.length (l.map Nd.ptr) rfl hown7 _ _ _ _ rfl ho7 oneCell_ptrs (by omega) (by omega) hbr7.size ?_; intro A8 c8 w8 ho8 hb8 hg8 hat8; have hbr8 := hbr7.trans hb8; have hcell8 := hg8.cell hcell7 (fun h => HAP.out gc h.symm rfl); have hx8 := (hg8.block _ (by have := hb7.size; omega) (own_ne hown HX.out)).trans hx7))
        go_wp2_with (go_at_call 24; refine (HT.out _ hbr8).mono ?_; rintro e w9 ⟨rfl, hb9⟩)
        have hsz7 := hb7.size
        have hsz8 := hg8.size
        have ho9 := ownsRow_of_block ho8 (fun k hk => hb9.block k (ho8.lt k hk).2)
        have hbr9 := hbr8.trans (hb9.mono hbr8.size)
        have hx9 : w9.heap[w.heap.size]? = some (.cells #[.int .i64 a, .int .i64 b, .int .i64 t, .int .i64 k] 30 (0, 0)) := (hb9.block _ (by omega)).trans hx8
        have hk9 : w9.ownsRow wc.heap.size 33 1 (.slice (some ⟨gc, 0, none⟩) n.kids.length kc) n.kids.length (n.kids.map Nd.ptr) := by
          refine ownsRow_of_block HKR.out fun k hk => ?_
          have hkk : k = gc := by simpa [Value.ownBlock] using hk.symm
          subst hkk
          rw [hb9.block _ (by show k < _; omega), hg8.block _ (by show k < _; omega) (fun h => HAP.out _ h.symm rfl), hb7.block _ hg2]
        go_roundg (gk - 1)
        case measure => omega
        case rel =>
          refine ⟨i + 1, f + kd.tk, l ++ begN old a b at' f kd, by go_num, rfl, by omega, by simpa using ho9, hbr9, hx9, hk9, ?_, ?_, by omega, by omega, ?_⟩
          · intro g hg h2
            have h3 : g = gc := by simpa [Value.ownBlock] using h2.symm
            subst h3
            rcases hat8 with h4 | h4
            · rw [h4] at hg; exact HAP.out _ hg rfl
            · rw [h4] at hg; simp at hg; omega
          · have := HI.out.1
            rw [HDR.out] at this
            unfold begK at this
            rw [List.append_assoc]
            exact this
          · rw [List.length_append]; omega
      · have hge : ¬ ((i : Int) < (n.kids.length : Int)) := by omega
        have HL := Lib.hid (show l = begN old a b at' fr n by
          have := HI.out.1
          rw [List.drop_of_length_le (by omega)] at this
          unfold begK at this
          simpa using this)
        clear HI
        go_wp2_with fail
        go_ret
        rw [← HL.out]
        exact ⟨_, rfl, hown, hbr2⟩
end Go.Proofs.Ytcjpmgfobnaoeaa
