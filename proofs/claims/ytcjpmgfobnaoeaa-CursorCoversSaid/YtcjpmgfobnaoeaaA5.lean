/- cursor.stays, cursor.At: what they tell. -/
import Derived.Test.YtcjpmgfobnaoeaaA4
namespace Go.Proofs.Ytcjpmgfobnaoeaa
open Go.RowKit

def staysC (tk a b fr m : Int) : Bool := decide (fr + m ≤ a ∨ tk - b ≤ fr)

set_option maxHeartbeats 1000000 in
theorem stays_some (g : Nat) (n : Nd) (a b t fr m : Int) (w : World) (h : n.In w) (hg : w.heap[g]? = some (.cells #[n.ptr, .int .i64 a, .int .i64 b, .int .i64 t] 112 (0, 0))) (c : CurOk n.tk a b t)
    (f0 : 0 ≤ fr) (f1 : fr ≤ 1000000) (m0 : 0 ≤ m) (m1 : m ≤ 1000000) :
    Calls Try.prog 67 #[.pointer (some ⟨g, 0, none⟩), .int .i64 fr, .int .i64 m] w fun e w' => e = .returned (.bool (staysC n.tk a b fr m)) ∧ Below w.heap.size w w' := by
  have c0 : w.cell? ⟨g, 0, none⟩ = some (.pointer (some ⟨n.b, 0, none⟩)) := cell_of_heap hg rfl
  have c1 : w.cell? ⟨g, 1, none⟩ = some (.int .i64 a) := cell_of_heap hg rfl
  have c2 : w.cell? ⟨g, 2, none⟩ = some (.int .i64 b) := cell_of_heap hg rfl
  have hc : ∀ W, Below w.heap.size w W → Calls Try.prog 24 #[.pointer (some ⟨n.b, 0, none⟩)] W fun e w' => e = .returned (.int .i64 n.tk) ∧ Below W.heap.size W w' := fun W hW => tokens_some n W (h.below hW)
  have d0 : ∀ s : Sb w, s.w.cell? ⟨g, 0, none⟩ = some (.pointer (some ⟨n.b, 0, none⟩)) := fun s => s.cell c0
  have d1 : ∀ s : Sb w, s.w.cell? ⟨g, 1, none⟩ = some (.int .i64 a) := fun s => s.cell c1
  have d2 : ∀ s : Sb w, s.w.cell? ⟨g, 2, none⟩ = some (.int .i64 b) := fun s => s.cell c2
  obtain ⟨h1, h2, ha, hb, h3, h4, h5, h6, h7⟩ := c
  clear h hg h6 h7 h4
  by_cases k0 : fr + m ≤ a
  · have e : staysC n.tk a b fr m = true := by unfold staysC; simp [k0]
    rw [e]
    clear e
    go_enter Try.func67, Try.ntmps67
    go_wp2_with fail
    refine wp_region_sb (by kernel_rfl) (by kernel_rfl) ?_
    repeat (go_big_quiet_step (fail))
    refine wpQuiet_nil ?_
    intro s
    go_wp2_with fail
    go_ret
    exact ⟨rfl, s.below⟩
  · have k0' : a < fr + m := by omega
    have k1 : decide (fr + m ≤ a) = false := by simpa using k0'
    have e : staysC n.tk a b fr m = decide (n.tk - b ≤ fr) := by unfold staysC; simp [k0]
    rw [e]
    clear e k0
    go_enter Try.func67, Try.ntmps67
    go_wp2_with fail
    refine wp_region_sb (by kernel_rfl) (by kernel_rfl) ?_
    repeat (go_big_quiet_step ((go_at_call 24; refine Calls.sb (hc _ (Sb.below _)))))
    refine wpQuiet_nil ?_
    intro s
    go_wp2_with fail
    go_ret
    exact ⟨rfl, s.below⟩

mutual
/-- The nodes that 'At' tells from a node on. -/
def atN (tk0 a b at' : Int) (fr : Int) : Nd → List Nd
  | .mk bb tk bt ld ht sy pr wd st lk fm ks kids =>
    (if fr = at' ∧ staysC tk0 a b fr tk = true then [.mk bb tk bt ld ht sy pr wd st lk fm ks kids] else []) ++ atK tk0 a b at' fr kids
def atK (tk0 a b at' : Int) (fr : Int) : List Nd → List Nd
  | [] => []
  | k :: ks => if at' < fr + k.tk then atN tk0 a b at' fr k else atK tk0 a b at' (fr + k.tk) ks
end

theorem atN_eq (tk0 a b at' fr : Int) (n : Nd) : atN tk0 a b at' fr n = (if fr = at' ∧ staysC tk0 a b fr n.tk = true then [n] else []) ++ atK tk0 a b at' fr n.kids := by
  cases n; rfl

def atO (tk0 a b at' fr : Int) : Option Nd → List Nd
  | none => []
  | some n => atN tk0 a b at' fr n

set_option maxHeartbeats 4000000 in
set_option maxRecDepth 100000 in
theorem at_some (g : Nat) (n : Nd) (a b t k : Int) (w : World) (h : n.In w) (hwf : n.WF) (hht : n.ht ≤ 1000000) (hg : w.heap[g]? = some (.cells #[n.ptr, .int .i64 a, .int .i64 b, .int .i64 t] 112 (0, 0))) (c : CurOk n.tk a b t)
    (hin : (oldC n.tk a b t k).2 = true) :
    Calls Try.prog 27 #[.pointer (some ⟨g, 0, none⟩), .int .i64 k] w fun e w' => ∃ v l, e = .returned v ∧ l = atN n.tk a b (oldC n.tk a b t k).1 0 n ∧ w'.ownsRow w.heap.size 33 1 v l.length (l.map Nd.ptr) ∧ Below w.heap.size w w' := by
  have c0 : w.cell? ⟨g, 0, none⟩ = some (.pointer (some ⟨n.b, 0, none⟩)) := cell_of_heap hg rfl
  have lg : g < w.heap.size := World.block_lt_of_cell? w _ c0
  have hold : Calls Try.prog 25 #[.pointer (some ⟨g, 0, none⟩), .int .i64 k] w fun e w' => e = .returned (.tuple #[.int .i64 (oldC n.tk a b t k).1, .bool true]) ∧ Below w.heap.size w w' := by
    have := old_some g n a b t k w h hg c
    rw [hin] at this
    exact this
  clear hin
  generalize (oldC n.tk a b t k).1 = at' at *
  have c0' : ∀ W, Below w.heap.size w W → W.cell? ⟨g, 0, none⟩ = some (.pointer (some ⟨n.b, 0, none⟩)) := fun W hW => (hW.cell (p := ⟨g, 0, none⟩) lg).trans c0
  have hstays : ∀ W fr m, Below w.heap.size w W → 0 ≤ fr → fr ≤ 1000000 → 0 ≤ m → m ≤ 1000000 → Calls Try.prog 67 #[.pointer (some ⟨g, 0, none⟩), .int .i64 fr, .int .i64 m] W fun e w' => e = .returned (.bool (staysC n.tk a b fr m)) ∧ Below W.heap.size W w' :=
    fun W fr m hW h1 h2 h3 h4 => stays_some g n a b t fr m W (h.below hW) (by rw [hW.block g lg]; exact hg) c h1 h2 h3 h4
  have htk := c.tk2
  have HS := Lib.hid hstays
  have HC0 := Lib.hid c0'
  have HIN := Lib.hid h
  have HWF := Lib.hid hwf
  clear hg h c hstays c0' hwf
  go_enter Try.func27, Try.ntmps27
  go_wp2
  go_step3
  go_wp2_with (go_at_call 25; refine hold.mono ?_; rintro e w1 ⟨rfl, hbl⟩; have c0w := HC0.out _ hbl)
  go_step3
  go_wp2_with fail
  have hb0 := hbl
  go_loopg [7, 8, 9] (n.ht.toNat + 1) (fun gk v fv pv wr => ∃ (cur : Option Nd) (fr : Int) (done : List Nd), fv = .int .i64 fr ∧ pv = ptrO cur ∧ wr.ownsRow w.heap.size 33 1 v done.length (done.map Nd.ptr) ∧ Below w.heap.size w wr ∧
    Hid ((∀ m, cur = some m → m.In w ∧ m.WF ∧ 0 ≤ fr ∧ fr + m.tk ≤ n.tk ∧ m.ht.toNat + 1 ≤ gk) ∧ 1 ≤ gk ∧ done ++ atO n.tk a b at' fr cur = atN n.tk a b at' 0 n ∧ done.length + gk ≤ n.ht.toNat + 1))
  case atStart =>
    exact ⟨some n, 0, [], rfl, rfl, World.ownsRow_nil _ _ _ _, hbl, ⟨fun m hm => by cases hm; exact ⟨HIN.out, HWF.out, by omega, by omega, by omega⟩, by omega, rfl, by simp⟩⟩
  case round =>
    obtain ⟨cur, fr, done, rfl, rfl, hown, hbr, HR⟩ := hrel
    obtain ⟨G, rfl⟩ : ∃ G, G = gk := ⟨_, rfl⟩
    cases cur with
    | none =>
      have HD := Lib.hid (show done = atN n.tk a b at' 0 n by have := HR.out.2.2.1; simpa [atO] using this)
      clear HR
      simp only [ptrO]
      go_wp2_with fail
      rw [Exit.noGoto_ret]
      go_ret
      exact ⟨_, done, rfl, HD.out, hown, hbr⟩
    | some m =>
      obtain ⟨hm1, hm2, hm3, hm4, hm5⟩ := HR.out.1 m rfl
      have hmr : m.In wr := hm1.below hbr
      have hok := Nd.WF.ok m hm2
      have HMR := Lib.hid hmr
      have HM1 := Lib.hid hm1
      have HM2 := Lib.hid hm2
      have HOK := Lib.hid hok
      clear hmr hm1 hm2 hok
      simp only [ptrO, Nd.ptr]
      go_upto_block 1 with (fail)
      apply wp_block
      apply wp_seq_k
      intro _ _
      go_cut [7] (fun v wx => ∃ done' : List Nd, wx.ownsRow w.heap.size 33 1 v done'.length (done'.map Nd.ptr) ∧ Below w.heap.size w wx ∧
        Hid (done' = done ++ (if fr = at' ∧ staysC n.tk a b fr m.tk = true then [m] else [])))
      case first =>
        have hbd : fr ≤ 1000000 ∧ 0 ≤ m.tk ∧ m.tk ≤ 1000000 := by have := HOK.out.tk1; have := HOK.out.tk2; omega
        obtain ⟨hb1, hb2, hb3⟩ := hbd
        have hlen : done.length ≤ 1000001 := by have := HR.out.2.2.2; omega
        clear HR
        by_cases h1 : fr = at'
        · have hq : (fr == at') = true := by simpa using h1
          have H1 := Lib.hid h1
          clear h1
          cases h2 : staysC n.tk a b fr m.tk with
          | true =>
            have H2 := Lib.hid h2
            clear h2
            have hst : ∀ W, Below wr.heap.size wr W → Calls Try.prog 67 #[.pointer (some ⟨g, 0, none⟩), .int .i64 fr, .int .i64 m.tk] W fun e w' => e = .returned (.bool true) ∧ Below W.heap.size W w' := fun W hW => by
              have := HS.out W fr m.tk (hbr.trans (hW.mono hbr.size)) hm3 hb1 hb2 hb3
              rw [H2.out] at this
              exact this
            go_wp2_with (first
              | (go_at_call 24; refine (tokens_some m _ HMR.out).mono ?_; rintro e w2 ⟨rfl, hb4⟩)
              | (go_at_call 67; refine (hst _ hb4).mono ?_; rintro e w3 ⟨rfl, hb5⟩; have hb6 := hb4.trans (hb5.mono hb4.size); have hown3 := ownsRow_of_block hown (fun k hk => hb6.block k (hown.lt k hk).2); have hbr3 := hbr.trans (hb6.mono hbr.size))
              | (at_builtin; refine wpList_push rfl _ _ 45 rfl 33 _ 1 8 info33 Try.underlying45 rfl (by decide) w.heap.size _ _ _ rfl hown3 [.pointer (some ⟨m.b, 0, none⟩)] rfl rfl (by simp [Value.oneCell']) (by omega) (by omega) hbr3.size ?_; intro g4 c4 w4 hown4 hgr4))
            go_meet
            exact ⟨done ++ [m], by simpa [Nd.ptr] using hown4, hbr3.trans hgr4.below, by rw [if_pos ⟨H1.out, H2.out⟩]; rfl⟩
          | false =>
            have H2 := Lib.hid h2
            clear h2
            have hst : ∀ W, Below wr.heap.size wr W → Calls Try.prog 67 #[.pointer (some ⟨g, 0, none⟩), .int .i64 fr, .int .i64 m.tk] W fun e w' => e = .returned (.bool false) ∧ Below W.heap.size W w' := fun W hW => by
              have := HS.out W fr m.tk (hbr.trans (hW.mono hbr.size)) hm3 hb1 hb2 hb3
              rw [H2.out] at this
              exact this
            go_wp2_with (first
              | (go_at_call 24; refine (tokens_some m _ HMR.out).mono ?_; rintro e w2 ⟨rfl, hb4⟩)
              | (go_at_call 67; refine (hst _ hb4).mono ?_; rintro e w3 ⟨rfl, hb5⟩; have hb6 := hb4.trans (hb5.mono hb4.size); have hown3 := ownsRow_of_block hown (fun k hk => hb6.block k (hown.lt k hk).2); have hbr3 := hbr.trans (hb6.mono hbr.size)))
            go_meet
            exact ⟨done, hown3, hbr3, by rw [if_neg (by rw [H2.out]; simp)]; simp [Hid]⟩
        · have hq : (fr == at') = false := by simpa using h1
          have H1 := Lib.hid h1
          clear h1
          go_wp2_with fail
          go_meet
          exact ⟨done, hown, hbr, by rw [if_neg (fun h => H1.out h.1)]; simp [Hid]⟩
      case rest =>
        clear hown hbr
        obtain ⟨done2, hown, hbr, hd2⟩ := hcut
        have HD2L := Lib.hid (show done2.length ≤ done.length + 1 by rw [hd2.out, List.length_append]; split <;> simp)
        have hmc : m.In wc := HM1.out.below hbr
        have hkids := kids_some m wc hmc (by have := HOK.out.ht1; omega) (by have := HOK.out.klen; omega)
        clear hmc
        go_wp2_with (go_at_call 34; refine hkids.mono ?_; rintro e w5 ⟨kv, rfl, ho5, hb5⟩; obtain ⟨ka, kc, rfl, hcell⟩ := ownsRow_any ho5; have HCELL := Lib.hid hcell; clear hcell)
        have hb05 := hbr.trans (hb5.mono hbr.size)
        go_loopg [43, 8] m.kids.length (fun gi iv fv wx => ∃ (i : Nat) (f : Int), iv = .int .i64 i ∧ fv = .int .i64 f ∧ i + gi = m.kids.length ∧ Below w5.heap.size w5 wx ∧
          Hid (done2 ++ atK n.tk a b at' f (m.kids.drop i) = atN n.tk a b at' 0 n ∧ 0 ≤ f ∧ f + sumTk (m.kids.drop i) ≤ n.tk))
        case atStart =>
          refine ⟨0, fr, rfl, rfl, by omega, Below.refl _ _, ?_, hm3, ?_⟩
          · rw [hd2.out, List.drop_zero, List.append_assoc, ← atN_eq]; exact HR.out.2.2.1
          · have := HM2.out.sum.1; rw [List.drop_zero]; omega
        case round =>
          obtain ⟨i, f, rfl, rfl, hi, hbx, HI⟩ := hrel
          have hbwr : Below w.heap.size w wr := hb05.trans (hbx.mono hb05.size)
          have hownr := ownsRow_of_block (ownsRow_of_block hown (fun k hk => hb5.block k (hown.lt k hk).2)) (fun k hk => hbx.block k (Nat.lt_of_lt_of_le (hown.lt k hk).2 hb5.size))
          by_cases hlt : i < m.kids.length
          · have hmem : m.kids[i] ∈ m.kids := List.getElem_mem hlt
            obtain ⟨kd, hkd⟩ : ∃ kd, kd = m.kids[i] := ⟨_, rfl⟩
            rw [← hkd] at hmem
            have hkin : kd.In w := HM1.out.head.2.2 _ hmem
            have hkwf : kd.WF := HM2.out.kid _ hmem
            have hkok := Nd.WF.ok kd hkwf
            have hdrop := drop_cons hlt
            rw [← hkd] at hdrop
            obtain ⟨gc, rfl, hg1, hg2, hcl⟩ := HCELL.out i kd.ptr (by simp [hkd, hlt])
            have hcell : wr.cell? ⟨gc, i, none⟩ = some (.pointer (some ⟨kd.b, 0, none⟩)) := (hbx.cell (p := ⟨gc, i, none⟩) hg2).trans hcl
            have HT := Lib.hid (show ∀ W, Below wr.heap.size wr W → Calls Try.prog 24 #[.pointer (some ⟨kd.b, 0, none⟩)] W fun e w' => e = .returned (.int .i64 kd.tk) ∧ Below wr.heap.size wr w' from
              fun W hW => (tokens_some kd W (hkin.below (hbwr.trans (hW.mono hbwr.size)))).mono fun e w' ⟨h1, h2⟩ => ⟨h1, hW.trans (h2.mono hW.size)⟩)
            have hk1 := hkok.tk1
            have hk2 := hkok.tk2
            have hkh := HOK.out.kht kd hmem
            have hf0 := HI.out.2.1
            have hfs := HI.out.2.2
            rw [hdrop, sumTk_cons] at hfs
            have hs0 : 0 ≤ sumTk (m.kids.drop (i + 1)) := by
              have := (sumTk_ge (l := m.kids.drop (i + 1)) fun k hk => (Nd.WF.ok k (HM2.out.kid k (List.mem_of_mem_drop hk))).tk1).1
              omega
            have HF := Lib.hid hfs
            have HIN2 := Lib.hid hkin
            have HWF2 := Lib.hid hkwf
            have HDR := Lib.hid hdrop
            have HKH := Lib.hid hkh
            have hkl : m.kids.length ≤ 262144 := HOK.out.klen
            have hltI : (i : Int) < (m.kids.length : Int) := by omega
            have hHT1 := HKH.out
            have hk1o := hkok.ht1
            have hf1 : f + kd.tk ≤ n.tk := by omega
            clear hkin hkwf hkok hdrop hkd hmem hcl hkh hfs hs0 hHT1
            by_cases hat : at' < f + kd.tk
            · go_wp2_with (go_at_call 24; refine (HT.out _ (by first | assumption | exact Below.refl _ _)).mono ?_; rintro e w6 ⟨rfl, hb6⟩)
              have hb7 : Below w.heap.size w w6 := hbwr.trans (hb6.mono hbwr.size)
              go_roundg (kd.ht.toNat + 1)
              case measure => have := HKH.out; have := HOK.out.ht1; omega
              case rel =>
                refine ⟨some kd, f, done2, rfl, rfl, ownsRow_of_block hownr (fun k hk => hb6.block k (hownr.lt k hk).2), hb7, ?_, by omega, ?_, ?_⟩
                · intro m' hm'
                  cases hm'
                  exact ⟨HIN2.out, HWF2.out, hf0, hf1, by omega⟩
                · have := HI.out.1
                  rw [HDR.out] at this
                  unfold atK at this
                  rw [if_pos hat] at this
                  exact this
                · have := HR.out.2.2.2
                  have := HD2L.out
                  have := HKH.out
                  omega
            · have hat' : f + kd.tk ≤ at' := by omega
              go_wp2_with (go_at_call 24; refine (HT.out _ (by first | assumption | exact Below.refl _ _)).mono ?_; rintro e w6 ⟨rfl, hb6⟩)
              go_roundg (m.kids.length - (i + 1))
              case measure => omega
              case rel =>
                refine ⟨i + 1, f + kd.tk, by go_num, rfl, by omega, hbx.trans (hb6.mono hbx.size), ?_, by omega, by have := HF.out; omega⟩
                have := HI.out.1
                rw [HDR.out] at this
                unfold atK at this
                rw [if_neg (by omega)] at this
                exact this
          · have hge : ¬ ((i : Int) < (m.kids.length : Int)) := by omega
            go_wp2_with fail
            go_roundg (G - 1)
            case measure => omega
            case rel =>
              refine ⟨none, f, done2, rfl, rfl, hownr, hbwr, (by intro m' hm'; cases hm'), by have := HOK.out.ht1; omega, ?_, ?_⟩
              · have := HI.out.1
                rw [List.drop_of_length_le (by omega)] at this
                unfold atK at this
                simpa [atO] using this
              · have := HR.out.2.2.2
                have := HD2L.out
                have := HOK.out.ht1
                omega
end Go.Proofs.Ytcjpmgfobnaoeaa
