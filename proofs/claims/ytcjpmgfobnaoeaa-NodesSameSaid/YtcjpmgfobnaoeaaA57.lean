/- like: the walk (84, 87, 88). -/
import Derived.Test.YtcjpmgfobnaoeaaA54
namespace Go.Proofs.Ytcjpmgfobnaoeaa
open Go.RowKit
attribute [local irreducible] Calls

theorem eqA85 (d : Nat) (w : World) (x0 y0 x1 y1 x2 y2 x3 y3 : Int) : (Op.equalIn (d + 2) 85 (.agg #[.int .i64 x0, .int .i64 x1, .int .i64 x2, .int .i64 x3]) (.agg #[.int .i64 y0, .int .i64 y1, .int .i64 y2, .int .i64 y3])).run Try.prog w = .ok (x0 == y0 && (x1 == y1 && (x2 == y2 && (x3 == y3 && true)))) w := by
  refine eqF_struct Try.underlying85 (by kernel_rfl) ?_
  refine eqF (by rfl) (by go_simp; rfl) (by go_simp; rfl) (by go_simp) ?_
  refine eqF (by rfl) (by go_simp; rfl) (by go_simp; rfl) (by go_simp) ?_
  refine eqF (by rfl) (by go_simp; rfl) (by go_simp; rfl) (by go_simp) ?_
  exact eqF (by rfl) (by go_simp; rfl) (by go_simp; rfl) (by go_simp) eqF_nil
theorem neq85 (w : World) (x0 y0 x1 y1 x2 y2 x3 y3 : Int) : (binOp .neq 85 (.agg #[.int .i64 x0, .int .i64 x1, .int .i64 x2, .int .i64 x3]) (.agg #[.int .i64 y0, .int .i64 y1, .int .i64 y2, .int .i64 y3])).run Try.prog w = .ok (.bool (!(x0 == y0 && (x1 == y1 && (x2 == y2 && (x3 == y3)))))) w := by
  have := ne_of_in (by decide) fun d => eqA85 d w x0 y0 x1 y1 x2 y2 x3 y3
  simpa using this

theorem like1_call (p q : Value) (st r : Bool) (bx : Nat) (w : World) (hb : w.heap[bx]? = some (.cells #[.bool st] 4 (0, 0))) (h : Calls Try.prog 84 #[p, q, .bool st] w fun e w' => e = .returned (.bool r) ∧ Below w.heap.size w w') :
    Calls Try.prog 88 #[p, q, .pointer (some ⟨bx, 0, none⟩)] w fun e w' => e = .returned (.bool r) ∧ Below w.heap.size w w' := by
  have c0 : w.cell? ⟨bx, 0, none⟩ = some (.bool st) := cell_of_heap hb rfl
  have H := Lib.hid h
  clear h hb
  go_enter Try.func88, Try.ntmps88
  go_wp2_with (go_at_call 84; refine H.out.mono ?_; rintro e w1 ⟨rfl, hb⟩)
  go_ret
  exact ⟨rfl, hb⟩

theorem NdsLike_step {st : Bool} {l m : List Nd} {i : Nat} (h : i < l.length) (h' : i < m.length) : NdsLike st (l.drop i) (m.drop i) = (l[i].like st m[i] && NdsLike st (l.drop (i + 1)) (m.drop (i + 1))) := by
  rw [drop_cons h, drop_cons h']
  conv => lhs; unfold NdsLike
theorem NdsLike_len {st : Bool} {l m : List Nd} (h : l.length ≠ m.length) : NdsLike st l m = false := by
  cases e : NdsLike st l m with
  | false => rfl
  | true => exact absurd ((ndsLike_iff st l m).1 e).1 h

set_option maxRecDepth 100000 in
set_option maxHeartbeats 4000000 in
theorem eqKids_call (ns ms : List Nd) (st : Bool) (bx : Nat) (v u : Value) (w : World) (hv : PtrsAt w v ns) (hu : PtrsAt w u ms) (hb : w.heap[bx]? = some (.cells #[.bool st] 4 (0, 0))) (hl : ns.length ≤ 1000000)
    (hc : ∀ i (h : i < ns.length) (h' : i < ms.length) W, Below w.heap.size w W → Calls Try.prog 84 #[ns[i].ptr, ms[i].ptr, .bool st] W fun e w' => e = .returned (.bool (ns[i].like st ms[i])) ∧ Below W.heap.size W w') :
    Calls Try.prog 87 #[v, u, .func (.func 88) #[] #[.pointer (some ⟨bx, 0, none⟩)]] w fun e w' => e = .returned (.bool (NdsLike st ns ms)) ∧ Below w.heap.size w w' := by
  obtain ⟨a, c, rfl, hx⟩ := hv
  obtain ⟨a2, c2, rfl, hy⟩ := hu
  have HX := Lib.hid hx
  have HY := Lib.hid hy
  have HC := Lib.hid hc
  have HB := Lib.hid hb
  clear hx hy hc hb
  go_enter Try.func87, Try.ntmps87
  by_cases e3 : ns.length = ms.length
  case neg =>
    have q3 : ((ns.length : Int) != (ms.length : Int)) = true := bne_iff_ne.2 (by omega)
    have HR := Lib.hid (NdsLike_len (st := st) e3)
    clear e3
    go_wp2_with fail
    go_ret
    exact ⟨ret_bool HR.out.symm, Below.refl _ _⟩
  case pos =>
  have q3 : ((ns.length : Int) != (ms.length : Int)) = false := by rw [show (ns.length : Int) = (ms.length : Int) by omega]; exact bne_self_eq_false _
  have E3 := Lib.hid e3
  clear e3
  go_wp2_with fail
  clear q3
  go_loopw [17] (fun iv wx => ∃ i : Nat, iv = .int .i64 i ∧ i ≤ ns.length ∧ Below w.heap.size w wx ∧ Hid (NdsLike st (ns.drop i) (ms.drop i) = NdsLike st ns ms)) (fun iv _ => ns.length - (intOf iv).toNat)
  case atStart => exact ⟨0, rfl, by omega, Below.refl _ _, by show _ = _; rw [List.drop_zero, List.drop_zero]⟩
  case round =>
    obtain ⟨i, rfl, hi, hbr, HI⟩ := hrel
    by_cases hlt : i < ns.length
    · have hlt2 : i < ms.length := by have := E3.out; omega
      obtain ⟨b1, o1, rfl, k1⟩ := HX.out i hlt
      obtain ⟨b2, o2, rfl, k2⟩ := HY.out i hlt2
      have hstep := NdsLike_step (st := st) hlt hlt2
      have hcall := HC.out i hlt hlt2 wr hbr
      obtain ⟨kd, hkd⟩ : ∃ kd, ns[i] = kd := ⟨_, rfl⟩
      obtain ⟨ku, hku⟩ : ∃ ku, ms[i] = ku := ⟨_, rfl⟩
      rw [hkd] at hstep k1 hcall
      rw [hku] at hstep k2 hcall
      have f1 := (hbr.cell (p := ⟨b1, _, none⟩) (World.block_lt_of_cell? _ _ k1)).trans k1
      have f2 := (hbr.cell (p := ⟨b2, _, none⟩) (World.block_lt_of_cell? _ _ k2)).trans k2
      have HI' := Lib.hid (HI.out.symm.trans hstep)
      have hbx := (hbr.block _ (Array.getElem?_eq_some_iff.1 HB.out).1).trans HB.out
      have HC1 := Lib.hid (like1_call _ _ _ _ _ _ hbx hcall)
      unfold Nd.ptr at HC1 f1 f2
      have hltI : (i : Int) < (ns.length : Int) := by omega
      have hltI2 : (i : Int) < (ms.length : Int) := by omega
      have hi0 : (0 : Int) ≤ (i : Int) := Int.natCast_nonneg _
      have hwi : IntKind.i64.wrap ((i : Int) + 1) = ((i + 1 : Nat) : Int) := by rw [IntKind.wrap_i64]; omega
      clear hcall hstep k1 k2 hkd hku HI hbx
      generalize kd.like st ku = r at *
      cases r with
      | true =>
        go_wp2_with (go_at_call 88; refine HC1.out.mono ?_; rintro e w1 ⟨rfl, hb1⟩)
        go_roundw
        case rel => exact ⟨i + 1, by go_num, by omega, hbr.trans (hb1.mono hbr.size), by show _ = _; have := HI'.out; rw [Bool.true_and] at this; exact this.symm⟩
        case measure => simp [intOf]; omega
      | false =>
        go_wp2_with (go_at_call 88; refine HC1.out.mono ?_; rintro e w1 ⟨rfl, hb1⟩)
        go_ret
        exact ⟨ret_bool (by have := HI'.out; rw [Bool.false_and] at this; exact this.symm), hbr.trans (hb1.mono hbr.size)⟩
    · have hge : ¬ ((i : Int) < (ns.length : Int)) := by omega
      have HR := Lib.hid (show NdsLike st ns ms = true by
        have h1 := HI.out
        rw [List.drop_of_length_le (by omega), List.drop_of_length_le (by have := E3.out; omega)] at h1
        rw [← h1]; rfl)
      go_wp2_with fail
      go_ret
      exact ⟨ret_bool HR.out.symm, hbr⟩

end Go.Proofs.Ytcjpmgfobnaoeaa
