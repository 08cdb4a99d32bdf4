/- slices.Backward at kids of a node: what it gives. -/
import Derived.Test.YtcjpmgfobnaoeaaA30
namespace Go.Proofs.Ytcjpmgfobnaoeaa
open Go.RowKit Go.Shelf
attribute [local go_sem] Oper.semAt_some

/-- The numbers below m, the greatest one first. -/
def down : Nat → List Nat
  | 0 => []
  | m + 1 => m :: down m
theorem down_len : ∀ m, (down m).length = m
  | 0 => rfl
  | m + 1 => by simp [down, down_len m]
theorem down_at {x : Nat} {rest : List Nat} : ∀ {m : Nat} {pre : List Nat}, down m = pre ++ x :: rest → rest = down x ∧ pre.length + x + 1 = m
  | 0, [], h => by simp [down] at h
  | 0, _ :: _, h => by simp [down] at h
  | m + 1, [], h => by
    simp only [down, List.nil_append, List.cons.injEq] at h
    obtain ⟨rfl, rfl⟩ := h
    simp
  | m + 1, p :: pre, h => by
    simp only [down, List.cons_append, List.cons.injEq] at h
    obtain ⟨h1, h2⟩ := down_at h.2
    exact ⟨h1, by simp; omega⟩

theorem all_call (p : Option Addr) (w : World) : Calls Try.prog 69 #[.pointer p] w fun e w' => e = .returned (.func (.func 85) #[] #[.pointer (some ⟨w.heap.size, 0, none⟩)]) ∧ w' = w.alloc (.cells #[.pointer p] 33) := by
  go_enter Try.func69, Try.ntmps69
  go_wp2
  go_ret
  exact ⟨rfl, rfl⟩
theorem back_call (A : Option Addr) (n c : Nat) (w : World) : Calls Try.prog 86 #[.slice A n c] w fun e w' => e = .returned (.func (.func 89) #[] #[.pointer (some ⟨w.heap.size, 0, none⟩)]) ∧ w' = w.alloc (.cells #[.slice A n c] 45) := by
  go_enter Try.func86, Try.ntmps86
  go_wp2
  go_ret
  exact ⟨rfl, rfl⟩

/-- The kids that a row holds. -/
structure KidsAt (n₀ : Nat) (w : World) (ks : Value) (kids : List Nd) : Prop where
  val : ∃ A c, ks = .slice A kids.length c
  get : ∀ i (h : i < kids.length), ∃ g c, ks = .slice (some ⟨g, 0, none⟩) kids.length c ∧ g < n₀ ∧ w.cell? ⟨g, i, none⟩ = some (kids[i]).ptr

/-- The pointer to the kid with a number. -/
def kp (kids : List Nd) (i : Nat) : Value := match kids[i]? with
  | some k => k.ptr
  | none => .pointer none
theorem kp_at {kids : List Nd} {i : Nat} (h : i < kids.length) : kp kids i = (kids[i]).ptr := by
  unfold kp
  rw [List.getElem?_eq_getElem h]

theorem back1_gives (kids : List Nd) (ks : Value) (bb n₀ : Nat) (w : World) (hl : kids.length ≤ 1000000) (hb : w.heap[bb]? = some (.cells #[ks] 45 (0, 0))) (hk : KidsAt n₀ w ks kids) (hn : n₀ ≤ w.heap.size) :
    ∀ n, GivesT n Try.prog 89 #[.pointer (some ⟨bb, 0, none⟩)] (fun i : Nat => #[.int .i64 i, kp kids i]) [45] n₀ (down kids.length) w := by
  intro n l J W hW hJ hY h0
  have hb' : W.heap[bb]? = some (.cells #[ks] 45 (0, 0)) := (hW.block _ (Array.getElem?_eq_some_iff.1 hb).1).trans hb
  have hbn : Below n₀ w W := hW.mono hn
  have c0 : W.cell? ⟨bb, 0, none⟩ = some ks := cell_of_heap hb' rfl
  obtain ⟨A, c, hv⟩ := hk.val
  have HB := Lib.hid hb'
  have HY := Lib.hid hY
  have HK := Lib.hid hk
  have HJ := Lib.hid hJ
  rw [hv] at c0
  clear hb hb' hW hY hk hJ
  refine callsIn_of_wp Try.func89 rfl trivial ?_ rfl
  simp only [Try.ntmps89, List.size_toArray, List.length_cons, List.length_nil, Nat.reduceAdd, Nat.reduceSub, Array.replicate_succ, Array.replicate_zero, List.push_toArray, List.append_toArray, List.nil_append, List.cons_append]
  gi_wp2
  gi_loopw [3] (fun v wr => ∃ (i : Nat) (pre : List Nat), v = .int .i64 ((i : Int) - 1) ∧ i ≤ 1000000 ∧ wr.heap[bb]? = some (.cells #[ks] 45 (0, 0)) ∧ Below n₀ w wr ∧ Hid (down kids.length = pre ++ down i ∧ J pre wr)) (fun v _ => (intOf v + 1).toNat)
  case atStart => exact ⟨kids.length, [], rfl, hl, HB.out, hbn, rfl, h0⟩
  case round =>
    obtain ⟨i, pre, rfl, hi, hbx, hbw, HI⟩ := hrel
    have d0 : wr.cell? ⟨bb, 0, none⟩ = some (.slice A kids.length c) := by rw [← hv]; exact cell_of_heap hbx rfl
    rcases i with _ | i
    · have HI' := Lib.hid (show J (down kids.length) wr by
        have h := HI.out
        rw [show down 0 = [] from rfl, List.append_nil] at h
        rw [h.1]
        exact h.2)
      clear HI
      gi_wp2
      go_end0
      exact ⟨⟨_, rfl⟩, HI'.out⟩
    · have hlt : i < kids.length := by
        have h := congrArg List.length HI.out.1
        rw [List.length_append, down_len, down_len] at h
        omega
      obtain ⟨g, c', e1, hg, hc⟩ := HK.out.get i hlt
      rw [hv] at e1
      injection e1 with e1 _ e2
      subst e1 e2
      have hc' : wr.cell? ⟨g, i, none⟩ = some (kids[i]).ptr := (hbw.cell (p := ⟨g, i, none⟩) hg).trans hc
      rw [← kp_at hlt] at hc'
      obtain ⟨fn, tmps, assign, body, hy, hR⟩ := HY.out pre i (down i) wr HI.out.1 HI.out.2 (n - 1)
      have hI : ((i + 1 : Nat) : Int) - 1 = (i : Int) := by omega
      have h0I : (0 : Int) ≤ (i : Int) := Int.natCast_nonneg _
      have hltI : (i : Int) < (kids.length : Int) := by omega
      have hwr : IntKind.i64.wrap ((i : Int) - 1) = (i : Int) - 1 := by rw [IntKind.wrap_i64]; omega
      have HR := Lib.hid hR
      have HX := Lib.hid hbx
      clear hR hbx
      rw [hI]
      gi_wp2
      refine ⟨fun h => by simp [Fence.wide] at h, HR.out.mono ?_⟩
      rintro e W3 ⟨rfl, hJ3, hk3⟩
      gi_wp2
      go_roundw
      case rel => exact ⟨i, pre ++ [i], rfl, by omega, hk3.keep HX.out (by simp), hbw.trans hk3.below, by rw [List.append_assoc]; exact HI.out.1, hJ3⟩
      case measure => simp [intOf]

end Go.Proofs.Ytcjpmgfobnaoeaa
