/- A region that draws its order, in a round of a loop over a function: what is shown of it as in a plain frame serves there, too. -/
import Derived.Test.YtcjpmgfobnaoeaaA30
import Derived.Test.YtcjpmgfobnaoeaaA4
import Derived.Maps.OwnIn
import Derived.Deep.RegionHeld3
namespace Go.Proofs.Ytcjpmgfobnaoeaa
open Go.RowKit Go.Shelf

/-- Q where the code goes on, else nothing. -/
def OnNormal (Q : Exit → Act → World → Prop) : Exit → Act → World → Prop
  | .normal, a, w => Q .normal a w
  | _, _, _ => False

/-- A fence that asks nothing. -/
structure Free (F : Fence) : Prop where
  fn : ∀ f, F.fn f
  depth : F.depth = none
  calls : ∀ {n : Nat} {P : Program} {f : FuncId} {args : Array Value} {w : World} {R : Ending → World → Prop}, Calls P f args w R → CallsIn F n P f args w R
  rows : ∀ {n : Nat} {P : Program} {row : String} {args : Array Value} {w : World} {R : Value → World → Prop}, Rows P row args w R → RowsIn F n P row args w R

theorem free_wide : Free Fence.wide := ⟨fun _ => trivial, rfl, fun h => callsIn_wide.2 h, fun h => fun c cs _ => let ⟨v, w', r, s⟩ := h c cs; ⟨v, w', r, stepsIn_wide.2 s⟩⟩
theorem free_round (l : Nat) : Free (Fence.wide.inRound l) := ⟨fun _ => trivial, rfl, fun h => CallsIn.inRound l (callsIn_wide.2 h), fun h => fun c cs _ => let ⟨v, w', r, s⟩ := h c cs; ⟨v, w', r, stepsIn_wide.2 s⟩⟩

theorem ops_free {F : Fence} (hF : Free F) {n : Nat} {P : Program} {ops : Array Oper} {Q : Exit → Act → World → Prop} (hd : ∀ (i : Nat) (o : Oper), ops[i]? = some o → ∀ c, o.op ≠ .defer c) :
    ∀ (l : List Nat) (a : Act) (w : World), wpOps P ops (OnNormal Q) l a w → wpOpsIn F n P ops Q l a w
  | [], a, w, h => h
  | i :: rest, a, w, h => by
    unfold wpOps at h
    unfold wpOpsIn
    cases ho : ops[i]? with
    | none =>
      rw [ho] at h
      exact ops_free hF hd rest a w h
    | some o =>
      rw [ho] at h
      simp only [] at h ⊢
      split
      · rename_i hw
        rw [if_pos hw] at h
        have h1 : Oper.wp P o a w (wpOps P ops (OnNormal Q) rest) (OnNormal Q) := by
          rcases h with h | ⟨_, ⟨a0, w0, hx⟩⟩
          · exact h
          · exact hx.elim
        refine ⟨fun f _ => hF.fn f, ?_⟩
        rw [Oper.semAt_eq _ _ _ (hd i o ho)]
        unfold Oper.wp at h1
        generalize (execOp a.eval o).run P w = r at h1
        cases r with
        | ok x w' =>
          cases x <;> simp only [Oper.upon, Oper.uponIn] at h1 ⊢ <;>
            first
              | exact ops_free hF hd rest _ _ h1
              | exact h1.elim
              | (refine ⟨fun h => by simp [hF.depth] at h, (hF.calls h1).mono fun e w'' he => ?_⟩
                 cases e with
                 | returned v => exact ops_free hF hd rest _ _ he
                 | panicked ch => exact he.elim
                 | outgrown => obtain ⟨a0, w0, hx⟩ := he; exact hx.elim)
              | exact ⟨fun h => by simp [hF.depth] at h, (hF.rows h1).mono fun v w'' he => ops_free hF hd rest _ _ he⟩
        | halt x w' =>
          cases x <;> simp only [Oper.upon, Oper.uponIn] at h1 ⊢ <;> exact h1.elim
      · rename_i hw
        rw [if_neg hw] at h
        exact ⟨fun f _ => hF.fn f, ops_free hF hd rest _ _ h⟩

section
variable {P : Program} {ops : Array Oper} {Q : Exit → Act → World → Prop} {md : Region.Mode} {S : World → Prop}

/-- Does this operation wait for all others? -/
def lastB (md : Region.Mode) (ops : Array Oper) (j : Nat) : Bool := match ops[j]? with
  | some o => (List.range ops.size).all fun i => i == j || o.after.toList.any fun e => Region.binds md e && e.on == i
  | none => false

/-- Whatever may come up next is carried out; behind it S holds, if it was not the last one of all. -/
def AnyL (P : Program) (md : Region.Mode) (ops : Array Oper) (Q : Exit → Act → World → Prop) (S : World → Prop) : Nat → Array Bool → Act → World → Prop
  | 0, listed, a, w => Region.ready md ops listed = [] ∧ Q .normal a w
  | fuel + 1, listed, a, w => (Region.ready md ops listed = [] → Q .normal a w) ∧
    ∀ j ∈ Region.ready md ops listed, wpOp P ops Q j (fun a' w' => (lastB md ops j = true ∨ S w') ∧ AnyL P md ops Q S fuel (listed.setIfInBounds j true) a' w') a w

theorem AnyL.any : ∀ (fuel : Nat) (listed : Array Bool) (a : Act) (w : World), AnyL P md ops Q S fuel listed a w → wpAny P md ops Q fuel listed a w
  | 0, _, _, _, h => h
  | fuel + 1, _, _, _, h => ⟨h.1, fun j hj => wpOp_mono (fun a' w' k => AnyL.any fuel _ a' w' k.2) (h.2 j hj)⟩

theorem not_last {i j : Nat} {o oi : Oper} (hi : ops[i]? = some oi) (hj : ops[j]? = some o) (hne : j ≠ i) (hno : ∀ e ∈ o.after, Region.binds md e = true → e.on ≠ i) : lastB md ops j = false := by
  cases hl : lastB md ops j with
  | false => rfl
  | true =>
    unfold lastB at hl
    rw [hj] at hl
    have hlt : i < ops.size := (Array.getElem?_eq_some_iff.1 hi).1
    have h1 := List.all_eq_true.1 hl i (List.mem_range.2 hlt)
    rw [Bool.or_eq_true] at h1
    rcases h1 with h1 | h1
    · exact absurd (by simpa using h1) (Ne.symm hne)
    · obtain ⟨e, he, h2⟩ := List.any_eq_true.1 h1
      rw [Bool.and_eq_true] at h2
      exact absurd (by simpa using h2.2) (hno e (by simpa using he) h2.1)

theorem AnyL.first {i : Nat} {oi : Oper} {v : Value} (hi : ops[i]? = some oi) (hsel : ∀ (j : Nat) (o : Oper) cs b, ops[j]? = some o → o.op ≠ .select cs b)
    (hQ : ∀ c a w, Q (.panic c) (a.put oi.dst v) w → Q (.panic c) a w) : ∀ (fuel : Nat) (listed : Array Bool) (a : Act) (w : World),
      (∀ j oj, ops[j]? = some oj → j ≠ i → listed.getD j true = false → (∀ e ∈ oj.after, Region.binds md e = true → e.on ≠ i) → oi.apart ops oj = true) →
      i ∈ Region.ready md ops listed → YieldsIf P ops S oi v a → S w → AnyL P md ops Q S fuel (listed.setIfInBounds i true) (a.put oi.dst v) w → AnyL P md ops Q S (fuel + 1) listed a w := by
  intro fuel
  induction fuel with
  | zero =>
    intro listed a w _ hr hy hS H
    refine ⟨fun h => (by rw [h] at hr; cases hr), fun j hj => ?_⟩
    by_cases e : j = i
    · subst e
      exact hy.wpOp hi hS ⟨.inr hS, H⟩
    · have h := ready_mono hj e
      rw [H.1] at h
      cases h
  | succ fuel ih =>
    intro listed a w hfree hr hy hS H
    refine ⟨fun h => (by rw [h] at hr; cases hr), fun j hj => ?_⟩
    by_cases e : j = i
    · subst e
      exact hy.wpOp hi hS ⟨.inr hS, H⟩
    obtain ⟨hun, oj, hoj, hall⟩ := mem_ready.1 hj
    have hno : ∀ x ∈ oj.after, Region.binds md x = true → x.on ≠ i := fun x hx hb hxi => by
      have k1 := hall x hx hb
      have k0 := (mem_ready.1 hr).1
      rw [hxi] at k1
      rcases Nat.lt_or_ge i listed.size with hs | hs
      · simp [hs] at k0 k1
        rw [k0] at k1
        cases k1
      · simp [Array.getElem?_eq_none hs] at k1
    have hnl := not_last hi hoj e hno
    have h2 := wpOp_putIf hoj (hfree j oj hoj e hun hno) (fun cs b => hsel i oi cs b hi) (fun cs b => hsel j oj cs b hoj) hQ hy (H.2 j (ready_mono hj e))
    refine wpOp_mono (fun a' w' k => ?_) h2
    obtain ⟨k1, k2, k3⟩ := k
    have hS' : S w' := by
      rcases k2 with k2 | k2
      · rw [hnl] at k2; cases k2
      · exact k2
    refine ⟨.inr hS', ih (listed.setIfInBounds j true) a' w' ?_ (ready_mono hr (Ne.symm e)) k1 hS' ?_⟩
    · intro k ok hk hki hku hkn
      refine hfree k ok hk hki ?_ hkn
      by_cases hjk : j = k
      · subst hjk; exact hun
      · rw [getD_set_ne true hjk] at hku; exact hku
    · rw [Array.setIfInBounds_comm _ _ e]
      exact k3

/-- One that may come up yields its value wherever S holds: it is taken first. -/
theorem AnyL.take {i : Nat} {oi : Oper} {v : Value} {fuel : Nat} {listed : Array Bool} {a : Act} {w : World} (hi : ops[i]? = some oi) (hs : Region.noSelect ops = true) (hf : Region.free md ops listed i = true)
    (hr : (Region.ready md ops listed).contains i = true) (hQ : ∀ c a w, Q (.panic c) (a.put oi.dst v) w → Q (.panic c) a w) (hy : YieldsIf P ops S oi v a) (hS : S w)
    (h : AnyL P md ops Q S fuel (listed.setIfInBounds i true) (a.put oi.dst v) w) : AnyL P md ops Q S (fuel + 1) listed a w :=
  AnyL.first hi (Region.noSelect_spec hs) hQ fuel listed a w (Region.free_spec hi hf) (by simpa using hr) hy hS h

/-- One alone may come up: it is carried out. -/
theorem AnyL.step {i : Nat} {o : Oper} {fuel : Nat} {listed : Array Bool} {a : Act} {w : World} (hr : Region.ready md ops listed = [i]) (ho : ops[i]? = some o)
    (h : ∀ K' : Act → World → Prop, Shut (∀ a w, (lastB md ops i = true ∨ S w) → AnyL P md ops Q S fuel (listed.setIfInBounds i true) a w → K' a w) → if Region.wanted o (yielded ops a.tmps) = true then Oper.wp P o a w K' Q else K' (a.put o.dst undef) w) :
    AnyL P md ops Q S (fuel + 1) listed a w := by
  refine ⟨fun h0 => (by rw [hr] at h0; cases h0), fun j hj => ?_⟩
  rw [hr] at hj
  obtain rfl := List.mem_singleton.1 hj
  exact wpOp_step ho fun K' hK => h K' fun a w hS hW => hK a w ⟨hS, hW⟩

theorem AnyL.done {listed : Array Bool} {a : Act} {w : World} (hr : Region.ready md ops listed = []) (h : Q .normal a w) : ∀ fuel, AnyL P md ops Q S fuel listed a w
  | 0 => ⟨hr, h⟩
  | _ + 1 => ⟨fun _ => h, by rw [hr]; simp⟩
end

theorem wpIn_region_free {F : Fence} (hF : Free F) {n : Nat} {P : Program} {id : Nat} {l : List Oper} {Q : Exit → Act → World → Prop} {a : Act} {w : World} {S : World → Prop} (hm : P.follows .mixedOrders = true)
    (hd : l.all (fun o => match o.op with | .defer _ => false | _ => true) = true) (hS : S w.drew) (N : Nat) (hN : l.length = N)
    (h : S w.drew → AnyL P .any l.toArray (OnNormal Q) S N (List.replicate N false).toArray a w.drew) : (Code.region id l.toArray true).wpIn F n P Q a w := by
  refine wpIn_region_draw fun t => ?_
  simp only [Region.schedule, hm, Bool.true_or, if_true]
  subst hN
  refine ops_free hF ?_ _ _ _ (wpAny_sound _ t _ a _ (AnyL.any _ _ _ _ (by simpa using h hS)))
  intro i o ho c hc
  have hmem : o ∈ l := by
    rw [List.getElem?_toArray] at ho
    exact List.mem_of_getElem? ho
  have := List.all_eq_true.1 hd o hmem
  rw [hc] at this
  simp at this

/-- 'append(s, x)' in a round: s a row of the call's own, x a literal that was just laid. -/
theorem wpListIn_push {F : Fence} {nF : Nat} {P : Program} {ops : Array Oper} {rest : List Oper} {o : Oper} {a : Act} {Q : Exit → Act → World → Prop} {w : World} (hgd : o.guard = none) (s x : Operand) (T : TypeId)
    (ho : o.op = .call { callee := .builtin .append, args := #[s, x], argTypes := #[T, T] }) (E : TypeId) (z : Value) (sz bytes : Nat)
    (hinfo : (P.info? E).map (fun i => (i.zero, i.size, i.bytes)) = some (some z, sz, bytes)) (ht : P.underlying T = some (.slice E)) (hzs : z.cells.size = sz) (hsz : 0 < sz)
    (base : Nat) (v : Value) (n : Nat) (xs : List Value) (hs : a.eval s = v) (hown : w.ownsRow base E sz v n xs) (us : List Value) (hx : a.eval x = .slice (some ⟨w.heap.size, 0, none⟩) 1 1)
    (hus : us.length = 1 * sz) (h1 : ∀ u ∈ us, u.oneCell' = true) (hm : n + 1 ≤ 140737488355328) (hn : (n + 1) * bytes ≤ 140737488355328) (hbase : base ≤ w.heap.size)
    (h : ∀ g c w', w'.ownsRow base E sz (.slice (some ⟨g, 0, none⟩) (n + 1) c) (n + 1) (xs ++ us) → (w.alloc (.cells us.toArray E)).grownBy w' v.ownBlock → (v.ownBlock = some g ∨ g = w.heap.size + 1) →
      wpListIn F nF P ops Q rest (a.put o.dst (.slice (some ⟨g, 0, none⟩) (n + 1) c)) w') :
    wpListIn F nF P ops Q (o :: rest) a (w.alloc (.cells us.toArray E)) := by
  obtain ⟨i0, hi, hz0, hz1, hz2⟩ := info_parts hinfo
  refine wpListIn_append_own_at _ hgd s x T ho base E i0 z sz bytes ht hi hz0 hz1 hz2 hzs hsz v n xs hs (hown.alloc _) ⟨w.heap.size, 0, none⟩ 1 1 us hx hus (news_lit w us E) h1 (by unfold maxLen; omega) hn (by simp; omega) ?_
  intro v' w' h2 h3 _ h4
  rcases h2.2 with ⟨_, h0⟩ | ⟨g, c, cur, rfl, _⟩
  · omega
  · refine h g c w' h2 h3 ?_
    rcases h4 with h4 | h4
    · exact .inl h4.symm
    · exact .inr (by simpa [Value.ownBlock] using h4)

/-- 'append(s, x)' at an operation: x a literal that lies in block B. -/
theorem wp_push {P : Program} {o : Oper} {a : Act} {K : Act → World → Prop} {Q : Exit → Act → World → Prop} {w : World} (s x : Operand) (T : TypeId)
    (ho : o.op = .call { callee := .builtin .append, args := #[s, x], argTypes := #[T, T] }) (E : TypeId) (z : Value) (sz bytes : Nat)
    (hinfo : (P.info? E).map (fun i => (i.zero, i.size, i.bytes)) = some (some z, sz, bytes)) (ht : P.underlying T = some (.slice E)) (hzs : z.cells.size = sz) (hsz : 0 < sz)
    (base : Nat) (v : Value) (n : Nat) (xs : List Value) (hs : a.eval s = v) (hown : w.ownsRow base E sz v n xs) (B : Nat) (us : List Value) (hx : a.eval x = .slice (some ⟨B, 0, none⟩) 1 1)
    (hB : w.heap[B]? = some (.cells us.toArray E (0, 0)))
    (hus : us.length = 1 * sz) (h1 : ∀ u ∈ us, u.oneCell' = true) (hm : n + 1 ≤ 140737488355328) (hn : (n + 1) * bytes ≤ 140737488355328) (hbase : base ≤ w.heap.size)
    (h : ∀ g c w', w'.ownsRow base E sz (.slice (some ⟨g, 0, none⟩) (n + 1) c) (n + 1) (xs ++ us) → Grew base v w w' g → K (a.put o.dst (.slice (some ⟨g, 0, none⟩) (n + 1) c)) w') :
    o.wp P a w K Q := by
  obtain ⟨i0, hi, hz0, hz1, hz2⟩ := info_parts hinfo
  refine wp_append_lies w s x T ho base E i0 z sz bytes ht hi hz0 hz1 hz2 hzs hsz v n xs hs hown ⟨B, 0, none⟩ 1 1 us hx hus (World.news_of_block (cs := us.toArray) hB) h1 (by omega) (by unfold maxLen; omega) hn hbase _ rfl ?_
  intro g c w' h1' h2 h3 h4
  exact h g c w' h1' (grew_of hown h1' h2 h3 h4 hbase)

theorem row_block {w : World} {b e sz n : Nat} {v : Value} {xs : List Value} (h : w.ownsRow b e sz v n xs) : ∀ k, v.ownBlock = some k → b ≤ k ∧ ∃ c, w.heap[k]? = some (.cells c e (0, 0)) := by
  intro k hk
  rcases h.2 with ⟨rfl, _⟩ | ⟨g, c, cur, rfl, hb, hg, _⟩
  · simp [Value.ownBlock] at hk
  · obtain rfl : g = k := by simpa [Value.ownBlock] using hk
    exact ⟨hb, cur, hg⟩

theorem KT.grew {T : List TypeId} {n₀ : Nat} {A W W' : World} {v : Value} {g : Nat} {b e sz n : Nat} {xs : List Value} (h : KT T n₀ A W) (hg : Grew n₀ v W W' g) (hr : W.ownsRow b e sz v n xs) (he : e ∉ T) : KT T n₀ A W' := by
  refine h.trans ⟨hg.below, fun k o hk ho => ?_⟩
  refine (hg.far k (Array.getElem?_eq_some_iff.1 hk).1 ?_).trans hk
  intro e1
  obtain ⟨_, c, h2⟩ := row_block hr k e1.symm
  rw [h2] at hk
  cases hk
  rcases ho with ho | ho
  · exact absurd ho (InT.not he)
  · simp [Obj.isCells] at ho

end Go.Proofs.Ytcjpmgfobnaoeaa
