/- Two trees that are the same: what SameTree, like and stamped compute, and how these hang together. Plain. -/
import Derived.Test.YtcjpmgfobnaoeaaA49
namespace Go.Proofs.Ytcjpmgfobnaoeaa

mutual
/-- The tree without bytes. -/
def Nd.tree : Nd → Tr
  | .mk _ _ _ _ _ sy pr _ _ _ _ _ kids => .mk sy pr (NdsTree kids)
def NdsTree : List Nd → List Tr
  | [] => []
  | n :: ns => n.tree :: NdsTree ns
end
theorem NdsTree_eq : ∀ l : List Nd, NdsTree l = l.map Nd.tree
  | [] => rfl
  | n :: ns => by unfold NdsTree; rw [NdsTree_eq ns]; rfl
theorem Nd.tree_eq (n : Nd) : n.tree = .mk n.sy n.pr (n.kids.map Nd.tree) := by cases n; unfold Nd.tree; rw [NdsTree_eq]; rfl
theorem Nd.tree_sy (n : Nd) : n.tree.sy = n.sy := by rw [n.tree_eq]; rfl
theorem Nd.tree_pr (n : Nd) : n.tree.pr = n.pr := by rw [n.tree_eq]; rfl
theorem Nd.tree_kids (n : Nd) : n.tree.kids = n.kids.map Nd.tree := by rw [n.tree_eq]; rfl

mutual
/-- SameTree. -/
def Tr.same : Tr → Tr → Bool
  | .mk s p k, .mk s' p' k' => s == s' && (p == p' && TrsSame k k')
def TrsSame : List Tr → List Tr → Bool
  | [], [] => true
  | t :: ts, u :: us => t.same u && TrsSame ts us
  | [], _ :: _ => false
  | _ :: _, [] => false
end
theorem Tr.same_eq (t u : Tr) : t.same u = (t.sy == u.sy && (t.pr == u.pr && TrsSame t.kids u.kids)) := by cases t; cases u; unfold Tr.same; rfl
mutual
/-- like. -/
def Nd.like (st : Bool) : Nd → Nd → Bool
  | .mk _ tk bt ld ht sy pr wd s lk fm _ k, .mk _ tk' bt' ld' ht' sy' pr' wd' s' lk' fm' _ k' =>
    (tk == tk' && (bt == bt' && (ld == ld' && ht == ht'))) && (sy == sy' && (pr == pr' && (wd == wd' && ((!st || (s == s' && (lk == lk' && fm == fm'))) && NdsLike st k k'))))
def NdsLike (st : Bool) : List Nd → List Nd → Bool
  | [], [] => true
  | t :: ts, u :: us => t.like st u && NdsLike st ts us
  | [], _ :: _ => false
  | _ :: _, [] => false
end
theorem Nd.like_eq (st : Bool) (n m : Nd) : n.like st m = ((n.tk == m.tk && (n.bt == m.bt && (n.ld == m.ld && n.ht == m.ht))) && (n.sy == m.sy && (n.pr == m.pr && (n.wd == m.wd && ((!st || (n.st == m.st && (n.lk == m.lk && n.fm == m.fm))) && NdsLike st n.kids m.kids))))) := by
  cases n; cases m; unfold Nd.like; rfl
mutual
/-- stamped. -/
def Nd.stamped : Nd → Nd → Bool
  | .mk _ _ _ _ _ _ _ _ s lk fm _ k, .mk _ _ _ _ _ _ _ _ s' lk' fm' _ k' => (s == s' && (lk == lk' && fm == fm')) && NdsStamped k k'
def NdsStamped : List Nd → List Nd → Bool
  | [], [] => true
  | t :: ts, u :: us => t.stamped u && NdsStamped ts us
  | [], _ :: _ => false
  | _ :: _, [] => false
end
theorem Nd.stamped_eq (n m : Nd) : n.stamped m = ((n.st == m.st && (n.lk == m.lk && n.fm == m.fm)) && NdsStamped n.kids m.kids) := by cases n; cases m; unfold Nd.stamped; rfl

/-! Lists: pairwise. -/
theorem trsSame_iff : ∀ l m : List Tr, TrsSame l m = true ↔ l.length = m.length ∧ ∀ i (h : i < l.length) (h' : i < m.length), l[i].same m[i] = true
  | [], [] => by simp [TrsSame]
  | [], u :: us => by simp [TrsSame]
  | t :: ts, [] => by simp [TrsSame]
  | t :: ts, u :: us => by
    unfold TrsSame
    rw [Bool.and_eq_true, trsSame_iff ts us]
    constructor
    · rintro ⟨h1, h2, h3⟩
      refine ⟨by simp [h2], fun i h h' => ?_⟩
      cases i with
      | zero => exact h1
      | succ i => exact h3 i (by simpa using h) (by simpa using h')
    · rintro ⟨h1, h2⟩
      exact ⟨h2 0 (by simp) (by simp), by simpa using h1, fun i h h' => h2 (i + 1) (by simpa using h) (by simpa using h')⟩
theorem ndsLike_iff (st : Bool) : ∀ l m : List Nd, NdsLike st l m = true ↔ l.length = m.length ∧ ∀ i (h : i < l.length) (h' : i < m.length), l[i].like st m[i] = true
  | [], [] => by simp [NdsLike]
  | [], u :: us => by simp [NdsLike]
  | t :: ts, [] => by simp [NdsLike]
  | t :: ts, u :: us => by
    unfold NdsLike
    rw [Bool.and_eq_true, ndsLike_iff st ts us]
    constructor
    · rintro ⟨h1, h2, h3⟩
      refine ⟨by simp [h2], fun i h h' => ?_⟩
      cases i with
      | zero => exact h1
      | succ i => exact h3 i (by simpa using h) (by simpa using h')
    · rintro ⟨h1, h2⟩
      exact ⟨h2 0 (by simp) (by simp), by simpa using h1, fun i h h' => h2 (i + 1) (by simpa using h) (by simpa using h')⟩
theorem ndsStamped_iff : ∀ l m : List Nd, NdsStamped l m = true ↔ l.length = m.length ∧ ∀ i (h : i < l.length) (h' : i < m.length), l[i].stamped m[i] = true
  | [], [] => by simp [NdsStamped]
  | [], u :: us => by simp [NdsStamped]
  | t :: ts, [] => by simp [NdsStamped]
  | t :: ts, u :: us => by
    unfold NdsStamped
    rw [Bool.and_eq_true, ndsStamped_iff ts us]
    constructor
    · rintro ⟨h1, h2, h3⟩
      refine ⟨by simp [h2], fun i h h' => ?_⟩
      cases i with
      | zero => exact h1
      | succ i => exact h3 i (by simpa using h) (by simpa using h')
    · rintro ⟨h1, h2⟩
      exact ⟨h2 0 (by simp) (by simp), by simpa using h1, fun i h h' => h2 (i + 1) (by simpa using h) (by simpa using h')⟩

/-- Two trees are the same just if they are equal. -/
theorem Tr.same_iff : ∀ t u : Tr, t.same u = true ↔ t = u := by
  refine Tr.ind ?_
  intro t ih u
  have hk : TrsSame t.kids u.kids = true ↔ t.kids = u.kids := by
    rw [trsSame_iff]
    constructor
    · rintro ⟨h1, h2⟩
      exact List.ext_getElem h1 fun i h h' => (ih _ (List.getElem_mem h) _).1 (h2 i h h')
    · intro h
      refine ⟨by rw [h], fun i h1 h2 => (ih _ (List.getElem_mem h1) _).2 ?_⟩
      simp only [h]
  rw [Tr.same_eq]
  simp only [Bool.and_eq_true, beq_iff_eq]
  rw [hk]
  cases t; cases u
  constructor
  · rintro ⟨h1, h2, h3⟩
    simp only [Tr.sy, Tr.pr, Tr.kids] at h1 h2 h3
    rw [h1, h2, h3]
  · intro h
    injection h with h1 h2 h3
    exact ⟨h1, h2, h3⟩

theorem flatten_inj {α : Type} : ∀ L M : List (List α), L.map List.length = M.map List.length → L.flatten = M.flatten → L = M
  | [], [], _, _ => rfl
  | [], y :: ys, h, _ => by simp at h
  | x :: xs, [], h, _ => by simp at h
  | x :: xs, y :: ys, h, e => by
    simp only [List.map_cons, List.cons.injEq, List.flatten_cons] at h e
    obtain ⟨h1, h2⟩ := List.append_inj e h.1
    rw [h1, flatten_inj xs ys h.2 h2]

theorem leaves_flat {n : Nd} (h : 0 ≤ n.pr) : n.plain.leaves = (n.kids.map fun k => k.plain.leaves).flatten := by
  rw [leaves_node h, PnsLeaves_eq, List.flatMap_def, List.map_map]
  rfl

/-- What a tree without bytes tells of a node: how many leaves there are, how high it is. -/
theorem tree_len : ∀ n m : Nd, n.tree = m.tree → n.plain.leaves.length = m.plain.leaves.length ∧ n.plain.height = m.plain.height := by
  refine Nd.ind ?_
  intro n ih m h
  rw [n.tree_eq, m.tree_eq] at h
  injection h with h1 h2 h3
  have hl : n.kids.length = m.kids.length := by have := congrArg List.length h3; simpa using this
  have hp : ∀ i (h : i < n.kids.length) (h' : i < m.kids.length), n.kids[i].tree = m.kids[i].tree := fun i h h' => by
    have := congrArg (fun l => l[i]?) h3
    simpa [List.getElem?_eq_getElem h, List.getElem?_eq_getElem h'] using this
  have hq := fun i h h' => ih _ (List.getElem_mem h) _ (hp i h h')
  constructor
  · by_cases hpr : n.pr < 0
    · rw [leaves_leaf hpr, leaves_leaf (n := m) (by omega)]; rfl
    · rw [leaves_flat (by omega), leaves_flat (n := m) (by omega), List.length_flatten, List.length_flatten]
      congr 1
      refine List.ext_getElem (by simpa using hl) fun i h h' => ?_
      simp only [List.length_map] at h h'
      simpa using (hq i h h').1
  · have hh : ∀ a b : List Nd, a.length = b.length → (∀ i (h : i < a.length) (h' : i < b.length), a[i].plain.height = b[i].plain.height) → PnsHeight (a.map Nd.plain) = PnsHeight (b.map Nd.plain) := by
      intro a
      induction a with
      | nil => intro b h _; cases b with
        | nil => rfl
        | cons => simp at h
      | cons x xs ihl =>
        intro b h hx
        cases b with
        | nil => simp at h
        | cons y ys =>
          simp only [List.map_cons]
          unfold PnsHeight
          have h0 := hx 0 (by simp) (by simp)
          simp only [List.getElem_cons_zero] at h0
          rw [h0, ihl ys (by simpa using h) fun i h1 h2 => by have := hx (i + 1) (by simpa using h1) (by simpa using h2); simpa using this]
    rw [n.plain_eq, m.plain_eq]
    unfold Pn.height
    rw [hh _ _ hl fun i h h' => (hq i h h').2]

/-- like: the trees, the tokens, and the stamps if these are asked for. -/
theorem like_iff (st : Bool) : ∀ n m : Nd, n.WF → m.WF → (n.like st m = true ↔ n.tree = m.tree ∧ n.plain.leaves = m.plain.leaves ∧ (st = true → n.stamped m = true)) := by
  refine Nd.ind ?_
  intro n ih m hn hm
  have ih' : ∀ i (h : i < n.kids.length) (h' : i < m.kids.length), (n.kids[i].like st m.kids[i] = true ↔ _) := fun i h h' =>
    ih _ (List.getElem_mem h) m.kids[i] (hn.kid _ (List.getElem_mem h)) (hm.kid _ (List.getElem_mem h'))
  rw [Nd.like_eq]
  simp only [Bool.and_eq_true, beq_iff_eq]
  rw [ndsLike_iff]
  constructor
  · rintro ⟨⟨h1, h2, h3, h4⟩, h5, h6, h7, h8, h9, h10⟩
    have hk := fun i h h' => (ih' i h h').1 (h10 i h h')
    refine ⟨?_, ?_, ?_⟩
    · rw [n.tree_eq, m.tree_eq, h5, h6]
      congr 1
      refine List.ext_getElem (by simpa using h9) fun i h h' => ?_
      simp only [List.length_map] at h h'
      simpa using (hk i h h').1
    · by_cases hpr : n.pr < 0
      · rw [leaves_leaf hpr, leaves_leaf (n := m) (by omega), h5, h3, h7]
      · rw [leaves_flat (by omega), leaves_flat (n := m) (by omega)]
        congr 1
        refine List.ext_getElem (by simpa using h9) fun i h h' => ?_
        simp only [List.length_map] at h h'
        simpa using (hk i h h').2.1
    · intro hs
      subst hs
      rw [Nd.stamped_eq]
      simp only [Bool.and_eq_true, beq_iff_eq]
      rw [ndsStamped_iff]
      refine ⟨by simpa using h8, h9, fun i h h' => (hk i h h').2.2 rfl⟩
  · rintro ⟨ht, hl, hs⟩
    obtain ⟨_, hh⟩ := tree_len n m ht
    rw [n.tree_eq, m.tree_eq] at ht
    injection ht with h1 h2 h3
    have hlen : n.kids.length = m.kids.length := by have := congrArg List.length h3; simpa using this
    have hp : ∀ i (h : i < n.kids.length) (h' : i < m.kids.length), n.kids[i].tree = m.kids[i].tree := fun i h h' => by
      have := congrArg (fun l => l[i]?) h3
      simpa [List.getElem?_eq_getElem h, List.getElem?_eq_getElem h'] using this
    obtain ⟨a1, a2, a3, a4⟩ := Nd.WF.adds n hn
    obtain ⟨b1, b2, b3, b4⟩ := Nd.WF.adds m hm
    have hbt : n.plain.bytes = m.plain.bytes := by unfold Pn.bytes; rw [hl]
    have hld : n.plain.lead = m.plain.lead := by unfold Pn.lead; rw [hl]
    have hst : st = true → (n.st = m.st ∧ n.lk = m.lk ∧ n.fm = m.fm) ∧ ∀ i (h : i < n.kids.length) (h' : i < m.kids.length), n.kids[i].stamped m.kids[i] = true := by
      intro e
      have := hs e
      rw [Nd.stamped_eq] at this
      simp only [Bool.and_eq_true, beq_iff_eq] at this
      rw [ndsStamped_iff] at this
      exact ⟨this.1, this.2.2⟩
    refine ⟨⟨by rw [a1, b1, hl], by rw [a2, b2, hbt], by rw [a3, b3, hld], by rw [a4, b4, hh]⟩, h1, h2, ?_, ?_, hlen, fun i h h' => (ih' i h h').2 ⟨hp i h h', ?_, fun e => (hst e).2 i h h'⟩⟩
    · by_cases hpr : n.pr < 0
      · rw [leaves_leaf hpr, leaves_leaf (n := m) (by omega)] at hl
        simp only [List.cons.injEq, Prod.mk.injEq] at hl
        exact hl.1.2.2
      · rcases hn.cases with ⟨c1, _⟩ | ⟨_, _, _, _, _, _, c7, _⟩
        · omega
        · rcases hm.cases with ⟨c1, _⟩ | ⟨_, _, _, _, _, _, d7, _⟩
          · omega
          · rw [c7, d7]
    · cases st with
      | false => rfl
      | true => simpa using (hst rfl).1
    · by_cases hpr : n.pr < 0
      · rcases hn.cases with ⟨_, c2, _⟩ | ⟨c1, _⟩
        · rw [c2] at h; simp at h
        · omega
      · rw [leaves_flat (by omega), leaves_flat (n := m) (by omega)] at hl
        have h4 := flatten_inj _ _ (List.ext_getElem (by simpa using hlen) fun i h h' => by
          simp only [List.length_map] at h h'
          simpa using (tree_len _ _ (hp i h h')).1) hl
        have := congrArg (fun l => l[i]?) h4
        simpa [List.getElem?_eq_getElem h, List.getElem?_eq_getElem h'] using this

/-- Whom both pointers meet is one node. -/
theorem Nd.In.eq {w : World} : ∀ n m : Nd, n.In w → m.In w → n.b = m.b → n = m := by
  refine Nd.ind ?_
  intro n ih m hn hm hb
  obtain ⟨n1, n2, n3⟩ := hn.head
  obtain ⟨m1, m2, m3⟩ := hm.head
  rw [hb, m1] at n1
  have hcs : m.cs = n.cs := by
    injection n1 with n1
    injection n1
  have e : ∀ i : Nat, m.cs[i]? = n.cs[i]? := fun i => by rw [hcs]
  have e0 := e 0; have e1 := e 1; have e2 := e 2; have e3 := e 3; have e4 := e 4; have e5 := e 5; have e6 := e 6; have e7 := e 7; have e8 := e 8; have e9 := e 9; have e10 := e 10
  simp [Nd.cs] at e0 e1 e2 e3 e4 e5 e6 e7 e8 e9 e10
  rw [e10] at m2
  obtain ⟨A, c, hv, hcn⟩ := ownsRow_any n2
  obtain ⟨A', c', hv', hcm⟩ := ownsRow_any m2
  rw [hv] at hv'
  injection hv' with hA hlen hc
  subst hA
  have hk : n.kids = m.kids := by
    refine List.ext_getElem hlen fun i h h' => ih _ (List.getElem_mem h) _ (n3 _ (List.getElem_mem h)) (m3 _ (List.getElem_mem h')) ?_
    obtain ⟨g, hg, _, _, k1⟩ := hcn i n.kids[i].ptr (by rw [List.getElem?_map, List.getElem?_eq_getElem h]; rfl)
    obtain ⟨g', hg', _, _, k2⟩ := hcm i m.kids[i].ptr (by rw [List.getElem?_map, List.getElem?_eq_getElem h']; rfl)
    rw [hg] at hg'
    injection hg' with hg'
    injection hg' with hg'
    subst hg'
    rw [k1] at k2
    simp [Nd.ptr] at k2
    exact k2
  cases n; cases m
  simp only [Nd.b, Nd.tk, Nd.bt, Nd.ld, Nd.ht, Nd.sy, Nd.pr, Nd.wd, Nd.st, Nd.lk, Nd.fm, Nd.ks, Nd.kids] at *
  simp [*]

theorem stamped_refl : ∀ n : Nd, n.stamped n = true := by
  refine Nd.ind ?_
  intro n ih
  rw [Nd.stamped_eq]
  simp only [Bool.and_eq_true, beq_self_eq_true, true_and]
  rw [ndsStamped_iff]
  exact ⟨rfl, fun i h _ => ih _ (List.getElem_mem h)⟩
theorem stamped_symm : ∀ n m : Nd, n.stamped m = true → m.stamped n = true := by
  refine Nd.ind ?_
  intro n ih m h
  rw [Nd.stamped_eq] at h ⊢
  simp only [Bool.and_eq_true, beq_iff_eq] at h ⊢
  rw [ndsStamped_iff] at h ⊢
  obtain ⟨⟨h1, h2, h3⟩, h4, h5⟩ := h
  exact ⟨⟨h1.symm, h2.symm, h3.symm⟩, h4.symm, fun i hi hi' => ih _ (List.getElem_mem hi') _ (h5 i hi' hi)⟩
theorem like_refl (st : Bool) {n : Nd} (h : n.WF) : n.like st n = true := (like_iff st n n h h).2 ⟨rfl, rfl, fun _ => stamped_refl n⟩
theorem like_symm (st : Bool) {n m : Nd} (hn : n.WF) (hm : m.WF) : m.like st n = n.like st m := by
  have h := like_iff st n m hn hm
  have h' := like_iff st m n hm hn
  cases e : n.like st m with
  | true =>
    obtain ⟨h1, h2, h3⟩ := h.1 e
    exact h'.2 ⟨h1.symm, h2.symm, fun e => stamped_symm _ _ (h3 e)⟩
  | false =>
    cases e' : m.like st n with
    | false => rfl
    | true =>
      obtain ⟨h1, h2, h3⟩ := h'.1 e'
      rw [h.2 ⟨h1.symm, h2.symm, fun e => stamped_symm _ _ (h3 e)⟩] at e
      cases e
/-- Same: the trees and the tokens. -/
theorem like_same {n m : Nd} (hn : n.WF) (hm : m.WF) : n.like false m = (n.tree.same m.tree && decide (n.plain.leaves = m.plain.leaves)) := by
  have h := like_iff false n m hn hm
  rw [Bool.eq_iff_iff, h, Bool.and_eq_true, Tr.same_iff, decide_eq_true_iff]
  simp
/-- Alike: the stamps besides. -/
theorem like_alike {n m : Nd} (hn : n.WF) (hm : m.WF) : n.like true m = (n.like false m && n.stamped m) := by
  have h := like_iff true n m hn hm
  have h' := like_iff false n m hn hm
  rw [Bool.eq_iff_iff, h, Bool.and_eq_true, h']
  simp [and_assoc]

end Go.Proofs.Ytcjpmgfobnaoeaa
