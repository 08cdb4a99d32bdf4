/- Plain: what is told of a token is a chain of first kids, down to its leaf. -/
import Derived.Test.YtcjpmgfobnaoeaaA22
import Derived.Test.YtcjpmgfobnaoeaaA40
namespace Go.Proofs.Ytcjpmgfobnaoeaa

/-- Nodes, each the first kid of the one ahead, down to the leaf of a token. -/
def DCh : List Nd → Tok → Prop
  | [], _ => False
  | [m], t => m.pr < 0 ∧ m.kids = [] ∧ (m.sy, m.ld, m.wd) = t
  | m :: k :: l, t => (∃ ks, m.kids = k :: ks) ∧ DCh (k :: l) t

theorem DCh.step : ∀ {l : List Nd} {t : Tok}, DCh l t → ∀ i (h : i + 1 < l.length), ∃ ks, (l[i]).kids = l[i + 1] :: ks
  | [], _, h, _, _ => h.elim
  | [m], _, _, i, hi => by simp at hi
  | m :: k :: l, t, h, 0, _ => h.1
  | m :: k :: l, t, h, i + 1, hi => DCh.step (l := k :: l) h.2 i (by simpa using hi)
theorem DCh.last : ∀ {l : List Nd} {t : Tok}, DCh l t → ∀ i (h : i < l.length), i + 1 = l.length → (l[i]).pr < 0 ∧ (l[i]).kids = [] ∧ ((l[i]).sy, (l[i]).ld, (l[i]).wd) = t
  | [], _, h, _, _, _ => h.elim
  | [m], t, h, 0, _, _ => h
  | [m], t, h, i + 1, hi, _ => by simp at hi
  | m :: k :: l, t, h, 0, _, he => by simp at he
  | m :: k :: l, t, h, i + 1, hi, he => DCh.last (l := k :: l) h.2 i (by simpa using hi) (by simpa using he)
theorem DCh.ne {l : List Nd} {t : Tok} (h : DCh l t) : l ≠ [] := by
  intro e
  subst e
  exact h

theorem atN_all {p : Nd → Prop} (hp : ∀ m, p m → ∀ k ∈ m.kids, p k) (tk a b x : Int) : ∀ n : Nd, p n → ∀ fr, ∀ m ∈ atN tk a b x fr n, p m := by
  refine Nd.ind ?_
  intro n ih h fr m hm
  have hk : ∀ l : List Nd, (∀ k ∈ l, k ∈ n.kids) → ∀ fr, ∀ m ∈ atK tk a b x fr l, p m := by
    intro l
    induction l with
    | nil => intro _ fr m hm; unfold atK at hm; simp at hm
    | cons k ks ihl =>
      intro hl fr m hm
      unfold atK at hm
      split at hm
      · exact ih k (hl k (by simp)) (hp n h k (hl k (by simp))) fr m hm
      · exact ihl (fun q hq => hl q (by simp [hq])) _ m hm
  rw [atN_eq] at hm
  rcases List.mem_append.1 hm with hm | hm
  · split at hm
    · obtain rfl := List.mem_singleton.1 hm
      exact h
    · simp at hm
  · exact hk n.kids (fun _ h => h) fr m hm

theorem tk_leaves {n : Nd} (h : n.WF) : n.tk = (n.plain.leaves.length : Int) := (Nd.WF.adds n h).1

/-- If the token stays, what is told of it is a chain. -/
theorem atN_chain (tk a b x : Int) (hx : x + 1 ≤ a ∨ tk - b ≤ x) : ∀ n : Nd, n.WF → ∀ fr, fr ≤ x → x < fr + n.tk → ∃ t, n.plain.leaves[(x - fr).toNat]? = some t ∧ DCh (atN tk a b x fr n) t ∧ (fr = x → fr + n.tk ≤ a ∨ tk - b ≤ fr → ∃ l, atN tk a b x fr n = n :: l) := by
  refine Nd.ind ?_
  intro n ih h fr h0 h1
  have hok := Nd.WF.ok n h
  have hhead : fr = x → fr + n.tk ≤ a ∨ tk - b ≤ fr → ∃ l, atN tk a b x fr n = n :: l := fun e hs => by
    rw [atN_eq, if_pos ⟨e, by unfold staysC; exact decide_eq_true hs⟩]
    exact ⟨_, rfl⟩
  rcases h.cases with ⟨e1, e2, e3, _⟩ | ⟨e1, e2, e3, _⟩
  · have hfx : fr = x := by omega
    refine ⟨(n.sy, n.ld, n.wd), ?_, ?_, hhead⟩
    · rw [leaves_leaf (by omega), show (x - fr).toNat = 0 by omega]
      rfl
    · rw [atN_eq, if_pos ⟨hfx, by unfold staysC; exact decide_eq_true (by omega)⟩, e2]
      unfold atK
      exact ⟨by omega, e2, rfl⟩
  · have hk : ∀ l : List Nd, (∀ k ∈ l, k ∈ n.kids) → ∀ g, g ≤ x → x < g + sumTk l → ∃ t, (PnsLeaves (l.map Nd.plain))[(x - g).toNat]? = some t ∧ DCh (atK tk a b x g l) t ∧
        (g = x → ∀ k ks, l = k :: ks → atK tk a b x g l = atN tk a b x g k) := by
      intro l
      induction l with
      | nil => intro _ g hg hx2; rw [sumTk_nil] at hx2; omega
      | cons k ks ihl =>
        intro hl g hg hx2
        have hkm := hl k (by simp)
        have hkw := h.kid k hkm
        have hk1 := (Nd.WF.ok k hkw).tk1
        have hkt := tk_leaves hkw
        rw [sumTk_cons] at hx2
        simp only [List.map_cons]
        unfold PnsLeaves atK
        by_cases c : x < g + k.tk
        · rw [if_pos c]
          obtain ⟨t, q1, q2, _⟩ := ih k hkm hkw g hg c
          refine ⟨t, ?_, q2, ?_⟩
          · rw [List.getElem?_append_left (by omega)]
            exact q1
          · intro _ k' ks' e
            injection e with e _
            rw [e]
        · rw [if_neg c]
          obtain ⟨t, q1, q2, _⟩ := ihl (fun m hm => hl m (by simp [hm])) (g + k.tk) (by omega) (by omega)
          refine ⟨t, ?_, q2, ?_⟩
          · rw [List.getElem?_append_right (by omega)]
            rw [show (x - g).toNat - k.plain.leaves.length = (x - (g + k.tk)).toNat by omega]
            exact q1
          · intro e
            omega
    obtain ⟨t, q1, q2, q3⟩ := hk n.kids (fun _ h => h) fr h0 (by omega)
    refine ⟨t, by rw [leaves_node e1]; exact q1, ?_, hhead⟩
    rw [atN_eq]
    by_cases c : fr = x ∧ staysC tk a b fr n.tk = true
    · rw [if_pos c]
      cases hkk : n.kids with
      | nil => exact absurd hkk e2
      | cons k ks =>
        have hkm : k ∈ n.kids := by rw [hkk]; simp
        have hkt := hok.ktk k hkm
        have hk1 := (Nd.WF.ok k (h.kid k hkm)).tk1
        have hst : fr + n.tk ≤ a ∨ tk - b ≤ fr := by
          have := c.2
          unfold staysC at this
          exact of_decide_eq_true this
        have e4 := q3 c.1 k ks hkk
        obtain ⟨_, _, _, q5⟩ := ih k hkm (h.kid k hkm) fr h0 (by omega)
        obtain ⟨l, q6⟩ := q5 c.1 (by omega)
        rw [e4, q6] at q2
        rw [← hkk, e4, q6]
        exact ⟨⟨ks, hkk⟩, q2⟩
    · rw [if_neg c, List.nil_append]
      exact q2

/-- What At and Old tell of a new token. -/
theorem atC_chain {n : Nd} {a b t k : Int} (hwf : n.WF) (c : CurOk n.tk a b t) (hk0 : 0 ≤ k) (hk1 : k < t) :
    ((oldC n.tk a b t k).2 = true ∧ (k < a ∨ t - b ≤ k) ∧ ∃ u, n.plain.leaves[(oldC n.tk a b t k).1.toNat]? = some u ∧ DCh (atC n a b t k) u) ∨
    ((oldC n.tk a b t k).2 = false ∧ ¬ (k < a ∨ t - b ≤ k) ∧ atC n a b t k = []) := by
  obtain ⟨g1, g2, ga, gb, h3, h4, h5, h6, h7⟩ := c
  by_cases e : k < a ∨ t - b ≤ k
  · refine .inl ?_
    have ho : oldC n.tk a b t k = (if k < a then k else k - t + n.tk, true) := by
      unfold oldC
      rw [if_neg (by omega)]
      by_cases e2 : k < a
      · rw [if_pos e2, if_pos e2]
      · rw [if_neg e2, if_neg e2, if_pos (by omega)]
    unfold atC
    rw [ho]
    refine ⟨rfl, e, ?_⟩
    simp only [if_true]
    obtain ⟨u, q1, q2, _⟩ := atN_chain n.tk a b (if k < a then k else k - t + n.tk) (by split <;> omega) n hwf 0 (by split <;> omega) (by split <;> omega)
    rw [Int.sub_zero] at q1
    exact ⟨u, q1, q2⟩
  · refine .inr ?_
    have ho : oldC n.tk a b t k = (0, false) := by
      unfold oldC
      rw [if_neg (by omega), if_neg (by omega), if_neg (by omega)]
    unfold atC
    rw [ho]
    exact ⟨rfl, e, rfl⟩

end Go.Proofs.Ytcjpmgfobnaoeaa
