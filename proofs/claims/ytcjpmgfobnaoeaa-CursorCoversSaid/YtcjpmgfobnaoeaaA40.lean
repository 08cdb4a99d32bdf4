/- Plain: the deepest spot; from an offset to the next one; leaves. -/
import Derived.Test.YtcjpmgfobnaoeaaA31
namespace Go.Proofs.Ytcjpmgfobnaoeaa

theorem chain_filter {x : Int} : ∀ {l : List Sp} {d a z : Int}, Chain x d a z l → ∀ m, m < l.length → (l.filter fun s => decide (s.dp = d + m)).length = 1
  | s :: l, d, a, z, h, 0, _ => by
    obtain ⟨h1, h2, h3, h4, h5, h6⟩ := h
    rw [List.filter_cons, if_pos (by simp [h1])]
    have hno : l.filter (fun s => decide (s.dp = d + (0 : Nat))) = [] := by
      rw [List.filter_eq_nil_iff]
      intro t ht
      obtain ⟨i, hi, rfl⟩ := List.mem_iff_getElem.1 ht
      have := (Chain.at h6 i hi).1
      simp only [decide_eq_true_eq]
      omega
    rw [hno]
    rfl
  | s :: l, d, a, z, h, m + 1, hm => by
    obtain ⟨h1, h2, h3, h4, h5, h6⟩ := h
    rw [List.filter_cons, if_neg (by simp; omega)]
    have := chain_filter h6 m (by simpa using hm)
    have e : (fun s : Sp => decide (s.dp = d + ((m + 1 : Nat) : Int))) = fun s => decide (s.dp = d + 1 + (m : Int)) := by
      funext s
      congr 1
      apply propext
      constructor <;> intro h <;> omega
    rw [e]
    exact this

/-- What the deepest spot is among all. -/
structure Deep (l : List Sp) (x : Int) (z : Sp) : Prop where
  cases : ∀ s ∈ l, s.has x = true → s = z ∨ s.dp < z.dp
  count : (l.filter fun s => s.has x && decide (s.dp = z.dp)).length = 1
  mem : z ∈ l
  has : z.has x = true

theorem deep_of (n : Nd) (h : n.WF) (x : Int) (h0 : 0 ≤ x) (h1 : x < n.bt) {z : Sp} (hz : (pathA n x).getLast? = some z) : Deep (spotsN n) x z := by
  have hp := spots_path n h x
  rw [if_neg (by omega)] at hp
  have hc := pathA_chain h h0 h1
  have hne : pathA n x ≠ [] := by intro e; rw [e] at hz; simp at hz
  obtain ⟨m, hm⟩ : ∃ m, (pathA n x).length = m + 1 := ⟨(pathA n x).length - 1, by have := List.length_pos_iff.2 hne; omega⟩
  have hml : m < (pathA n x).length := by omega
  have hzm : (pathA n x)[m] = z := by
    rw [List.getLast?_eq_getElem?, hm] at hz
    simpa [hml] using hz
  have hzd := (hc.at m hml).1
  rw [hzm] at hzd
  have hzp : z ∈ pathA n x := by rw [← hzm]; exact List.getElem_mem hml
  have hzl : z ∈ (spotsN n).filter (·.has x) := by rw [hp]; exact hzp
  refine ⟨fun s hs hh => ?_, ?_, (List.mem_filter.1 hzl).1, by simpa using (List.mem_filter.1 hzl).2⟩
  · have hsp : s ∈ pathA n x := by rw [← hp]; exact List.mem_filter.2 ⟨hs, by simpa using hh⟩
    obtain ⟨i, hi, rfl⟩ := List.mem_iff_getElem.1 hsp
    have hd := (hc.at i hi).1
    by_cases e : i = m
    · subst e
      exact .inl hzm
    · exact .inr (by omega)
  · have e : (fun s : Sp => s.has x && decide (s.dp = z.dp)) = fun s => decide (s.dp = 0 + (m : Int)) && s.has x := by
      funext s
      rw [Bool.and_comm, hzd]
    rw [e, ← List.filter_filter, hp]
    exact chain_filter hc m hml

/-- The way down stays the same where no span begins or ends. -/
theorem same_path (n : Nd) (h : n.WF) (x : Int) (h0 : 0 ≤ x) (h1 : x + 1 < n.bt) (hs : ∀ s ∈ spotsN n, s.fa ≠ x + 1 ∧ s.fz ≠ x + 1) : pathA n x = pathA n (x + 1) := by
  have p1 := spots_path n h x
  have p2 := spots_path n h (x + 1)
  rw [if_neg (by omega)] at p1 p2
  rw [← p1, ← p2]
  refine List.filter_congr fun s hm => ?_
  obtain ⟨k1, k2⟩ := hs s hm
  unfold Sp.has
  congr 1
  apply propext
  omega

/-! ### Leaves -/
abbrev Tok := Int × Int × Int

/-- In which token an offset lies: none: behind all; some none: ahead of one; some (kind, from, to). -/
def tokAt (x : Int) : Int → List Tok → Option (Option (Int × Int × Int))
  | _, [] => none
  | fr, t :: ts => if x < fr + t.2.1 then some none else if x < fr + t.2.1 + t.2.2 then some (some (t.1, fr + t.2.1, fr + t.2.1 + t.2.2)) else tokAt x (fr + t.2.1 + t.2.2) ts

theorem bytesOf_cons (t : Tok) (ts : List Tok) : bytesOf (t :: ts) = t.2.1 + t.2.2 + bytesOf ts := by simp [bytesOf]

/-- Tokens whose numbers are none below 0. -/
def TokOk (l : List Tok) : Prop := ∀ t ∈ l, 0 ≤ t.2.1 ∧ 0 ≤ t.2.2
theorem bytesOf_nonneg : ∀ {l : List Tok}, TokOk l → 0 ≤ bytesOf l
  | [], _ => by simp [bytesOf]
  | t :: ts, h => by
    have := h t (by simp)
    have := bytesOf_nonneg (l := ts) fun u hu => h u (by simp [hu])
    rw [bytesOf_cons]
    omega

theorem tokAt_cons (x fr : Int) (t : Tok) (ts : List Tok) : tokAt x fr (t :: ts) = if x < fr + t.2.1 then some none else if x < fr + t.2.1 + t.2.2 then some (some (t.1, fr + t.2.1, fr + t.2.1 + t.2.2)) else tokAt x (fr + t.2.1 + t.2.2) ts := rfl
theorem tokAt_left (x : Int) : ∀ (l m : List Tok) (fr : Int), TokOk l → fr ≤ x → x < fr + bytesOf l → tokAt x fr (l ++ m) = tokAt x fr l
  | [], m, fr, _, h0, h => by simp [bytesOf] at h; omega
  | t :: ts, m, fr, hl, h0, h => by
    have ht := hl t (by simp)
    rw [bytesOf_cons] at h
    rw [List.cons_append, tokAt_cons, tokAt_cons]
    split
    · rfl
    · split
      · rfl
      · exact tokAt_left x ts m _ (fun u hu => hl u (by simp [hu])) (by omega) (by omega)
theorem tokAt_right (x : Int) : ∀ (l m : List Tok) (fr : Int), TokOk l → fr + bytesOf l ≤ x → tokAt x fr (l ++ m) = tokAt x (fr + bytesOf l) m
  | [], m, fr, _, h => by simp [bytesOf]
  | t :: ts, m, fr, hl, h => by
    have ht := hl t (by simp)
    have hn := bytesOf_nonneg (l := ts) fun u hu => hl u (by simp [hu])
    rw [bytesOf_cons] at h
    rw [List.cons_append, tokAt_cons, if_neg (by omega), if_neg (by omega), tokAt_right x ts m _ (fun u hu => hl u (by simp [hu])) (by omega), bytesOf_cons]
    congr 1
    omega

theorem leaves_ok : ∀ n : Nd, n.WF → TokOk n.plain.leaves := by
  refine Nd.ind ?_
  intro n ih h
  rcases h.cases with ⟨h1, h2, h3, h4, h5, h6, h7, _⟩ | ⟨h1, _⟩
  · rw [leaves_leaf (by omega)]
    intro t ht
    obtain rfl := List.mem_singleton.1 ht
    exact ⟨h6, h7⟩
  · rw [leaves_node h1]
    have hk : ∀ l : List Nd, (∀ k ∈ l, k ∈ n.kids) → TokOk (PnsLeaves (l.map Nd.plain)) := by
      intro l
      induction l with
      | nil => intro _ t ht; simp [PnsLeaves] at ht
      | cons k ks ihl =>
        intro hl t ht
        simp only [List.map_cons] at ht
        unfold PnsLeaves at ht
        rcases List.mem_append.1 ht with ht | ht
        · exact ih k (hl k (by simp)) (h.kid k (hl k (by simp))) t ht
        · exact ihl (fun m hm => hl m (by simp [hm])) t ht
    exact hk n.kids fun _ h => h

theorem leaves_first {n : Nd} (h : n.WF) : ∃ t ts, n.plain.leaves = t :: ts ∧ t.2.1 = n.ld := by
  obtain ⟨h1, h2, h3, _⟩ := Nd.WF.adds n h
  have := (Nd.WF.ok n h).tk1
  cases hl : n.plain.leaves with
  | nil => rw [hl] at h1; simp at h1; omega
  | cons t ts =>
    refine ⟨t, ts, rfl, ?_⟩
    rw [h3]
    unfold Pn.lead
    rw [hl]

/-- The last one of a way down, whose first one is s. -/
def lastOf (s : Sp) (l : List Sp) : Sp := (s :: l).getLast (by simp)
theorem lastOf_nil (s : Sp) : lastOf s [] = s := rfl
theorem lastOf_cons (s u : Sp) (l : List Sp) : lastOf s (u :: l) = lastOf u l := by unfold lastOf; exact List.getLast_cons_cons

/-- What the token says of the last spot on the way down. -/
def TokSays (r : Option (Option (Int × Int × Int))) (s : Sp) (a b : Int) (z : Sp) : Prop := match r with
  | none => False
  | some none => 0 ≤ z.pr
  | some (some (k, c, e)) => z.pr < 0 ∧ z.sy = k ∧ ((z.fa = c ∧ z.fz = e) ∨ (z = s ∧ c = a ∧ e = b))

theorem pathN_leaf (x : Int) : ∀ n : Nd, n.WF → ∀ (fr d : Int) (s : Sp), s.sy = n.sy → s.pr = n.pr → fr + n.ld ≤ x → x < fr + n.bt →
    TokSays (tokAt x fr n.plain.leaves) s (fr + n.ld) (fr + n.bt) (lastOf s (pathN x fr d n)) := by
  refine Nd.ind ?_
  intro n ih h fr d s hsy hpr h0 h1
  rcases h.cases with ⟨e1, e2, e3, e4, e5, e6, e7, _⟩ | ⟨e1, _⟩
  · rw [leaves_leaf (by omega), pathN_kids, e2, tokAt_cons, if_neg (by simp only []; omega), if_pos (by simp only []; omega)]
    show s.pr < 0 ∧ s.sy = n.sy ∧ _
    refine ⟨by omega, hsy, .inr ⟨rfl, rfl, ?_⟩⟩
    simp only []
    omega
  · rw [leaves_node e1, pathN_kids]
    have hbt : n.bt = sumBt n.kids := by
      rcases h.cases with ⟨q1, _⟩ | ⟨_, _, _, q4, _⟩
      · omega
      · exact q4
    have hok := Nd.WF.ok n h
    have hk : ∀ l : List Nd, (∀ k ∈ l, k ∈ n.kids) → ∀ g, g ≤ x → x < g + sumBt l → TokSays (tokAt x g (PnsLeaves (l.map Nd.plain))) s (fr + n.ld) (fr + n.bt) (lastOf s (pathK x g d l)) := by
      intro l
      induction l with
      | nil => intro _ g hg hx; simp [sumBt] at hx; omega
      | cons k ks ihl =>
        intro hl g hg hx
        have hkm := hl k (by simp)
        have hkw := h.kid k hkm
        have hkok := leaves_ok k hkw
        have hkb : bytesOf k.plain.leaves = k.bt := (Nd.WF.adds k hkw).2.1.symm
        rw [sumBt_cons] at hx
        simp only [List.map_cons]
        unfold PnsLeaves pathK
        by_cases c1 : x < g + k.bt
        · rw [if_pos c1, tokAt_left x _ _ g hkok hg (by rw [hkb]; exact c1)]
          by_cases c2 : x < g + k.ld
          · rw [if_pos c2, lastOf_nil]
            obtain ⟨t, ts, q1, q2⟩ := leaves_first hkw
            rw [q1, tokAt_cons, if_pos (by omega)]
            show 0 ≤ s.pr
            omega
          · rw [if_neg c2, lastOf_cons]
            have hi := ih k hkm hkw g (d + 1) ⟨k.sy, k.pr, g + k.ld, g + k.bt, d⟩ rfl rfl (by omega) c1
            generalize lastOf _ _ = z at hi ⊢
            generalize tokAt x g k.plain.leaves = r at hi
            rcases r with _ | _ | ⟨kk, c, e⟩
            · exact hi
            · exact hi
            · obtain ⟨j1, j2, j3⟩ := hi
              refine ⟨j1, j2, .inl ?_⟩
              rcases j3 with j3 | ⟨rfl, rfl, rfl⟩
              · exact j3
              · exact ⟨rfl, rfl⟩
        · rw [if_neg c1, tokAt_right x _ _ g hkok (by rw [hkb]; omega), hkb]
          exact ihl (fun m hm => hl m (by simp [hm])) (g + k.bt) (by omega) (by omega)
    exact hk n.kids (fun _ h => h) fr (by have := hok.ld0; omega) (by omega)

/-- What a leaf's token says of the deepest spot. -/
def LeafSays (r : Option (Option (Int × Int × Int))) (z : Sp) : Prop := match r with
  | none => False
  | some none => 0 ≤ z.pr ∨ z.dp = 0
  | some (some (k, c, e)) => z.pr < 0 ∧ z.sy = k ∧ ((z.fa = c ∧ z.fz = e) ∨ z.dp = 0)

theorem leaf_says (n : Nd) (h : n.WF) (x : Int) (h0 : 0 ≤ x) (h1 : x < n.bt) {z : Sp} (hz : (pathA n x).getLast? = some z) : LeafSays (tokAt x 0 n.plain.leaves) z := by
  have hlast : z = lastOf ⟨n.sy, n.pr, 0, n.bt, 0⟩ (pathN x 0 1 n) := by
    have e : pathA n x = ⟨n.sy, n.pr, 0, n.bt, 0⟩ :: pathN x 0 1 n := rfl
    rw [e, List.getLast?_eq_some_getLast (by simp)] at hz
    injection hz with hz
    exact hz.symm
  by_cases c : n.ld ≤ x
  · have hs := pathN_leaf x n h 0 1 ⟨n.sy, n.pr, 0, n.bt, 0⟩ rfl rfl (by omega) (by omega)
    rw [← hlast] at hs
    generalize tokAt x 0 n.plain.leaves = r at hs
    rcases r with _ | _ | ⟨kk, c, e⟩
    · exact hs
    · exact .inl hs
    · obtain ⟨j1, j2, j3⟩ := hs
      refine ⟨j1, j2, ?_⟩
      rcases j3 with j3 | ⟨rfl, _, _⟩
      · exact .inl j3
      · exact .inr rfl
  · obtain ⟨t, ts, q1, q2⟩ := leaves_first h
    rw [q1, tokAt_cons, if_pos (by omega)]
    refine .inr ?_
    have hp : pathN x 0 1 n = [] := by
      rw [pathN_kids]
      rcases h.cases with ⟨_, e2, _⟩ | ⟨_, e2, _, _, e5, _⟩
      · rw [e2]; rfl
      · cases hk : n.kids with
        | nil => exact absurd hk e2
        | cons k ks =>
          have hkw := h.kid k (by rw [hk]; simp)
          have hkl := (Nd.WF.ok k hkw).ld1
          have he : n.ld = k.ld := by rw [e5, hk]; rfl
          unfold pathK
          rw [if_pos (by omega), if_pos (by omega)]
    rw [hlast, hp]
    rfl

/-- The tokens of the visits are the tokens. -/
theorem preN_toks : ∀ n : Nd, n.WF → ∀ a d, (preN a d n).flatMap (fun v : Vs => if v.1.pr < 0 then [(v.1.sy, v.1.ld, v.1.wd)] else []) = n.plain.leaves := by
  refine Nd.ind ?_
  intro n ih h a d
  rw [preN_kids, List.flatMap_cons]
  have hk : ∀ l : List Nd, (∀ k ∈ l, k ∈ n.kids) → ∀ a d, (preK a d l).flatMap (fun v : Vs => if v.1.pr < 0 then [(v.1.sy, v.1.ld, v.1.wd)] else []) = PnsLeaves (l.map Nd.plain) := by
    intro l
    induction l with
    | nil => intro _ a d; rfl
    | cons k ks ihl =>
      intro hl a d
      rw [preK_cons, List.flatMap_append, ih k (hl k (by simp)) (h.kid k (hl k (by simp))), ihl (fun m hm => hl m (by simp [hm]))]
      simp only [List.map_cons]
      rw [PnsLeaves]
  rcases h.cases with ⟨e1, e2, _⟩ | ⟨e1, _⟩
  · rw [if_pos (by simp only []; omega), e2, leaves_leaf (by omega)]
    rfl
  · rw [if_neg (by simp only []; omega), leaves_node e1, hk n.kids (fun _ h => h)]
    rfl

end Go.Proofs.Ytcjpmgfobnaoeaa
