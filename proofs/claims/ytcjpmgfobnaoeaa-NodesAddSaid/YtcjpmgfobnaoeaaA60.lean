/- Plain, for NodesAdd: where the visits begin; how the spots nest. -/
import Derived.Test.YtcjpmgfobnaoeaaA46
import Derived.Test.YtcjpmgfobnaoeaaA43
namespace Go.Proofs.Ytcjpmgfobnaoeaa

theorem toks_bytes {n : Nd} (h : n.WF) (a d : Int) : bytesOf ((preN a d n).flatMap tokV) = n.bt := by
  have e : (preN a d n).flatMap tokV = n.plain.leaves := preN_toks n h a d
  rw [e]
  exact (Nd.WF.adds n h).2.1.symm

/-- A visit begins where the tokens of those ahead of it end. -/
theorem pre_begin : ∀ n : Nd, n.WF → ∀ (a d : Int) (p : List Vs) (v : Vs) (r : List Vs), preN a d n = p ++ v :: r → v.2.1 = a + bytesOf (p.flatMap tokV) := by
  refine Nd.ind ?_
  intro n ih h a d p v r e
  have hk : ∀ l : List Nd, (∀ k ∈ l, k ∈ n.kids) → ∀ (a d : Int) (p : List Vs), preK a d l = p ++ v :: r → v.2.1 = a + bytesOf (p.flatMap tokV) := by
    intro l
    induction l with
    | nil => intro _ a d p e; simp [preK] at e
    | cons k ks ihl =>
      intro hl a d p e
      have hkm := hl k (by simp)
      have hkw := h.kid k hkm
      rw [preK_cons] at e
      rcases List.append_eq_append_iff.1 e with ⟨q, e1, e2⟩ | ⟨bs, e1, e2⟩
      · have h1 := ihl (fun m hm => hl m (by simp [hm])) _ _ _ e2
        rw [e1, List.flatMap_append, bytesOf_append, toks_bytes hkw]
        omega
      · cases bs with
        | nil =>
          rw [List.nil_append] at e2
          have h1 := ihl (fun m hm => hl m (by simp [hm])) (a + k.bt) d [] (by rw [← e2]; rfl)
          rw [List.append_nil] at e1
          rw [← e1, toks_bytes hkw]
          simp [bytesOf] at h1
          omega
        | cons b bs =>
          rw [List.cons_append] at e2
          injection e2 with e2 e3
          subst e2
          exact ih k hkm hkw a d p v bs e1
  rw [preN_kids] at e
  cases p with
  | nil =>
    rw [List.nil_append] at e
    injection e with e1 e2
    rw [← e1]
    simp [bytesOf]
  | cons x p =>
    rw [List.cons_append] at e
    injection e with e1 e2
    have hpr : ¬ n.pr < 0 := fun hp => by
      rcases h.cases with ⟨_, h2, _⟩ | ⟨h1, _⟩
      · rw [h2] at e2; simp [preK] at e2
      · omega
    rw [hk n.kids (fun _ h => h) a (d + 1) p e2, List.flatMap_cons, ← e1]
    simp [tokV, hpr]

/-! ### How spots nest -/
/-- What nested keeps: by depths the span above, the end of the last one; the depth of the last one. -/
structure St where
  ab : Int → Int × Int
  en : Int → Int
  pd : Int
def upd {α : Type} (f : Int → α) (i : Int) (v : α) : Int → α := fun j => if j = i then v else f j
theorem upd_same {α : Type} (f : Int → α) (i : Int) (v : α) : upd f i v i = v := by unfold upd; rw [if_pos rfl]
theorem upd_ne {α : Type} (f : Int → α) {i j : Int} (v : α) (h : j ≠ i) : upd f i v j = f j := by unfold upd; rw [if_neg h]
def St.step (s : St) (p : Sp) : St := ⟨upd s.ab p.dp (p.fa, p.fz), upd (upd s.en p.dp p.fz) (p.dp + 1) p.fa, p.dp⟩
/-- A spot that fits. -/
def St.Fits (s : St) (p : Sp) : Prop := p.dp ≤ s.pd + 1 ∧ (0 < p.dp → (s.ab (p.dp - 1)).1 ≤ p.fa ∧ p.fz ≤ (s.ab (p.dp - 1)).2 ∧ s.en p.dp ≤ p.fa)
def St.run (s : St) (l : List Sp) : St := l.foldl St.step s
def Nest (s : St) : List Sp → Prop
  | [] => True
  | p :: l => s.Fits p ∧ Nest (s.step p) l
theorem run_append (s : St) (l m : List Sp) : s.run (l ++ m) = (s.run l).run m := by unfold St.run; rw [List.foldl_append]
theorem run_cons (s : St) (p : Sp) (l : List Sp) : s.run (p :: l) = (s.step p).run l := rfl
theorem nest_append : ∀ (l m : List Sp) (s : St), Nest s l → Nest (s.run l) m → Nest s (l ++ m)
  | [], m, s, _, h => h
  | p :: l, m, s, h, h' => ⟨h.1, nest_append l m _ h.2 h'⟩
theorem nest_at : ∀ (l : List Sp) (s : St), Nest s l → ∀ i (h : i < l.length), (s.run (l.take i)).Fits l[i]
  | p :: l, s, h, 0, _ => h.1
  | p :: l, s, h, i + 1, hi => by
    show ((s.step p).run (l.take i)).Fits (l[i]'(by simpa using hi))
    exact nest_at l _ h.2 i (by simpa using hi)
theorem run_take {s : St} {l : List Sp} {i : Nat} (h : i < l.length) : s.run (l.take (i + 1)) = (s.run (l.take i)).step l[i] := by
  rw [List.take_succ_eq_append_getElem h, run_append]
  rfl
theorem run_pd (s : St) {l : List Sp} {i : Nat} (h : i < l.length) : (s.run (l.take (i + 1))).pd = (l[i]).dp := by rw [run_take h]; rfl

/-- What is behind a node's spots. -/
structure Behind (s s' : St) (d : Int) : Prop where
  ab : ∀ j, j < d → s'.ab j = s.ab j
  en : ∀ j, j < d → s'.en j = s.en j

theorem nest_pre : ∀ n : Nd, n.WF → ∀ (a d : Int) (s : St), 0 ≤ a → 0 ≤ d → d ≤ s.pd + 1 → (0 < d → (s.ab (d - 1)).1 ≤ a + n.ld ∧ a + n.bt ≤ (s.ab (d - 1)).2 ∧ s.en d ≤ a + n.ld) →
    Nest s ((preN a d n).map spotV) ∧ Behind s (s.run ((preN a d n).map spotV)) d ∧ (s.run ((preN a d n).map spotV)).en d = a + n.bt ∧ d ≤ (s.run ((preN a d n).map spotV)).pd := by
  refine Nd.ind ?_
  intro n ih h a d s ha hd0 hpd hfit
  have hok := Nd.WF.ok n h
  have hk : ∀ l : List Nd, (∀ k ∈ l, k ∈ n.kids) → ∀ (a : Int) (s : St), 0 ≤ a → d ≤ s.pd → (s.ab d).1 ≤ a + headLd l → a + sumBt l ≤ (s.ab d).2 → s.en (d + 1) ≤ a + headLd l →
      Nest s ((preK a (d + 1) l).map spotV) ∧ Behind s (s.run ((preK a (d + 1) l).map spotV)) (d + 1) ∧ d ≤ (s.run ((preK a (d + 1) l).map spotV)).pd := by
    intro l
    induction l with
    | nil => intro _ a s _ hp _ _ _; exact ⟨trivial, ⟨fun _ _ => rfl, fun _ _ => rfl⟩, hp⟩
    | cons k ks ihl =>
      intro hl a s ha hp h1 h2 h3
      have hkm := hl k (by simp)
      have hkw := h.kid k hkm
      have kok := Nd.WF.ok k hkw
      have b0 := kok.bt0
      have l1 := kok.ld1
      have l0 := kok.ld0
      rw [sumBt_cons] at h2
      have hs0 := (sumBt_ge (l := ks) fun m hm => (Nd.WF.ok m (h.kid m (hl m (by simp [hm])))).bt0).1
      have hh0 : 0 ≤ headLd ks := by
        cases ks with
        | nil => exact Int.le_refl _
        | cons m ms => exact (Nd.WF.ok m (h.kid m (hl m (by simp)))).ld0
      change _ ≤ a + k.ld at h1
      change _ ≤ a + k.ld at h3
      obtain ⟨i1, i2, i3, i4⟩ := ih k hkm hkw a (d + 1) s ha (by omega) (by omega) (fun _ => by rw [show d + 1 - 1 = d by omega]; exact ⟨h1, by omega, h3⟩)
      have hab := i2.ab d (by omega)
      obtain ⟨j1, j2, j3⟩ := ihl (fun m hm => hl m (by simp [hm])) (a + k.bt) (s.run ((preN a (d + 1) k).map spotV)) (by omega) (by omega) (by rw [hab]; omega) (by rw [hab]; omega) (by rw [i3]; omega)
      rw [preK_cons, List.map_append]
      refine ⟨nest_append _ _ _ i1 j1, ?_, ?_⟩
      · rw [run_append]
        exact ⟨fun j hj => (j2.ab j hj).trans (i2.ab j hj), fun j hj => (j2.en j hj).trans (i2.en j hj)⟩
      · rw [run_append]; exact j3
  have hsp : spotV (n, a, d) = ⟨n.sy, n.pr, if d = 0 then 0 else a + n.ld, a + n.bt, d⟩ := rfl
  rw [preN_kids, List.map_cons, hsp, run_cons]
  obtain ⟨s1, hs1⟩ : ∃ s1, s.step ⟨n.sy, n.pr, if d = 0 then 0 else a + n.ld, a + n.bt, d⟩ = s1 := ⟨_, rfl⟩
  have a1 : s1.ab d = (if d = 0 then 0 else a + n.ld, a + n.bt) := by rw [← hs1]; exact upd_same _ _ _
  have e1 : s1.en (d + 1) = if d = 0 then 0 else a + n.ld := by rw [← hs1]; exact upd_same _ _ _
  have e0 : s1.en d = a + n.bt := by rw [← hs1]; exact (upd_ne _ _ (by show d ≠ d + 1; omega)).trans (upd_same _ _ _)
  have p1 : s1.pd = d := by rw [← hs1]; rfl
  have b1 : Behind s s1 d := by
    rw [← hs1]
    exact ⟨fun j hj => upd_ne _ _ (by show j ≠ d; omega), fun j hj => (upd_ne _ _ (by show j ≠ d + 1; omega)).trans (upd_ne _ _ (by show j ≠ d; omega))⟩
  have hf : s.Fits ⟨n.sy, n.pr, if d = 0 then 0 else a + n.ld, a + n.bt, d⟩ := by
    refine ⟨hpd, fun hd => ?_⟩
    obtain ⟨f1, f2, f3⟩ := hfit hd
    show _ ≤ (if d = 0 then 0 else a + n.ld) ∧ _ ∧ _ ≤ (if d = 0 then 0 else a + n.ld)
    rw [if_neg (by have : 0 < d := hd; omega)]
    exact ⟨f1, f2, f3⟩
  have hs := h.sum.2
  have hld : (if d = 0 then 0 else a + n.ld) ≤ a + n.ld := by have := hok.ld0; split <;> omega
  show (s.Fits _ ∧ Nest (s.step _) _) ∧ _
  rw [hs1]
  rcases h.cases with ⟨_, c2, _⟩ | ⟨_, _, _, _, c5, _⟩
  · rw [c2]
    exact ⟨⟨hf, trivial⟩, b1, e0, by rw [show (s1.run _).pd = s1.pd from rfl, p1]; exact Int.le_refl _⟩
  · obtain ⟨k1, k2, k3⟩ := hk n.kids (fun _ h => h) a s1 ha (by omega) (by rw [a1, ← c5]; exact hld) (by rw [a1]; show a + _ ≤ a + n.bt; omega) (by rw [e1, ← c5]; exact hld)
    exact ⟨⟨hf, k1⟩, ⟨fun j hj => (k2.ab j (by omega)).trans (b1.ab j hj), fun j hj => (k2.en j (by omega)).trans (b1.en j hj)⟩, (k2.en d (by omega)).trans e0, k3⟩

end Go.Proofs.Ytcjpmgfobnaoeaa
