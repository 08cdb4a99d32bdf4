/- The builder's answer: a tree out of data, without addresses. Plain. -/
import Derived.Test.YtcjpmgfobnaoeaaA3
import Derived.Test.YtcjpmgfobnaoeaaA11
namespace Go.Proofs.Ytcjpmgfobnaoeaa

/-- A node as the document has it: no addresses, no sums. -/
inductive Pn where
  | mk (sy pr tl tw st lk : Int) (fm : Bool) (kids : List Pn)

namespace Pn
def sy : Pn → Int | .mk x .. => x
def pr : Pn → Int | .mk _ x .. => x
def tl : Pn → Int | .mk _ _ x .. => x
def tw : Pn → Int | .mk _ _ _ x .. => x
def st : Pn → Int | .mk _ _ _ _ x .. => x
def lk : Pn → Int | .mk _ _ _ _ _ x .. => x
def fm : Pn → Bool | .mk _ _ _ _ _ _ x _ => x
def kids : Pn → List Pn | .mk _ _ _ _ _ _ _ x => x
end Pn

mutual
/-- Its tokens: kind, lead, width. -/
def Pn.leaves : Pn → List (Int × Int × Int)
  | .mk sy pr tl tw _ _ _ kids => if pr < 0 then [(sy, tl, tw)] else PnsLeaves kids
def PnsLeaves : List Pn → List (Int × Int × Int)
  | [] => []
  | n :: ns => n.leaves ++ PnsLeaves ns
end
mutual
def Pn.height : Pn → Int
  | .mk _ _ _ _ _ _ _ kids => PnsHeight kids + 1
def PnsHeight : List Pn → Int
  | [] => 0
  | n :: ns => max n.height (PnsHeight ns)
end
/-- The bytes of tokens. -/
def bytesOf (l : List (Int × Int × Int)) : Int := (l.map fun t => t.2.1 + t.2.2).sum
def Pn.bytes (n : Pn) : Int := bytesOf n.leaves
def Pn.lead (n : Pn) : Int := match n.leaves with | [] => 0 | t :: _ => t.2.1

theorem bytesOf_append (a b : List (Int × Int × Int)) : bytesOf (a ++ b) = bytesOf a + bytesOf b := by simp [bytesOf]

mutual
/-- The node that Go's node stands for. -/
def Nd.plain : Nd → Pn
  | .mk _ _ _ ld _ sy pr wd st lk fm _ kids => .mk sy pr (if pr < 0 then ld else 0) wd st lk fm (NdsPlain kids)
def NdsPlain : List Nd → List Pn
  | [] => []
  | n :: ns => n.plain :: NdsPlain ns
end
theorem NdsPlain_eq : ∀ l : List Nd, NdsPlain l = l.map Nd.plain
  | [] => rfl
  | n :: ns => by unfold NdsPlain; rw [NdsPlain_eq ns]; rfl
theorem Nd.plain_eq (n : Nd) : n.plain = .mk n.sy n.pr (if n.pr < 0 then n.ld else 0) n.wd n.st n.lk n.fm (n.kids.map Nd.plain) := by
  cases n; unfold Nd.plain; rw [NdsPlain_eq]; rfl
theorem PnsLeaves_eq : ∀ l : List Pn, PnsLeaves l = l.flatMap Pn.leaves
  | [] => rfl
  | n :: ns => by unfold PnsLeaves; rw [PnsLeaves_eq ns]; rfl
theorem plain_sy (n : Nd) : n.plain.sy = n.sy := by rw [n.plain_eq]; rfl

theorem leaves_leaf {n : Nd} (h : n.pr < 0) : n.plain.leaves = [(n.sy, n.ld, n.wd)] := by
  rw [n.plain_eq]; unfold Pn.leaves; rw [if_pos h, if_pos h]
theorem leaves_node {n : Nd} (h : 0 ≤ n.pr) : n.plain.leaves = PnsLeaves (n.kids.map Nd.plain) := by
  rw [n.plain_eq]; unfold Pn.leaves; rw [if_neg (by omega)]

/-- What a node adds up is what its tokens add up to. -/
theorem Nd.WF.adds : ∀ n : Nd, n.WF → n.tk = n.plain.leaves.length ∧ n.bt = n.plain.bytes ∧ n.ld = n.plain.lead ∧ n.ht = n.plain.height := by
  refine Nd.ind ?_
  intro n ih h
  have hk : ∀ l : List Nd, (∀ k ∈ l, k ∈ n.kids) → sumTk l = (PnsLeaves (l.map Nd.plain)).length ∧ sumBt l = bytesOf (PnsLeaves (l.map Nd.plain)) ∧ maxHt l = PnsHeight (l.map Nd.plain) := by
    intro l
    induction l with
    | nil => intro _; simp [sumTk, sumBt, maxHt, PnsLeaves, PnsHeight, bytesOf]
    | cons k ks ihl =>
      intro hl
      obtain ⟨a1, a2, a3⟩ := ihl fun k hk => hl k (by simp [hk])
      have hkm := hl k (by simp)
      obtain ⟨b1, b2, b3, b4⟩ := ih k hkm (h.kid k hkm)
      simp only [List.map_cons]
      unfold PnsLeaves PnsHeight
      rw [sumTk_cons, sumBt_cons, bytesOf_append, List.length_append]
      refine ⟨by omega, ?_, ?_⟩
      · rw [a2, b2]; rfl
      · show max k.ht (maxHt ks) = _
        rw [a3, b4]
  obtain ⟨c1, c2, c3⟩ := hk n.kids fun _ h => h
  have hh : n.plain.height = PnsHeight (n.kids.map Nd.plain) + 1 := by rw [n.plain_eq]; unfold Pn.height; rfl
  rcases h.cases with ⟨h1, h2, h3, h4, h5, h6, h7, h8, h9, h10, h11, h12⟩ | ⟨h1, h2, h3, h4, h5, h6, h7, h8, h9, h10, h11, h12⟩
  · have hl := leaves_leaf (n := n) (by omega)
    refine ⟨by rw [hl]; simp; omega, by unfold Pn.bytes; rw [hl]; simp [bytesOf]; omega, by unfold Pn.lead; rw [hl], ?_⟩
    rw [hh, h2]
    simp [PnsHeight]
    omega
  · have hl := leaves_node (n := n) h1
    refine ⟨by rw [hl, h3, c1], by unfold Pn.bytes; rw [hl, h4, c2], ?_, by rw [hh, h6, c3]⟩
    rw [h5]
    unfold Pn.lead
    rw [hl]
    cases hkk : n.kids with
    | nil => exact absurd hkk h2
    | cons k ks =>
      have hkm : k ∈ n.kids := by rw [hkk]; simp
      obtain ⟨b1, b2, b3, b4⟩ := ih k hkm (h.kid k hkm)
      have hne : k.plain.leaves ≠ [] := by
        intro e
        rw [e] at b1
        have := (Nd.WF.ok k (h.kid k hkm)).tk1
        simp at b1
        omega
      simp only [List.map_cons]
      unfold PnsLeaves
      show k.ld = _
      rw [b3]
      unfold Pn.lead
      cases hlv : k.plain.leaves with
      | nil => exact absurd hlv hne
      | cons t ts => rfl

/-! ### The builder -/
/-- A leaf, or why there is none. -/
def leafP (k l wd st : Int) (fm : Bool) : Except Int Pn :=
  if k < 0 ∨ 32 ≤ k ∨ st < 0 ∨ l < 0 ∨ wd < 0 then .error 2 else if 65536 < l ∨ 65536 - l < wd then .error 3 else .ok (.mk k (-1) l wd st (-1) fm [])

/-- A node, or why there is none. -/
def makeP (head : Int) (body : List Int) (prod st lk : Int) (fm : Bool) (kids : List Pn) : Except Int Pn :=
  if prod < 0 ∨ head < 0 ∨ st < 0 ∨ lk < 0 ∨ body = [] then .error 2 else if body ≠ kids.map Pn.sy then .error 200 else
    if 65536 < bytesOf (PnsLeaves kids) ∨ 262144 < ((PnsLeaves kids).length : Int) then .error 3 else .ok (.mk head prod 0 0 st lk fm kids)

/-- The stamp that comes next; the lead and the width that come next. -/
def stampP (sts : List (Int × Int × Bool)) (md : Nat) : Int × Int × Bool := sts.getD (md % sts.length) (0, 0, false)
def leadP (tks : List (Int × Int × Int)) (lv : Nat) : Int × Int := ((tks.getD (lv % tks.length) (0, 0, 0)).2.1, (tks.getD (lv % tks.length) (0, 0, 0)).2.2)

mutual
/-- A tree's node, and how many leaves and stamps were used up. -/
def bldT (tks : List (Int × Int × Int)) (sts : List (Int × Int × Bool)) : Tr → Nat → Nat → Except Int Pn × Nat × Nat
  | .mk s p kids, lv, md =>
    if kids.length = 0 then (leafP s (leadP tks lv).1 (leadP tks lv).2 (stampP sts md).1 (stampP sts md).2.2, lv + 1, md + 1)
    else match bldL tks sts kids lv md with
      | (.error e, lv', md') => (.error e, lv', md')
      | (.ok l, lv', md') => (makeP s (kids.map Tr.sy) p (stampP sts md').1 (stampP sts md').2.1 (stampP sts md').2.2 l, lv', md' + 1)
def bldL (tks : List (Int × Int × Int)) (sts : List (Int × Int × Bool)) : List Tr → Nat → Nat → Except Int (List Pn) × Nat × Nat
  | [], lv, md => (.ok [], lv, md)
  | t :: ts, lv, md => match bldT tks sts t lv md with
    | (.error e, lv', md') => (.error e, lv', md')
    | (.ok n, lv', md') => match bldL tks sts ts lv' md' with
      | (.error e, lv2, md2) => (.error e, lv2, md2)
      | (.ok l, lv2, md2) => (.ok (n :: l), lv2, md2)
end

/-- What stands behind nodes that are there already. -/
def afterP (ns : List Pn) : Except Int (List Pn) × Nat × Nat → Except Int (List Pn) × Nat × Nat
  | (.error e, a, b) => (.error e, a, b)
  | (.ok l, a, b) => (.ok (ns ++ l), a, b)

theorem afterP_nil (x : Except Int (List Pn) × Nat × Nat) : afterP [] x = x := by
  rcases x with ⟨e | l, a, b⟩ <;> rfl

theorem afterP_cons (ns : List Pn) (tks sts) (t : Tr) (ts : List Tr) (lv md : Nat) : afterP ns (bldL tks sts (t :: ts) lv md) = match bldT tks sts t lv md with
    | (.error e, lv', md') => (.error e, lv', md')
    | (.ok n, lv', md') => afterP (ns ++ [n]) (bldL tks sts ts lv' md') := by
  rw [bldL]
  rcases bldT tks sts t lv md with ⟨e | n, a, b⟩
  · rfl
  · simp only []
    rcases bldL tks sts ts a b with ⟨e | l, c, d⟩
    · rfl
    · simp [afterP]

mutual
theorem bldT_counts (tks sts) : ∀ (t : Tr) (lv md : Nat), (bldT tks sts t lv md).2.1 ≤ lv + t.cnt ∧ (bldT tks sts t lv md).2.2 ≤ md + t.cnt
  | .mk s p kids, lv, md => by
    have := bldL_counts tks sts kids lv md
    unfold bldT Tr.cnt
    split
    · simp only []; omega
    · split
      · rename_i h; rw [h] at this; simp only [] at this ⊢; omega
      · rename_i h; rw [h] at this; simp only [] at this ⊢; omega
theorem bldL_counts (tks sts) : ∀ (ts : List Tr) (lv md : Nat), (bldL tks sts ts lv md).2.1 ≤ lv + TrsCnt ts ∧ (bldL tks sts ts lv md).2.2 ≤ md + TrsCnt ts
  | [], lv, md => by unfold bldL TrsCnt; simp only []; omega
  | t :: ts, lv, md => by
    have h1 := bldT_counts tks sts t lv md
    unfold bldL TrsCnt
    split
    · rename_i h; rw [h] at h1; simp only [] at h1 ⊢; omega
    · rename_i n lv' md' h
      rw [h] at h1
      simp only [] at h1
      have h2 := bldL_counts tks sts ts lv' md'
      split
      · rename_i h3; rw [h3] at h2; simp only [] at h2 ⊢; omega
      · rename_i h3; rw [h3] at h2; simp only [] at h2 ⊢; omega
end

end Go.Proofs.Ytcjpmgfobnaoeaa
