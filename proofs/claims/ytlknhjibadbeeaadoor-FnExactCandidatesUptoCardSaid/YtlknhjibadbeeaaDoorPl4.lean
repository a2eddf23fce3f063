/- Plain definitions: keys and candidates (no program in sight). -/
import Derived.Test.YtlknhjibadbeeaaDoorPl3
namespace Go.Proofs.YtlknhjibadbeeaaDoor

/-- the clauses of a predicate among the first k -/
def forIdx (p : List Cl) (nm : By) (len : Nat) (k : Nat) : List Nat :=
  (List.range k).filter fun i => match p[i]? with | none => false | some c => (c.head.name == nm) && decide (c.head.kids.length = len)
theorem forIdx_yes (p : List Cl) (nm : By) (len k : Nat) (h : k < p.length) (h1 : (p[k].head.name == nm) = true) (h2 : p[k].head.kids.length = len) : forIdx p nm len (k + 1) = forIdx p nm len k ++ [k] := by
  unfold forIdx
  rw [List.range_succ, List.filter_append]
  simp [List.getElem?_eq_getElem h, h2]
  simpa using h1
theorem forIdx_no (p : List Cl) (nm : By) (len k : Nat) (h : k < p.length) (h1 : (p[k].head.name == nm) = false ∨ p[k].head.kids.length ≠ len) : forIdx p nm len (k + 1) = forIdx p nm len k := by
  unfold forIdx
  rw [List.range_succ, List.filter_append]
  simp [List.getElem?_eq_getElem h]
  intro h3
  rcases h1 with h1 | h1
  · simp at h1; exact absurd h3 h1
  · exact h1
theorem forIdx_len (p : List Cl) (nm : By) (len k : Nat) : (forIdx p nm len k).length ≤ k := by
  unfold forIdx
  exact Nat.le_trans (List.length_filter_le _ _) (by simp)
theorem forIdx_lt (p : List Cl) (nm : By) (len k : Nat) {i : Nat} (h : i ∈ forIdx p nm len k) : i < k := by
  unfold forIdx at h
  simp at h
  exact h.1

/-- the key of a term -/
def keyOf (t : Tm) : By :=
  match t.kids with
  | [] => []
  | x :: _ => if x.kind = 1 then [] else if x.kind = 2 then Lib.itoa x.n else x.name ++ 47 :: Lib.itoa x.kids.length
def keyFit (a b : By) : Bool := a.isEmpty || b.isEmpty || a == b
def candsOf (p : List Cl) (t : Tm) : List Nat :=
  (forIdx p t.name t.kids.length p.length).filter fun i => match p[i]? with | none => false | some c => keyFit (keyOf c.head) (keyOf t)

end Go.Proofs.YtlknhjibadbeeaaDoor
