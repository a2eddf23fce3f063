/- Plain definitions on terms, clauses and programs (no program in sight). -/
import Derived.Test.YtlknhjibadbeeaaDoorPl1
namespace Go.Proofs.YtlknhjibadbeeaaDoor

/-- the fields of a node, apart from its arguments -/
def ownOk (k n : Int) (nm : By) (len : Nat) : Bool :=
  if k = 1 then decide (0 ≤ n) && decide (n ≤ 25) && decide (nm = []) && decide (len = 0)
  else if k = 2 then decide (-999 ≤ n) && decide (n ≤ 999) && decide (nm = []) && decide (len = 0)
  else if k = 3 then decide (n = 0) && nameOk nm && decide (len ≤ 4)
  else false

mutual
/-- well-formed, down to a depth -/
def shape : Tm → Nat → Bool
  | .mk k n nm ks, d => decide (1 ≤ d) && ownOk k n nm ks.length && shapes ks (d - 1)
def shapes : List Tm → Nat → Bool
  | [], _ => true
  | t :: ts, d => shape t d && shapes ts d
end
mutual
/-- the nodes of a term -/
def nodes : Tm → Nat
  | .mk _ _ _ ks => nodesL ks + 1
def nodesL : List Tm → Nat
  | [] => 0
  | t :: ts => nodes t + nodesL ts
end
def termOk (t : Tm) : Bool := shape t 30 && decide (nodes t ≤ 120)

theorem nodes_pos (t : Tm) : 1 ≤ nodes t := by cases t; simp [nodes]
theorem nodesL_len : ∀ ts : List Tm, ts.length ≤ nodesL ts
  | [] => by simp [nodesL]
  | t :: ts => by have := nodes_pos t; have := nodesL_len ts; simp only [nodesL, List.length_cons]; omega
theorem nodes_mem : ∀ {ts : List Tm} {t : Tm}, t ∈ ts → nodes t ≤ nodesL ts
  | x :: ts, t, h => by
    simp only [nodesL]
    cases List.mem_cons.1 h with
    | inl e => subst e; omega
    | inr e => have := nodes_mem e; omega
theorem shapes_all : ∀ (ts : List Tm) (d : Nat), shapes ts d = ts.all fun t => shape t d
  | [], _ => rfl
  | t :: ts, d => by simp only [shapes, List.all_cons, shapes_all ts d]
theorem nodesL_append : ∀ a b : List Tm, nodesL (a ++ b) = nodesL a + nodesL b
  | [], b => by simp [nodesL]
  | t :: a, b => by simp only [List.cons_append, nodesL, nodesL_append a b]; omega

mutual
/-- the longest name in a term, and the arguments of a node, are at most so long -/
def namesLe : Tm → Nat → Bool
  | .mk _ _ nm ks, m => decide (nm.length ≤ m) && namesLeL ks m
def namesLeL : List Tm → Nat → Bool
  | [], _ => true
  | t :: ts, m => namesLe t m && namesLeL ts m
end
theorem namesLeL_mem : ∀ {ts : List Tm} {t : Tm} {m : Nat}, namesLeL ts m = true → t ∈ ts → namesLe t m = true
  | x :: ts, t, m, h, ht => by
    simp only [namesLeL, Bool.and_eq_true] at h
    cases List.mem_cons.1 ht with
    | inl e => subst e; exact h.1
    | inr e => exact namesLeL_mem h.2 e

/-- clauses -/
structure Cl where
  head : Tm
  body : List Tm

end Go.Proofs.YtlknhjibadbeeaaDoor
