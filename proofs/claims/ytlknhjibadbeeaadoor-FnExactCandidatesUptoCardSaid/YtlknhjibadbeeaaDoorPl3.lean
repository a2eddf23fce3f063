/- Plain definitions: operators, goals that are built in, plain goals, clauses (no program in sight). -/
import Derived.Test.YtlknhjibadbeeaaDoorPl2
namespace Go.Proofs.YtlknhjibadbeeaaDoor

/-- the level of an operator, or 0 -/
def lev (nm : By) : Int :=
  if nm = [61] then 3
  else if nm = [92, 61] then 3
  else if nm = [61, 61] then 3
  else if nm = [60] then 3
  else if nm = [62] then 3
  else if nm = [61, 60] then 3
  else if nm = [62, 61] then 3
  else if nm = [61, 58, 61] then 3
  else if nm = [105, 115] then 3
  else if nm = [43] then 2
  else if nm = [45] then 2
  else if nm = [42] then 1
  else if nm = [47, 47] then 1
  else if nm = [109, 111, 100] then 1
  else 0
/-- the number of arguments of goals of this name that are built in, or -1 -/
def bltAr (nm : By) : Int :=
  if nm = [61] then 2
  else if nm = [92, 61] then 2
  else if nm = [61, 61] then 2
  else if nm = [60] then 2
  else if nm = [62] then 2
  else if nm = [61, 60] then 2
  else if nm = [62, 61] then 2
  else if nm = [61, 58, 61] then 2
  else if nm = [105, 115] then 2
  else if nm = [116, 114, 117, 101] then 0
  else if nm = [102, 97, 105, 108] then 0
  else if nm = [118, 97, 114] then 1
  else if nm = [110, 111, 110, 118, 97, 114] then 1
  else if nm = [97, 116, 111, 109] then 1
  else if nm = [105, 110, 116] then 1
  else if nm = [97, 114, 103] then 3
  else -1
theorem all_takeS {α : Type} (p : α → Bool) (l : List α) (k : Nat) (h : k < l.length) (ha : (l.take k).all p = true) (hc : p l[k] = true) : (l.take (k + 1)).all p = true := by
  rw [List.take_succ_eq_append_getElem h, List.all_append, ha]; simp [hc]
theorem all_noS {α : Type} (p : α → Bool) (l : List α) (k : Nat) (h : k < l.length) (hc : p l[k] = false) : l.all p = false := by
  rw [List.all_eq_false]; exact ⟨l[k], List.getElem_mem h, by simp [hc]⟩
theorem all_fullS {α : Type} (p : α → Bool) (l : List α) (k : Nat) (h : l.length ≤ k) (ha : (l.take k).all p = true) : l.all p = true := by
  rw [List.take_of_length_le h] at ha; exact ha

def isBlt (nm : By) (len : Nat) : Bool := decide (bltAr nm = len)
def isCutT (t : Tm) : Bool := decide (t.kind = 3) && decide (t.name = [33]) && decide (t.kids.length = 0)
def isPlainT (t : Tm) : Bool := decide (t.kind = 3) && isWord t.name && !(isBlt t.name t.kids.length) && decide (lev t.name = 0)
def isBltT (t : Tm) : Bool := decide (t.kind = 3) && isBlt t.name t.kids.length
def goalOk (t : Tm) : Bool := termOk t && (isCutT t || isPlainT t || isBltT t)
def clauseOk (c : Cl) : Bool := decide (c.body.length ≤ 6) && c.body.all goalOk && termOk c.head && isPlainT c.head
def progOk (p : List Cl) : Bool := decide (p.length ≤ 20) && p.all clauseOk

end Go.Proofs.YtlknhjibadbeeaaDoor
