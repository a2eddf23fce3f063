/- Plain definitions (no program in sight): terms, names, instructions and their texts. -/
import Derived.Lib.ItoaNum
namespace Go.Proofs.YtlknhjibadbeeaaDoor

/-- a text as bytes -/
abbrev By := List UInt8

/-- terms -/
inductive Tm where
  | mk (kind n : Int) (name : By) (kids : List Tm)

namespace Tm
def kind : Tm → Int | .mk k _ _ _ => k
def n : Tm → Int | .mk _ n _ _ => n
def name : Tm → By | .mk _ _ s _ => s
def kids : Tm → List Tm | .mk _ _ _ ks => ks
end Tm

/-- the names that are no letters -/
def signs : List By := [[43], [45], [42], [47, 47], [61], [92, 61], [61, 61], [60], [62], [61, 60], [62, 61], [61, 58, 61], [46], [91, 93], [33]]
def isLower (c : UInt8) : Bool := 97 ≤ c && c ≤ 122
def isWord (s : By) : Bool := s.all isLower && decide (1 ≤ s.length) && decide (s.length ≤ 6)
def nameOk (s : By) : Bool := isWord s || signs.contains s

/-- instructions -/
structure Ins where
  op : Int
  a : Int
  b : Int
  name : By

/-- the form of an instruction: its word, and whether it has A, B and a name -/
structure Frm where
  word : By
  a : Bool
  b : Bool
  n : Bool

def formOf (op : Int) : Option Frm :=
  if op = 1 then some ⟨[103, 101, 116, 118, 97, 108], true, true, false⟩
  else if op = 2 then some ⟨[103, 101, 116, 105, 110, 116], true, true, false⟩
  else if op = 3 then some ⟨[103, 101, 116, 115, 116, 114], true, true, true⟩
  else if op = 4 then some ⟨[117, 110, 105, 118, 97, 114], true, false, false⟩
  else if op = 5 then some ⟨[117, 110, 105, 118, 97, 108], true, false, false⟩
  else if op = 6 then some ⟨[117, 110, 105, 105, 110, 116], true, false, false⟩
  else if op = 7 then some ⟨[115, 101, 116, 115, 116, 114], true, true, true⟩
  else if op = 8 then some ⟨[112, 117, 116, 118, 97, 114], true, true, false⟩
  else if op = 9 then some ⟨[112, 117, 116, 118, 97, 108], true, true, false⟩
  else if op = 10 then some ⟨[112, 117, 116, 105, 110, 116], true, true, false⟩
  else if op = 11 then some ⟨[99, 97, 108, 108], true, false, true⟩
  else if op = 12 then some ⟨[98, 117, 105, 108, 116], true, false, true⟩
  else if op = 13 then some ⟨[99, 117, 116], false, false, false⟩
  else if op = 14 then some ⟨[101, 110, 100], false, false, false⟩
  else none

def insOk (x : Ins) : Bool :=
  match formOf x.op with
  | none => false
  | some f => decide (-999 ≤ x.a) && decide (x.a ≤ 999) && decide (0 ≤ x.b) && decide (x.b ≤ 999) && (f.a || decide (x.a = 0)) && (f.b || decide (x.b = 0)) && (if f.n then nameOk x.name else decide (x.name = []))

/-- the text of an instruction; empty if it has none -/
def insText (x : Ins) : By :=
  if insOk x then
    match formOf x.op with
    | none => []
    | some f => f.word ++ ((if f.a then 32 :: Lib.itoa x.a else []) ++ ((if f.b then 32 :: Lib.itoa x.b else []) ++ (if f.n then 32 :: x.name else [])))
  else []

def insCond (f : Frm) (a b : Int) (l : By) : Prop :=
  -999 ≤ a ∧ a ≤ 999 ∧ 0 ≤ b ∧ b ≤ 999 ∧ (f.a = true ∨ a = 0) ∧ (f.b = true ∨ b = 0) ∧ (f.n = true ∧ nameOk l = true ∨ f.n = false ∧ l = [])

theorem insOk_iff (op a b : Int) (l : By) (f : Frm) (h : formOf op = some f) : insOk ⟨op, a, b, l⟩ = true ↔ insCond f a b l := by
  unfold insOk insCond
  simp only [h]
  cases f with
  | mk wd fa fb fn => cases fa <;> cases fb <;> cases fn <;> simp [and_assoc]

theorem insText_no (op a b : Int) (l : By) (f : Frm) (h : formOf op = some f) (hc : ¬ insCond f a b l) : insText ⟨op, a, b, l⟩ = [] := by
  unfold insText
  rw [if_neg (fun hk => hc ((insOk_iff op a b l f h).1 hk))]

theorem insText_yes (op a b : Int) (l : By) (f : Frm) (h : formOf op = some f) (hc : insCond f a b l) :
    insText ⟨op, a, b, l⟩ = f.word ++ ((if f.a then 32 :: Lib.itoa a else []) ++ ((if f.b then 32 :: Lib.itoa b else []) ++ (if f.n then 32 :: l else []))) := by
  unfold insText
  rw [if_pos ((insOk_iff op a b l f h).2 hc)]
  simp only [h]

theorem insText_none (op a b : Int) (l : By) (h : formOf op = none) : insText ⟨op, a, b, l⟩ = [] ∧ insOk ⟨op, a, b, l⟩ = false := by
  unfold insText insOk
  simp [h]

/-- the text of code -/
def codeText (code : List Ins) : By :=
  if code.length ≤ 2000 ∧ code.all insOk then code.flatMap fun x => insText x ++ [10] else []

/-- the text of the first k instructions -/
def codePre (code : List Ins) (k : Nat) : By := (code.take k).flatMap fun x => insText x ++ [10]

theorem codePre_succ (code : List Ins) (k : Nat) (h : k < code.length) : codePre code (k + 1) = codePre code k ++ insText code[k] ++ [10] := by
  unfold codePre
  rw [List.take_succ_eq_append_getElem h, List.flatMap_append]
  simp

theorem codeText_long (code : List Ins) (h : 2000 < code.length) : codeText code = [] := by
  unfold codeText
  rw [if_neg (by omega)]

theorem codeText_bad (code : List Ins) (k : Nat) (h : k < code.length) (hb : insOk code[k] = false) : codeText code = [] := by
  unfold codeText
  rw [if_neg]
  rintro ⟨_, ha⟩
  have := List.all_eq_true.1 ha _ (List.getElem_mem h)
  rw [hb] at this
  cases this

theorem codeText_good (code : List Ins) (h : code.length ≤ 2000) (ha : (code.take code.length).all insOk = true) : codeText code = codePre code code.length := by
  unfold codeText codePre
  rw [List.take_length] at *
  rw [if_pos ⟨h, ha⟩]

theorem all_ok_succ (code : List Ins) (k : Nat) (h : k < code.length) (ha : (code.take k).all insOk = true) (hb : insOk code[k] = true) : (code.take (k + 1)).all insOk = true := by
  rw [List.take_succ_eq_append_getElem h, List.all_append, ha]; simp [hb]

end Go.Proofs.YtlknhjibadbeeaaDoor
