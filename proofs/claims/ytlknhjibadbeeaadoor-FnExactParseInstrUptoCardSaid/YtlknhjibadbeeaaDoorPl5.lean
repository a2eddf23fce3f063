/- Plain laws: an instruction is known by its text (no program in sight). -/
import Derived.Test.YtlknhjibadbeeaaDoorPl1
import Derived.Lib.AtoiAllCases
namespace Go.Proofs.YtlknhjibadbeeaaDoor

/-- a text cut at every space -/
def spl : By → List By
  | [] => [[]]
  | c :: r => if c = 32 then [] :: spl r else match spl r with | [] => [[c]] | h :: t => (c :: h) :: t

theorem spl_cons (c : UInt8) (r : By) : spl (c :: r) = if c = 32 then [] :: spl r else match spl r with | [] => [[c]] | h :: t => (c :: h) :: t := rfl
theorem spl_ne : ∀ l, spl l ≠ []
  | [] => by simp [spl]
  | c :: r => by
    unfold spl
    split
    · simp
    · split <;> simp
theorem spl_last : ∀ (w : By), (32 : UInt8) ∉ w → spl w = [w]
  | [], _ => rfl
  | c :: r, h => by
    simp only [List.mem_cons, not_or] at h
    unfold spl
    rw [if_neg (fun e => h.1 e.symm), spl_last r h.2]
theorem spl_word : ∀ (w r : By), (32 : UInt8) ∉ w → spl (w ++ 32 :: r) = w :: spl r
  | [], r, _ => by rw [List.nil_append, spl_cons, if_pos rfl]
  | c :: w, r, h => by
    simp only [List.mem_cons, not_or] at h
    rw [List.cons_append, spl_cons, if_neg (fun e => h.1 e.symm), spl_word w r h.2]

theorem dig_no32 (k : Nat) (h : k < 10) : (32 : UInt8) ≠ UInt8.ofNat (48 + k) := by
  have : ∀ k : Fin 10, (32 : UInt8) ≠ UInt8.ofNat (48 + k) := by decide
  exact this ⟨k, h⟩
theorem decDigits_no32 : ∀ (n : Nat), (32 : UInt8) ∉ Lib.decDigits n := by
  intro n
  induction n using Nat.strongRecOn with
  | _ n ih =>
    by_cases h : n < 10
    · rw [Lib.decDigits, dif_pos h]
      simp only [List.mem_singleton]
      exact dig_no32 n h
    · rw [Lib.decDigits, dif_neg h]
      simp only [List.mem_append, List.mem_singleton, not_or]
      exact ⟨ih (n / 10) (by omega), dig_no32 (n % 10) (by omega)⟩
theorem itoa_no32 (n : Int) : (32 : UInt8) ∉ Lib.itoa n := by
  unfold Lib.itoa
  split
  · simp only [List.mem_cons, not_or]
    exact ⟨by decide, decDigits_no32 _⟩
  · exact decDigits_no32 _
theorem name_no32 (l : By) (h : nameOk l = true) : (32 : UInt8) ∉ l := by
  simp only [nameOk, Bool.or_eq_true] at h
  rcases h with h | h
  · simp only [isWord, Bool.and_eq_true, List.all_eq_true] at h
    intro hm
    have := h.1.1 _ hm
    revert this
    decide
  · have hs : ∀ s ∈ signs, (32 : UInt8) ∉ s := by decide
    exact hs l (by simpa using h)

/-- the operation that a word names, or 0 -/
def opOf (w : By) : Int :=
  if w = [103, 101, 116, 118, 97, 108] then 1 else if w = [103, 101, 116, 105, 110, 116] then 2 else if w = [103, 101, 116, 115, 116, 114] then 3
  else if w = [117, 110, 105, 118, 97, 114] then 4 else if w = [117, 110, 105, 118, 97, 108] then 5 else if w = [117, 110, 105, 105, 110, 116] then 6
  else if w = [115, 101, 116, 115, 116, 114] then 7 else if w = [112, 117, 116, 118, 97, 114] then 8 else if w = [112, 117, 116, 118, 97, 108] then 9
  else if w = [112, 117, 116, 105, 110, 116] then 10 else if w = [99, 97, 108, 108] then 11 else if w = [98, 117, 105, 108, 116] then 12
  else if w = [99, 117, 116] then 13 else if w = [101, 110, 100] then 14 else 0

theorem formOf_rng (op : Int) (f : Frm) (h : formOf op = some f) : 1 ≤ op ∧ op ≤ 14 := by
  by_cases hr : 1 ≤ op ∧ op ≤ 14
  · exact hr
  · unfold formOf at h
    rw [if_neg (by omega), if_neg (by omega), if_neg (by omega), if_neg (by omega), if_neg (by omega), if_neg (by omega), if_neg (by omega), if_neg (by omega), if_neg (by omega), if_neg (by omega), if_neg (by omega), if_neg (by omega), if_neg (by omega), if_neg (by omega)] at h
    cases h
theorem formOf_cs (op : Int) (h0 : 1 ≤ op) (h1 : op ≤ 14) : op = 1 ∨ op = 2 ∨ op = 3 ∨ op = 4 ∨ op = 5 ∨ op = 6 ∨ op = 7 ∨ op = 8 ∨ op = 9 ∨ op = 10 ∨ op = 11 ∨ op = 12 ∨ op = 13 ∨ op = 14 := by omega
theorem formOf_opOf (op : Int) (f : Frm) (h : formOf op = some f) : opOf f.word = op ∧ (32 : UInt8) ∉ f.word ∧ f.word ≠ [] ∧ f.word.length ≤ 6 ∧ (f.b = true → f.a = true) ∧ (f.n = true → f.a = true) := by
  obtain ⟨h0, h1⟩ := formOf_rng op f h
  rcases formOf_cs op h0 h1 with rfl | rfl | rfl | rfl | rfl | rfl | rfl | rfl | rfl | rfl | rfl | rfl | rfl | rfl
  all_goals
    simp [formOf] at h
    subst h
    decide

/-- the words of an instruction's text -/
def wordsOf (f : Frm) (a b : Int) (l : By) : List By := f.word :: ((if f.a then [Lib.itoa a] else []) ++ ((if f.b then [Lib.itoa b] else []) ++ (if f.n then [l] else [])))

theorem spl_insText (op a b : Int) (l : By) (f : Frm) (h : formOf op = some f) (hc : insCond f a b l) : spl (insText ⟨op, a, b, l⟩) = wordsOf f a b l := by
  rw [insText_yes op a b l f h hc]
  obtain ⟨-, hw, -, -⟩ := formOf_opOf op f h
  obtain ⟨-, -, -, -, -, -, hn⟩ := hc
  unfold wordsOf
  cases f with
  | mk wd fa fb fn =>
    simp only at hn hw ⊢
    have h1 := itoa_no32 a
    have h2 := itoa_no32 b
    cases fn
    · cases fa <;> cases fb <;> simp [spl_word, spl_last, hw, h1, h2]
    · have h3 : (32 : UInt8) ∉ l := by
        rcases hn with hn | hn
        · exact name_no32 l hn.2
        · simp at hn
      cases fa <;> cases fb <;> simp [spl_word, spl_last, hw, h1, h2, h3]

/-- an instruction is known by its text -/
theorem text_form (y : Ins) (h : insOk y = true) : ∃ f, formOf y.op = some f ∧ insCond f y.a y.b y.name ∧ spl (insText y) = wordsOf f y.a y.b y.name := by
  obtain ⟨op, a, b, l⟩ := y
  cases hf : formOf op with
  | none => rw [(insText_none op a b l hf).2] at h; cases h
  | some f =>
    have hc := (insOk_iff op a b l f hf).1 h
    exact ⟨f, rfl, hc, spl_insText op a b l f hf hc⟩

/-- the digits of a number below a thousand -/
def three (n : Nat) : By := if n < 10 then [UInt8.ofNat (48 + n)] else if n < 100 then [UInt8.ofNat (48 + n / 10), UInt8.ofNat (48 + n % 10)] else [UInt8.ofNat (48 + n / 100), UInt8.ofNat (48 + n / 10 % 10), UInt8.ofNat (48 + n % 10)]
theorem decDigits_three (n : Nat) (h : n < 1000) : Lib.decDigits n = three n := by
  unfold three
  split
  · rw [Lib.decDigits_one (by assumption)]
  · split
    · rw [Lib.decDigits_two (by assumption) (by assumption)]
    · rw [Lib.decDigits, dif_neg (by assumption), Lib.decDigits_two (by omega) (by omega), Nat.div_div_eq_div_mul]; rfl

theorem three_mag : ∀ n : Fin 1000, Lib.parseMag (three n) = .ok n.val ∧ (three n).length ≤ 3 ∧ ((three n).head?.map (·.toNat) ≠ some 43) ∧ ((three n).head?.map (·.toNat) ≠ some 45) := by decide +kernel

/-- Atoi reads back what Itoa writes -/
theorem atoi_itoa (a : Int) (h0 : -999 ≤ a) (h1 : a ≤ 999) : Lib.atoiAll (Lib.itoa a) = .ok a := by
  by_cases hn : a < 0
  · obtain ⟨u, hu, hu1, hu2⟩ : ∃ u : Nat, a = -(u : Int) ∧ 1 ≤ u ∧ u < 1000 := ⟨a.natAbs, by omega, by omega, by omega⟩
    subst hu
    have e : Lib.itoa (-(u : Int)) = 45 :: Lib.decDigits u := by unfold Lib.itoa; rw [if_pos (by omega)]; simp
    rw [e, decDigits_three u hu2, Lib.atoiAll_minus, (three_mag ⟨u, hu2⟩).1]
    simp [Lib.signed]
    omega
  · obtain ⟨u, hu, hu2⟩ : ∃ u : Nat, a = (u : Int) ∧ u < 1000 := ⟨a.toNat, by omega, by omega⟩
    subst hu
    have e : Lib.itoa (u : Int) = Lib.decDigits u := by unfold Lib.itoa; rw [if_neg (by omega)]; simp
    obtain ⟨g1, g2, g3, g4⟩ := three_mag ⟨u, hu2⟩
    rw [e, decDigits_three u hu2]
    cases ht : three u with
    | nil => simp only [ht] at g1; simp [Lib.parseMag] at g1
    | cons c r =>
      simp only [ht, List.head?_cons, Option.map_some, ne_eq, Option.some.injEq] at g1 g3 g4
      rw [Lib.atoiAll_plain c r g3 g4, g1]
      simp [Lib.signless]
      omega

/-- what a parse answers: the instruction with this text, if there is one -/
def Reads (text : By) (o : Option Ins) : Prop := match o with
  | some y => insOk y = true ∧ insText y = text
  | none => ∀ y, insOk y = true → insText y ≠ text

theorem itoa_inj (a b : Int) (h0 : -999 ≤ a) (h1 : a ≤ 999) (h2 : -999 ≤ b) (h3 : b ≤ 999) (h : Lib.itoa a = Lib.itoa b) : a = b := by
  have e1 := atoi_itoa a h0 h1
  have e2 := atoi_itoa b h2 h3
  rw [h, e2] at e1
  injection e1 with e1
  exact e1.symm

theorem ok_inj (x y : Ins) (hx : insOk x = true) (hy : insOk y = true) (h : insText x = insText y) : x = y := by
  obtain ⟨f, hf, hc, hs⟩ := text_form x hx
  obtain ⟨g, hg, hd, ht⟩ := text_form y hy
  rw [h, ht] at hs
  have hw : g.word = f.word := by unfold wordsOf at hs; simp only [List.cons.injEq] at hs; exact hs.1
  have hop : x.op = y.op := by rw [← (formOf_opOf _ _ hf).1, ← (formOf_opOf _ _ hg).1, hw]
  have hfg : f = g := by rw [hop, hg] at hf; exact (Option.some.inj hf).symm
  subst hfg
  obtain ⟨xo, xa, xb, xl⟩ := x
  obtain ⟨yo, ya, yb, yl⟩ := y
  obtain ⟨a1, a2, b1, b2, ca, cb, cn⟩ := hc
  obtain ⟨a3, a4, b3, b4, da, db, dn⟩ := hd
  simp only at hop a1 a2 b1 b2 ca cb cn a3 a4 b3 b4 da db dn
  unfold wordsOf at hs
  simp only [List.cons.injEq, true_and] at hs
  obtain ⟨-, -, -, -, hba, hna⟩ := formOf_opOf _ _ hf
  cases f with
  | mk wd fa fb fn =>
    simp only at hs ca cb cn da db dn hba hna
    subst hop
    cases fa
    · have hb : fb = false := by cases fb <;> simp_all
      have hn : fn = false := by cases fn <;> simp_all
      subst hb hn
      simp at ca cb cn da db dn
      subst ca cb cn da db dn
      rfl
    · cases fb
      · cases fn
        · simp at hs ca cb cn da db dn
          have := itoa_inj _ _ a3 a4 a1 a2 hs
          subst this cb cn db dn
          rfl
        · simp at hs ca cb cn da db dn
          have := itoa_inj _ _ a3 a4 a1 a2 hs.1
          have h2 := hs.2
          subst this cb db h2
          rfl
      · cases fn
        · simp at hs ca cb cn da db dn
          have := itoa_inj _ _ a3 a4 a1 a2 hs.1
          have h2 := itoa_inj _ _ (by omega) (by omega) (by omega) (by omega) hs.2
          subst this cn dn h2
          rfl
        · simp at hs ca cb cn da db dn
          have := itoa_inj _ _ a3 a4 a1 a2 hs.1
          have h2 := itoa_inj _ _ (by omega) (by omega) (by omega) (by omega) hs.2.1
          have h3 := hs.2.2
          subst this h2 h3
          rfl

theorem reads_inj (text : By) (o p : Option Ins) (h : Reads text o) (h' : Reads text p) : o = p := by
  cases o with
  | none =>
    cases p with
    | none => rfl
    | some y => exact absurd h'.2 (h y h'.1)
  | some x =>
    cases p with
    | none => exact absurd h.2 (h' x h.1)
    | some y => rw [ok_inj x y h.1 h'.1 (h.2.trans h'.2.symm)]
end Go.Proofs.YtlknhjibadbeeaaDoor
