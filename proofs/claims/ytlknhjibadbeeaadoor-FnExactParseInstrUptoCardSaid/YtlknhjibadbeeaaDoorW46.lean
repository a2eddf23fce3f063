/- Walk of the reference's ParseInstr. -/
import Derived.Test.YtlknhjibadbeeaaDoorW45
import Derived.Test.YtlknhjibadbeeaaDoorW42
namespace Go.Proofs.YtlknhjibadbeeaaDoor
open Go.RowKit Go.Deep

attribute [local go_sem] ba_get ba_append

theorem opOf_form (h : By) : opOf h = 0 ∨ ∃ f, formOf (opOf h) = some f ∧ f.word = h := by
  by_cases c0 : h = [103, 101, 116, 118, 97, 108]
  · subst c0; exact .inr ⟨_, rfl, rfl⟩
  by_cases c1 : h = [103, 101, 116, 105, 110, 116]
  · subst c1; exact .inr ⟨_, rfl, rfl⟩
  by_cases c2 : h = [103, 101, 116, 115, 116, 114]
  · subst c2; exact .inr ⟨_, rfl, rfl⟩
  by_cases c3 : h = [117, 110, 105, 118, 97, 114]
  · subst c3; exact .inr ⟨_, rfl, rfl⟩
  by_cases c4 : h = [117, 110, 105, 118, 97, 108]
  · subst c4; exact .inr ⟨_, rfl, rfl⟩
  by_cases c5 : h = [117, 110, 105, 105, 110, 116]
  · subst c5; exact .inr ⟨_, rfl, rfl⟩
  by_cases c6 : h = [115, 101, 116, 115, 116, 114]
  · subst c6; exact .inr ⟨_, rfl, rfl⟩
  by_cases c7 : h = [112, 117, 116, 118, 97, 114]
  · subst c7; exact .inr ⟨_, rfl, rfl⟩
  by_cases c8 : h = [112, 117, 116, 118, 97, 108]
  · subst c8; exact .inr ⟨_, rfl, rfl⟩
  by_cases c9 : h = [112, 117, 116, 105, 110, 116]
  · subst c9; exact .inr ⟨_, rfl, rfl⟩
  by_cases c10 : h = [99, 97, 108, 108]
  · subst c10; exact .inr ⟨_, rfl, rfl⟩
  by_cases c11 : h = [98, 117, 105, 108, 116]
  · subst c11; exact .inr ⟨_, rfl, rfl⟩
  by_cases c12 : h = [99, 117, 116]
  · subst c12; exact .inr ⟨_, rfl, rfl⟩
  by_cases c13 : h = [101, 110, 100]
  · subst c13; exact .inr ⟨_, rfl, rfl⟩
  left
  unfold opOf
  rw [if_neg c0, if_neg c1, if_neg c2, if_neg c3, if_neg c4, if_neg c5, if_neg c6, if_neg c7, if_neg c8, if_neg c9, if_neg c10, if_neg c11, if_neg c12, if_neg c13]
theorem word_eq (op : Int) (f : Frm) (h : By) (hf : formOf op = some f) : (f.word == h) = decide (opOf h = op) := by
  rw [Bool.eq_iff_iff]
  simp only [beq_iff_eq, decide_eq_true_eq]
  constructor
  · rintro rfl; exact (formOf_opOf _ _ hf).1
  · intro he
    rcases opOf_form h with h0 | ⟨g, hg, hw⟩
    · have := formOf_rng _ _ hf; omega
    · rw [he, hf] at hg
      cases hg
      exact hw
theorem opOf_rng (h : By) : 0 ≤ opOf h ∧ opOf h ≤ 14 := by
  rcases opOf_form h with h0 | ⟨g, hg, -⟩
  · omega
  · have := formOf_rng _ _ hg; omega

/-- the fields read so far -/
def stepI (x : Int × Int × By) (c : UInt8) (s : By) : Int × Int × By := if c = 97 then (num8 s, x.2.1, x.2.2) else if c = 98 then (x.1, num8 s, x.2.2) else if c = 110 then (x.1, x.2.1, s) else x
def fieldsI (sh : By) (ws : List By) : Nat → Int × Int × By
  | 0 => (0, 0, [])
  | i + 1 => stepI (fieldsI sh ws i) (sh.getD i 0) (ws.getD (i + 1) [])

theorem itoa_len4 (a : Int) (h0 : -999 ≤ a) (h1 : a ≤ 999) : (Lib.itoa a).length ≤ 4 := by
  have h3 : ∀ u, u < 1000 → (Lib.decDigits u).length ≤ 3 := fun u hu => by rw [decDigits_three u hu]; exact (three_mag ⟨u, hu⟩).2.1
  unfold Lib.itoa
  split
  · have := h3 a.natAbs (by omega); simp; omega
  · have := h3 a.toNat (by omega); omega
theorem name_len (l : By) (h : nameOk l = true) : l.length ≤ 6 := by
  simp only [nameOk, Bool.or_eq_true] at h
  rcases h with h | h
  · simp only [isWord, Bool.and_eq_true, decide_eq_true_eq] at h
    exact h.2
  · have hs : ∀ s ∈ signs, s.length ≤ 6 := by decide
    exact hs l (by simpa using h)
theorem insText_l60 (y : Ins) (h : insOk y = true) : (insText y).length ≤ 60 := by
  obtain ⟨f, hf, hc, -⟩ := text_form y h
  obtain ⟨op, a, b, l⟩ := y
  rw [insText_yes op a b l f hf hc]
  obtain ⟨a1, a2, b1, b2, -, -, hn⟩ := hc
  have hw := (formOf_opOf _ _ hf).2.2.2.1
  have h1 := itoa_len4 a a1 a2
  have h2 := itoa_len4 b (by simp only at b1; omega) b2
  simp only at hn
  have h3 : f.n = true → l.length ≤ 6 := fun e => by
    rcases hn with hn | hn
    · exact name_len l hn.2
    · rw [e] at hn; simp at hn
  cases f with
  | mk wd fa fb fn =>
    simp only at hw h3 ⊢
    cases fa <;> cases fb <;> cases fn <;> simp at h3 ⊢ <;> omega

/-- the shape that goes with a first word -/
def ShapeOf (h0 sh : By) : Prop := (opOf h0 = 0 ∧ sh = [63]) ∨ ∃ f, formOf (opOf h0) = some f ∧ f.word = h0 ∧ sh = shp f.a f.b f.n
theorem shape_len {h0 sh : By} (h : ShapeOf h0 sh) : sh.length ≤ 3 := by
  rcases h with ⟨-, rfl⟩ | ⟨f, -, -, rfl⟩
  · simp
  · cases f with
    | mk wd fa fb fn => cases fa <;> cases fb <;> cases fn <;> simp [shp]
theorem shape_of_text {text h0 sh : By} {t : List By} (hW : spl text = h0 :: t) (hS : ShapeOf h0 sh) (y : Ins) (hy : insOk y = true) (hyt : insText y = text) : ∃ f, formOf y.op = some f ∧ y.op = opOf h0 ∧ sh = shp f.a f.b f.n ∧ h0 :: t = wordsOf f y.a y.b y.name ∧ insCond f y.a y.b y.name := by
  obtain ⟨f, hf, hc, hsp⟩ := text_form y hy
  rw [hyt, hW] at hsp
  have hw : h0 = f.word := by unfold wordsOf at hsp; simp only [List.cons.injEq] at hsp; exact hsp.1
  have ho := (formOf_opOf _ _ hf).1
  rw [← hw] at ho
  refine ⟨f, hf, ho.symm, ?_, hsp, hc⟩
  rcases hS with ⟨h1, -⟩ | ⟨g, hg, -, hs⟩
  · have := formOf_rng _ _ hf; omega
  · rw [ho, hf] at hg
    cases hg
    exact hs
theorem final_no {text h0 sh : By} {t : List By} (hW : spl text = h0 :: t) (hS : ShapeOf h0 sh) (h : t.length ≠ sh.length ∨ 60 < text.length) : Reads text none := by
  intro y hy hyt
  obtain ⟨f, -, -, hs, hws, -⟩ := shape_of_text hW hS y hy hyt
  have hl := insText_l60 y hy
  rw [hyt] at hl
  rcases h with h | h
  · apply h
    have : (h0 :: t).length = (wordsOf f y.a y.b y.name).length := by rw [hws]
    rw [hs]
    cases f with
    | mk wd fa fb fn => cases fa <;> cases fb <;> cases fn <;> simp [wordsOf, shp] at this ⊢ <;> omega
  · omega
theorem fields_law {text h0 sh : By} {t : List By} (hW : spl text = h0 :: t) (hS : ShapeOf h0 sh) (y : Ins) (hy : insOk y = true) (hyt : insText y = text) : (⟨opOf h0, (fieldsI sh (h0 :: t) sh.length).1, (fieldsI sh (h0 :: t) sh.length).2.1, (fieldsI sh (h0 :: t) sh.length).2.2⟩ : Ins) = y := by
  obtain ⟨f, hf, ho, hs, hws, hc⟩ := shape_of_text hW hS y hy hyt
  rw [hws, hs, ← ho]
  obtain ⟨op, a, b, l⟩ := y
  obtain ⟨a1, a2, b1, b2, ca, cb, cn⟩ := hc
  simp only at a1 a2 b1 b2 ca cb cn ⊢
  have ia := num8_itoa a a1 a2
  have ib := num8_itoa b (by omega) b2
  obtain ⟨-, -, -, -, hba, hna⟩ := formOf_opOf _ _ hf
  cases f with
  | mk wd fa fb fn => cases fa <;> cases fb <;> cases fn <;> simp [wordsOf, shp, fieldsI, stepI, ia, ib] at ca cb cn hba hna ⊢ <;> simp_all
theorem final_ne {text h0 sh : By} {t : List By} (hW : spl text = h0 :: t) (hS : ShapeOf h0 sh) (hq : (insText ⟨opOf h0, (fieldsI sh (h0 :: t) sh.length).1, (fieldsI sh (h0 :: t) sh.length).2.1, (fieldsI sh (h0 :: t) sh.length).2.2⟩ == text) = false) : Reads text none := by
  intro y hy hyt
  rw [fields_law hW hS y hy hyt, hyt] at hq
  simp at hq
theorem final_eq {text h0 sh : By} {t : List By} (hW : spl text = h0 :: t) (hS : ShapeOf h0 sh) (hl : t.length = sh.length) (x : Ins) (hq : (insText x == text) = true) : Reads text (some x) := by
  have hq' : insText x = text := by simpa using hq
  refine ⟨?_, hq'⟩
  cases hk : insOk x
  · rw [show insText x = [] by unfold insText; rw [hk]; rfl] at hq'
    rw [← hq'] at hW
    simp [spl] at hW
    obtain ⟨e1, e2⟩ := hW
    subst e1 e2
    rcases hS with ⟨-, rfl⟩ | ⟨f, hf, hw, -⟩
    · simp at hl
    · exact absurd hw (formOf_opOf _ _ hf).2.2.1
  · rfl
theorem fields_len (sh : By) (ws : List By) (M : Nat) (h : ∀ s ∈ ws, s.length ≤ M) : ∀ k, (fieldsI sh ws k).2.2.length ≤ M
  | 0 => by simp [fieldsI]
  | k + 1 => by
    have ih := fields_len sh ws M h k
    have hw : (ws.getD (k + 1) []).length ≤ M := by
      rw [List.getD_eq_getElem?_getD]
      cases hx : ws[k + 1]? with
      | none => simp
      | some s => exact h s (List.mem_of_getElem? hx)
    simp only [fieldsI]
    unfold stepI
    split
    · exact ih
    · split
      · exact ih
      · split
        · exact hw
        · exact ih

theorem shape_call (h0 : By) : ∃ sh, ShapeOf h0 sh ∧ ∀ V, Calls Tryd.prog 50 #[.int .i64 (opOf h0)] V fun e w' => e = .returned (.string ⟨sh.toArray⟩) ∧ V = w' := by
  rcases opOf_form h0 with h | ⟨f, hf, hw⟩
  · exact ⟨[63], .inl ⟨h, rfl⟩, fun V => by rw [h]; exact l8Shape_no 0 V (by omega)⟩
  · exact ⟨_, .inr ⟨f, hf, hw, rfl⟩, fun V => l8Shape_some _ f.word f.a f.b f.n V hf⟩

/-- the instruction under way (behind w1), and the names behind it -/
structure PSt (w1 Wc : World) (op a b : Int) (nm : By) : Prop where
  x0 : Wc.cell? ⟨w1.heap.size, 0, none⟩ = some (.int .i64 op)
  x1 : Wc.cell? ⟨w1.heap.size, 1, none⟩ = some (.int .i64 a)
  x2 : Wc.cell? ⟨w1.heap.size, 2, none⟩ = some (.int .i64 b)
  x3 : Wc.cell? ⟨w1.heap.size, 3, none⟩ = some (.string ⟨nm.toArray⟩)
  xf : ∀ k, Wc.frozen? ⟨w1.heap.size, k, none⟩ = false
  names : ∀ (i : Nat) f, formOf (i : Int) = some f → Wc.cell? ⟨w1.heap.size + 1, i, none⟩ = some (.string ⟨f.word.toArray⟩)
  below : Below w1.heap.size w1 Wc
  size : w1.heap.size + 1 < Wc.heap.size

section
variable {w1 Wc Wd : World} {op a b : Int} {nm : By}
theorem PSt.next (h : PSt w1 Wc op a b nm) (hb : Below Wc.heap.size Wc Wd) : PSt w1 Wd op a b nm := by
  have hz := h.size
  have hc : ∀ B k, B < Wc.heap.size → Wd.cell? ⟨B, k, none⟩ = Wc.cell? ⟨B, k, none⟩ := fun B k hB => hb.cell (p := ⟨B, k, none⟩) hB
  exact ⟨(hc _ _ (by omega)).trans h.x0, (hc _ _ (by omega)).trans h.x1, (hc _ _ (by omega)).trans h.x2, (hc _ _ (by omega)).trans h.x3, fun k => (hb.frozen (p := ⟨_, k, none⟩) (by show w1.heap.size < _; omega)).trans (h.xf k), fun i f hf => (hc _ _ (by omega)).trans (h.names i f hf), bnext h.below hb, Nat.lt_of_lt_of_le hz hb.size⟩
theorem PSt.setO (h : PSt w1 Wc op a b nm) (v : Int) : PSt w1 (Wc.setCell ⟨w1.heap.size, 0, none⟩ (.int .i64 v)) v a b nm := by
  have ho : ∀ B k, ¬ (B = w1.heap.size ∧ k = 0) → (Wc.setCell ⟨w1.heap.size, 0, none⟩ (.int .i64 v)).cell? ⟨B, k, none⟩ = Wc.cell? ⟨B, k, none⟩ := fun B k hn => World.cell?_setCell_other _ _ _ _ (fun e => hn ⟨(congrArg Addr.block e).symm, (congrArg Addr.off e).symm⟩)
  have hsz : (Wc.setCell ⟨w1.heap.size, 0, none⟩ (.int .i64 v)).heap.size = Wc.heap.size := by simp [World.setCell]
  exact ⟨World.cell?_setCell_same' Wc ⟨w1.heap.size, 0, none⟩ _ (by rw [h.x0]; rfl), (ho _ _ (by omega)).trans h.x1, (ho _ _ (by omega)).trans h.x2, (ho _ _ (by omega)).trans h.x3, fun k => (World.frozen?_setCell ..).trans (h.xf k), fun i f hf => (ho _ _ (by omega)).trans (h.names i f hf), h.below.setCell (p := ⟨w1.heap.size, 0, none⟩) (Nat.le_refl _) _, by rw [hsz]; exact h.size⟩
theorem PSt.setA (h : PSt w1 Wc op a b nm) (v : Int) : PSt w1 (Wc.setCell ⟨w1.heap.size, 1, none⟩ (.int .i64 v)) op v b nm := by
  have ho : ∀ B k, ¬ (B = w1.heap.size ∧ k = 1) → (Wc.setCell ⟨w1.heap.size, 1, none⟩ (.int .i64 v)).cell? ⟨B, k, none⟩ = Wc.cell? ⟨B, k, none⟩ := fun B k hn => World.cell?_setCell_other _ _ _ _ (fun e => hn ⟨(congrArg Addr.block e).symm, (congrArg Addr.off e).symm⟩)
  have hsz : (Wc.setCell ⟨w1.heap.size, 1, none⟩ (.int .i64 v)).heap.size = Wc.heap.size := by simp [World.setCell]
  exact ⟨(ho _ _ (by omega)).trans h.x0, World.cell?_setCell_same' Wc ⟨w1.heap.size, 1, none⟩ _ (by rw [h.x1]; rfl), (ho _ _ (by omega)).trans h.x2, (ho _ _ (by omega)).trans h.x3, fun k => (World.frozen?_setCell ..).trans (h.xf k), fun i f hf => (ho _ _ (by omega)).trans (h.names i f hf), h.below.setCell (p := ⟨w1.heap.size, 1, none⟩) (Nat.le_refl _) _, by rw [hsz]; exact h.size⟩
theorem PSt.setB (h : PSt w1 Wc op a b nm) (v : Int) : PSt w1 (Wc.setCell ⟨w1.heap.size, 2, none⟩ (.int .i64 v)) op a v nm := by
  have ho : ∀ B k, ¬ (B = w1.heap.size ∧ k = 2) → (Wc.setCell ⟨w1.heap.size, 2, none⟩ (.int .i64 v)).cell? ⟨B, k, none⟩ = Wc.cell? ⟨B, k, none⟩ := fun B k hn => World.cell?_setCell_other _ _ _ _ (fun e => hn ⟨(congrArg Addr.block e).symm, (congrArg Addr.off e).symm⟩)
  have hsz : (Wc.setCell ⟨w1.heap.size, 2, none⟩ (.int .i64 v)).heap.size = Wc.heap.size := by simp [World.setCell]
  exact ⟨(ho _ _ (by omega)).trans h.x0, (ho _ _ (by omega)).trans h.x1, World.cell?_setCell_same' Wc ⟨w1.heap.size, 2, none⟩ _ (by rw [h.x2]; rfl), (ho _ _ (by omega)).trans h.x3, fun k => (World.frozen?_setCell ..).trans (h.xf k), fun i f hf => (ho _ _ (by omega)).trans (h.names i f hf), h.below.setCell (p := ⟨w1.heap.size, 2, none⟩) (Nat.le_refl _) _, by rw [hsz]; exact h.size⟩
theorem PSt.setN (h : PSt w1 Wc op a b nm) (v : By) : PSt w1 (Wc.setCell ⟨w1.heap.size, 3, none⟩ (.string ⟨v.toArray⟩)) op a b v := by
  have ho : ∀ B k, ¬ (B = w1.heap.size ∧ k = 3) → (Wc.setCell ⟨w1.heap.size, 3, none⟩ (.string ⟨v.toArray⟩)).cell? ⟨B, k, none⟩ = Wc.cell? ⟨B, k, none⟩ := fun B k hn => World.cell?_setCell_other _ _ _ _ (fun e => hn ⟨(congrArg Addr.block e).symm, (congrArg Addr.off e).symm⟩)
  have hsz : (Wc.setCell ⟨w1.heap.size, 3, none⟩ (.string ⟨v.toArray⟩)).heap.size = Wc.heap.size := by simp [World.setCell]
  exact ⟨(ho _ _ (by omega)).trans h.x0, (ho _ _ (by omega)).trans h.x1, (ho _ _ (by omega)).trans h.x2, World.cell?_setCell_same' Wc ⟨w1.heap.size, 3, none⟩ _ (by rw [h.x3]; rfl), fun k => (World.frozen?_setCell ..).trans (h.xf k), fun i f hf => (ho _ _ (by omega)).trans (h.names i f hf), h.below.setCell (p := ⟨w1.heap.size, 3, none⟩) (Nat.le_refl _) _, by rw [hsz]; exact h.size⟩
end
theorem pst_start (w1 : World) (T1 : Nat) : PSt w1 ((w1.alloc (.cells #[.int .i64 0, .int .i64 0, .int .i64 0, .string ⟨#[]⟩] T1)).alloc (.cells nameCells 9)) 0 0 0 [] := by
  obtain ⟨V1, hV1⟩ : ∃ V1, V1 = w1.alloc (.cells #[.int .i64 0, .int .i64 0, .int .i64 0, .string ⟨#[]⟩] T1) := ⟨_, rfl⟩
  have z1 : V1.heap.size = w1.heap.size + 1 := by rw [hV1]; simp
  have b1 : Below w1.heap.size w1 V1 := by rw [hV1]; exact bal0 _ _
  have e0 : ∀ k v, (#[.int .i64 0, .int .i64 0, .int .i64 0, .string ⟨#[]⟩] : Array Value)[k]? = some v → V1.cell? ⟨w1.heap.size, k, none⟩ = some v := by
    intro k v hv; rw [hV1]; exact cells_at w1 _ T1 k v hv
  have f0 : ∀ k, V1.frozen? ⟨w1.heap.size, k, none⟩ = false := by intro k; rw [hV1]; simp
  rw [← hV1]
  have b2 : Below V1.heap.size V1 (V1.alloc (.cells nameCells 9)) := bal0 _ _
  have old : ∀ k, (V1.alloc (.cells nameCells 9)).cell? ⟨w1.heap.size, k, none⟩ = V1.cell? ⟨w1.heap.size, k, none⟩ := fun k => b2.cell (p := ⟨w1.heap.size, k, none⟩) (by show w1.heap.size < _; omega)
  refine ⟨(old _).trans (e0 0 _ rfl), (old _).trans (e0 1 _ rfl), (old _).trans (e0 2 _ rfl), (old _).trans (e0 3 _ rfl), fun k => (b2.frozen (p := ⟨_, k, none⟩) (by show w1.heap.size < _; omega)).trans (f0 k), fun i f hf => ?_, bnext b1 b2, by simp [z1]⟩
  obtain ⟨wd, fa, fb, fn⟩ := f
  have := (name_cell (i : Int) wd fa fb fn V1 hf).1
  rw [← z1]
  simpa using this

set_option maxRecDepth 100000 in
set_option maxHeartbeats 4000000 in
theorem specParse_any (text : By) (w : World) (hl : text.length ≤ 1048576) :
    Calls Tryd.prog 24 #[.string ⟨text.toArray⟩] w fun e w' => (∃ o, Reads text o ∧ e = .returned (.tuple #[insV o, .bool o.isSome])) ∧ Below w.heap.size w w' := by
  obtain ⟨h0, t, hws⟩ : ∃ h0 t, spl text = h0 :: t := by
    cases hh : spl text with
    | nil => exact absurd hh (spl_ne text)
    | cons a b => exact ⟨a, b, rfl⟩
  go_enter Tryd.func24, Tryd.ntmps24
  go_wp2_with fail
  refine (l18Cut_any text _ hl).mono ?_
  rintro e w1 ⟨⟨a, n, c, rfl, hsl⟩, hb1⟩
  have HW := Lib.hid hws
  rw [hws] at hsl
  have hnl : n = t.length + 1 := hsl.1
  obtain ⟨b, o, rfl, hbl, hr⟩ := hsl.2 (by omega)
  have c0 : w1.cell? ⟨b, o, none⟩ = some (.string ⟨h0.toArray⟩) := hr 0 (by simp)
  have HCs := Lib.hid hr
  have HB1 := Lib.hid (bnext (bal0 _ _) hb1)
  obtain ⟨hc1, hf1⟩ := bcell hb1
  have hz1 := bsz w.heap.size hb1 (by simp)
  have q0 : w1.cell? ⟨w.heap.size, 0, none⟩ = some (.int .i64 0) := by rw [hc1 _ _ (by simp)]; simp
  have q1 : w1.cell? ⟨w.heap.size, 1, none⟩ = some (.int .i64 0) := by rw [hc1 _ _ (by simp)]; simp
  have q2 : w1.cell? ⟨w.heap.size, 2, none⟩ = some (.int .i64 0) := by rw [hc1 _ _ (by simp)]; simp
  have q3 : w1.cell? ⟨w.heap.size, 3, none⟩ = some (.string ⟨#[]⟩) := by rw [hc1 _ _ (by simp)]; simp
  have qf : ∀ k, w1.frozen? ⟨w.heap.size, k, none⟩ = false := by intro k; rw [hf1 _ _ (by simp)]; simp
  have HQ := Lib.hid (And.intro q0 (And.intro q1 (And.intro q2 (And.intro q3 qf))))
  clear hc1 hf1 hb1 hsl hws hr q0 q1 q2 q3 qf
  go_wp2_with fail
  refine (l8Names_any _).mono ?_
  rintro e w2 ⟨rfl, rfl⟩
  have HP0 := Lib.hid (pst_start w1 51)
  go_wp2_with fail
  go_loopw [7] (fun s7 wr => ∃ (i : Nat) (cur : Int), 1 ≤ i ∧ i ≤ 15 ∧ s7 = .int .i64 i ∧ Hid (cur = if opOf h0 < i then opOf h0 else 0) ∧ Hid (PSt w1 wr cur 0 0 [])) (fun i _ => 15 - (intOf i).toNat)
  case atStart =>
    refine ⟨1, 0, by omega, by omega, rfl, Lib.hid ?_, HP0⟩
    have h1 := opOf_rng h0
    split <;> omega
  case round =>
    obtain ⟨i, cur, hi1, hi2, rfl, HCur, HP⟩ := hrel
    have x0 := HP.out.x0
    have xf := HP.out.xf 0
    have d0 := (HP.out.below.cell (p := ⟨b, o, none⟩) hbl).trans c0
    by_cases hlt : i < 15
    · obtain ⟨f, hf⟩ : ∃ f, formOf (i : Int) = some f := by
        rcases formOf_cs (i : Int) (by omega) (by omega) with h | h | h | h | h | h | h | h | h | h | h | h | h | h <;> rw [h] <;> exact ⟨_, rfl⟩
      have k0 := HP.out.names i f hf
      have hwq := word_eq (i : Int) f h0 hf
      obtain ⟨wd, hwd⟩ : ∃ wd, wd = f.word := ⟨_, rfl⟩
      rw [← hwd] at k0 hwq
      clear hwd hf
      by_cases ho : opOf h0 = (i : Int)
      · rw [decide_eq_true ho] at hwq
        have HO := Lib.hid ho; clear ho
        go_wp2_with fail
        go_quiet (fail)
        go_wp2_with fail
        go_roundw
        case rel =>
          refine ⟨i + 1, (i : Int), by omega, by omega, by go_num, Lib.hid (by rw [HO.out, if_pos (by omega)]), Lib.hid ((HP.out.next (below_drewN' (Below.refl _ _) _)).setO _)⟩
        case measure => simp [intOf]; omega
      · rw [decide_eq_false ho] at hwq
        have HO := Lib.hid ho; clear ho
        go_wp2_with fail
        go_quiet (fail)
        go_wp2_with fail
        go_roundw
        case rel =>
          refine ⟨i + 1, cur, by omega, by omega, by go_num, Lib.hid ?_, Lib.hid (HP.out.next (below_drewN' (Below.refl _ _) _))⟩
          have h1 := HO.out
          rw [HCur.out]
          split <;> split <;> omega
        case measure => simp [intOf]; omega
    · have hcur : cur = opOf h0 := by
        have h1 := opOf_rng h0
        rw [HCur.out, if_pos (by omega)]
      subst hcur
      obtain ⟨sh, hS, hcall⟩ := shape_call h0
      have HS := Lib.hid hS
      have hs3 := shape_len hS
      have HCall := Lib.hid hcall
      clear hS hcall
      have HQr := Lib.hid (show ∀ V, Below w1.heap.size w1 V → (V.cell? ⟨w.heap.size, 0, none⟩ = some (.int .i64 0) ∧ V.cell? ⟨w.heap.size, 1, none⟩ = some (.int .i64 0) ∧ V.cell? ⟨w.heap.size, 2, none⟩ = some (.int .i64 0) ∧ V.cell? ⟨w.heap.size, 3, none⟩ = some (.string ⟨#[]⟩)) ∧ ∀ k, V.frozen? ⟨w.heap.size, k, none⟩ = false from fun V hV =>
        ⟨⟨(hV.cell (p := ⟨w.heap.size, 0, none⟩) hz1).trans HQ.out.1, (hV.cell (p := ⟨w.heap.size, 1, none⟩) hz1).trans HQ.out.2.1, (hV.cell (p := ⟨w.heap.size, 2, none⟩) hz1).trans HQ.out.2.2.1, (hV.cell (p := ⟨w.heap.size, 3, none⟩) hz1).trans HQ.out.2.2.2.1⟩, fun k => (hV.frozen (p := ⟨w.heap.size, k, none⟩) hz1).trans (HQ.out.2.2.2.2 k)⟩)
      obtain ⟨⟨g0, g1, g2, g3⟩, gf⟩ := HQr.out wr HP.out.below
      have gf0 := gf 0
      have gf1 := gf 1
      have gf2 := gf 2
      have gf3 := gf 3
      obtain ⟨opv, hopv⟩ : ∃ opv, opv = opOf h0 := ⟨_, rfl⟩
      have HOp := Lib.hid hopv
      rw [← hopv] at x0 HCall HP
      clear hopv gf
      go_wp2_with fail
      refine (HCall.out wr).mono ?_
      rintro e w3 ⟨rfl, rfl⟩
      by_cases hbad : t.length ≠ sh.length ∨ 60 < text.length
      · have HNo := Lib.hid (final_no HW.out HS.out hbad)
        by_cases hb1 : t.length = sh.length
        · have hb2 : 60 < (text.length : Int) := by omega
          have hb3 : ((t.length : Int) = (sh.length : Int)) := by omega
          go_wp2_with fail
          refine bodyPost_ret (v := .tuple #[insV none, .bool false]) (by simp [results, Tryd.results24, go_sem, insV, g0, g1, g2, g3]) rfl ⟨⟨none, HNo.out, rfl⟩, below_store4 (bnext HB1.out HP.out.below) (Nat.le_refl _) _ _ _ _ _ _ _ _⟩
        · have hb3 : ¬ ((t.length : Int) = (sh.length : Int)) := by omega
          go_wp2_with fail
          refine bodyPost_ret (v := .tuple #[insV none, .bool false]) (by simp [results, Tryd.results24, go_sem, insV, g0, g1, g2, g3]) rfl ⟨⟨none, HNo.out, rfl⟩, below_store4 (bnext HB1.out HP.out.below) (Nat.le_refl _) _ _ _ _ _ _ _ _⟩
      · have hb2 : ¬ 60 < (text.length : Int) := by omega
        have hb3 : ((t.length : Int) = (sh.length : Int)) := by omega
        have hln : t.length = sh.length := by omega
        go_wp2_with fail
        go_loopw [9] (fun s9 wr => ∃ k : Nat, k ≤ sh.length ∧ s9 = .int .i64 k ∧ Hid (PSt w1 wr opv (fieldsI sh (h0 :: t) k).1 (fieldsI sh (h0 :: t) k).2.1 (fieldsI sh (h0 :: t) k).2.2)) (fun i _ => sh.length - (intOf i).toNat)
        case atStart => exact ⟨0, Nat.zero_le _, rfl, HP⟩
        case round =>
          obtain ⟨k, hk, rfl, HK⟩ := hrel
          by_cases hkl : k < sh.length
          · have hkt : k + 1 < (h0 :: t).length := by simp; omega
            have hw0 := HCs.out (k + 1) hkt
            have hw1 : wr.cell? ⟨b, o + (k + 1), none⟩ = some (.string ⟨((h0 :: t)[k + 1]).toArray⟩) := (HK.out.below.cell (p := ⟨b, _, none⟩) hbl).trans hw0
            have hf9 : fieldsI sh (h0 :: t) (k + 1) = stepI (fieldsI sh (h0 :: t) k) sh[k] (h0 :: t)[k + 1] := by
              simp only [fieldsI]
              rw [List.getD_eq_getElem?_getD, List.getElem?_eq_getElem hkl, List.getD_eq_getElem?_getD, List.getElem?_eq_getElem hkt]
              rfl
            obtain ⟨u, hu⟩ : ∃ u, u = (h0 :: t)[k + 1] := ⟨_, rfl⟩
            rw [← hu] at hw1 hf9
            have HF9 := Lib.hid hf9
            clear hw0 hu hf9
            have hki : (k : Int) < (sh.length : Int) := by omega
            have hkn : (k : Int) + 1 < (t.length : Int) + 1 := by omega
            have x1 := HK.out.x1
            have x2 := HK.out.x2
            have x3 := HK.out.x3
            have xf1 := HK.out.xf 1
            have xf2 := HK.out.xf 2
            have xf3 := HK.out.xf 3
            by_cases ca : sh[k] = 97
            · have HC := Lib.hid (show fieldsI sh (h0 :: t) (k + 1) = (num8 u, (fieldsI sh (h0 :: t) k).2.1, (fieldsI sh (h0 :: t) k).2.2) by rw [HF9.out, stepI, if_pos ca])
              have cb : ((sh[k].toNat : Int) == 97) = true := by rw [ca]; rfl
              have cb' : (sh[k].toNat : Int) = 97 := by rw [ca]; rfl
              go_wp2_with fail
              refine (l8Int_any u wr).mono ?_
              rintro e w4 ⟨rfl, hb4⟩
              have HK4 := Lib.hid (HK.out.next hb4); clear hb4
              have y1 := HK4.out.x1
              have yf := HK4.out.xf 1
              go_wp2_with fail
              go_roundw
              case rel => exact ⟨k + 1, by omega, by go_num, Lib.hid (by rw [HC.out]; exact HK4.out.setA _)⟩
              case measure => simp [intOf]; omega
            · have ca1 := u8_ne (k := 97) (by omega) ca
              have ca2 : ¬ (sh[k].toNat : Int) = 97 := by simpa using ca1
              by_cases cb : sh[k] = 98
              · have HC := Lib.hid (show fieldsI sh (h0 :: t) (k + 1) = ((fieldsI sh (h0 :: t) k).1, num8 u, (fieldsI sh (h0 :: t) k).2.2) by rw [HF9.out, stepI, if_neg ca, if_pos cb])
                have cb1 : ((sh[k].toNat : Int) == 98) = true := by rw [cb]; rfl
                have cb2 : (sh[k].toNat : Int) = 98 := by rw [cb]; rfl
                go_wp2_with fail
                refine (l8Int_any u wr).mono ?_
                rintro e w4 ⟨rfl, hb4⟩
                have HK4 := Lib.hid (HK.out.next hb4); clear hb4
                have y1 := HK4.out.x2
                have yf := HK4.out.xf 2
                go_wp2_with fail
                go_roundw
                case rel => exact ⟨k + 1, by omega, by go_num, Lib.hid (by rw [HC.out]; exact HK4.out.setB _)⟩
                case measure => simp [intOf]; omega
              · have cb1 := u8_ne (k := 98) (by omega) cb
                have cb2 : ¬ (sh[k].toNat : Int) = 98 := by simpa using cb1
                by_cases cc : sh[k] = 110
                · have HC := Lib.hid (show fieldsI sh (h0 :: t) (k + 1) = ((fieldsI sh (h0 :: t) k).1, (fieldsI sh (h0 :: t) k).2.1, u) by rw [HF9.out, stepI, if_neg ca, if_neg cb, if_pos cc])
                  have cc1 : ((sh[k].toNat : Int) == 110) = true := by rw [cc]; rfl
                  have cc2 : (sh[k].toNat : Int) = 110 := by rw [cc]; rfl
                  go_wp2_with fail
                  go_roundw
                  case rel => exact ⟨k + 1, by omega, by go_num, Lib.hid (by rw [HC.out]; exact HK.out.setN _)⟩
                  case measure => simp [intOf]; omega
                · have HC := Lib.hid (show fieldsI sh (h0 :: t) (k + 1) = fieldsI sh (h0 :: t) k by rw [HF9.out, stepI, if_neg ca, if_neg cb, if_neg cc])
                  have cc1 := u8_ne (k := 110) (by omega) cc
                  have cc2 : ¬ (sh[k].toNat : Int) = 110 := by simpa using cc1
                  go_wp2_with fail
                  go_roundw
                  case rel => exact ⟨k + 1, by omega, by go_num, Lib.hid (by rw [HC.out]; exact HK.out)⟩
                  case measure => simp [intOf]; omega
          · have hki : ¬ (k : Int) < (sh.length : Int) := by omega
            obtain rfl : k = sh.length := by omega
            have x0 := HK.out.x0
            have x1 := HK.out.x1
            have x2 := HK.out.x2
            have x3 := HK.out.x3
            have hlN := fields_len sh (h0 :: t) 1048576 (fun s hs => by have := spl_len text s (by rw [HW.out]; exact hs); omega) sh.length
            have HNe := Lib.hid (final_ne HW.out HS.out)
            have HEq := Lib.hid (final_eq HW.out HS.out hln)
            rw [← HOp.out] at HNe
            obtain ⟨A, hA⟩ : ∃ A, A = (fieldsI sh (h0 :: t) sh.length).1 := ⟨_, rfl⟩
            obtain ⟨B, hB⟩ : ∃ B, B = (fieldsI sh (h0 :: t) sh.length).2.1 := ⟨_, rfl⟩
            obtain ⟨Nm, hN⟩ : ∃ Nm, Nm = (fieldsI sh (h0 :: t) sh.length).2.2 := ⟨_, rfl⟩
            rw [← hA, ← hB, ← hN] at HNe HK
            rw [← hA] at x1
            rw [← hB] at x2
            rw [← hN] at x3 hlN
            clear hA hB hN
            go_wp2_with fail
            refine (specFormatInstr_any opv A B Nm _ (by omega)).mono ?_
            rintro e w5 ⟨rfl, hb5⟩
            have HK5 := Lib.hid (HK.out.next hb5); clear hb5 x0 x1 x2 x3
            obtain ⟨⟨g0, g1, g2, g3⟩, gf⟩ := HQr.out w5 HK5.out.below
            have gf0 := gf 0
            have gf1 := gf 1
            have gf2 := gf 2
            have gf3 := gf 3
            have x0 := HK5.out.x0
            have x1 := HK5.out.x1
            have x2 := HK5.out.x2
            have x3 := HK5.out.x3
            clear gf
            cases hq : (insText ⟨opv, A, B, Nm⟩ == text)
            · have HNo := Lib.hid (HNe.out hq)
              go_wp2_with fail
              refine bodyPost_ret (v := .tuple #[insV none, .bool false]) (by simp [results, Tryd.results24, go_sem, insV, g0, g1, g2, g3]) rfl ⟨⟨none, HNo.out, rfl⟩, below_store4 (bnext HB1.out HK5.out.below) (Nat.le_refl _) _ _ _ _ _ _ _ _⟩
            · have HYes := Lib.hid (HEq.out ⟨opv, A, B, Nm⟩ hq)
              go_wp2_with fail
              refine bodyPost_ret (v := .tuple #[insV (some ⟨opv, A, B, Nm⟩), .bool true]) (by simp [results, Tryd.results24, go_sem, insV, g0, g1, g2, g3]) rfl ⟨⟨some _, HYes.out, rfl⟩, below_store4 (bnext HB1.out HK5.out.below) (Nat.le_refl _) _ _ _ _ _ _ _ _⟩
end Go.Proofs.YtlknhjibadbeeaaDoor
