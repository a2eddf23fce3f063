/- Walk of impl.ParseInstr. -/
import Derived.Test.YtlknhjibadbeeaaDoorW41
import Derived.Deep.QuietTactic
import Derived.BigQuiet
import Derived.Deep.AppendLies
namespace Go.Proofs.YtlknhjibadbeeaaDoor
open Go.RowKit Go.Deep

attribute [local go_sem] ba_get ba_append

/-- what a parse answers, as a value -/
def insV : Option Ins → Value
  | some y => .agg #[.int .i64 y.op, .int .i64 y.a, .int .i64 y.b, .string ⟨y.name.toArray⟩]
  | none => .agg #[.int .i64 0, .int .i64 0, .int .i64 0, .string ⟨#[]⟩]

theorem below_drewN' {B : Nat} {a w : World} (h : Below B a w) (n : Nat) : Below B a (w.drewN n) := h.trans ⟨rfl, rfl, rfl, Nat.le_refl _, fun _ _ => rfl⟩

/-- the boxes of one round: the form at L, the instruction behind it, the words that are left behind that -/
structure St (w2 : World) (fa fb fn : Bool) (op : Int) (Wc : World) (a b : Int) (nm : By) (ws : List By) : Prop where
  x0 : Wc.cell? ⟨w2.heap.size + 1, 0, none⟩ = some (.int .i64 op)
  x1 : Wc.cell? ⟨w2.heap.size + 1, 1, none⟩ = some (.int .i64 a)
  x2 : Wc.cell? ⟨w2.heap.size + 1, 2, none⟩ = some (.int .i64 b)
  x3 : Wc.cell? ⟨w2.heap.size + 1, 3, none⟩ = some (.string ⟨nm.toArray⟩)
  xf : ∀ k, Wc.frozen? ⟨w2.heap.size + 1, k, none⟩ = false
  f1 : Wc.cell? ⟨w2.heap.size, 1, none⟩ = some (.bool fa)
  f2 : Wc.cell? ⟨w2.heap.size, 2, none⟩ = some (.bool fb)
  f3 : Wc.cell? ⟨w2.heap.size, 3, none⟩ = some (.bool fn)
  rest : RestOk w2.heap.size Wc (w2.heap.size + 1 + 1) ws
  below : Below w2.heap.size w2 Wc

section
variable {w2 : World} {fa fb fn : Bool} {op : Int} {Wc Wd : World} {a b : Int} {nm : By} {ws : List By}
theorem St.lt (h : St w2 fa fb fn op Wc a b nm ws) : w2.heap.size + 1 + 1 < Wc.heap.size := h.rest.2.1.1
theorem St.next (h : St w2 fa fb fn op Wc a b nm ws) (hb : Below Wc.heap.size Wc Wd) : St w2 fa fb fn op Wd a b nm ws := by
  have hz := h.lt
  have hc : ∀ B k, B < Wc.heap.size → Wd.cell? ⟨B, k, none⟩ = Wc.cell? ⟨B, k, none⟩ := fun B k hB => hb.cell (p := ⟨B, k, none⟩) hB
  exact ⟨(hc _ _ (by omega)).trans h.x0, (hc _ _ (by omega)).trans h.x1, (hc _ _ (by omega)).trans h.x2, (hc _ _ (by omega)).trans h.x3, fun k => (hb.frozen (p := ⟨_, k, none⟩) (by show w2.heap.size + 1 < _; omega)).trans (h.xf k), (hc _ _ (by omega)).trans h.f1, (hc _ _ (by omega)).trans h.f2, (hc _ _ (by omega)).trans h.f3, h.rest.below hb, bnext h.below hb⟩
theorem St.grown {ws' : List By} (h : St w2 fa fb fn op Wc a b nm ws) (hg : Wc.grownBy Wd (some (w2.heap.size + 1 + 1))) (hr : RestOk w2.heap.size Wd (w2.heap.size + 1 + 1) ws') : St w2 fa fb fn op Wd a b nm ws' := by
  have hz := h.lt
  have hc : ∀ B k, B < w2.heap.size + 1 + 1 → Wd.cell? ⟨B, k, none⟩ = Wc.cell? ⟨B, k, none⟩ := fun B k hB => hg.cell_far ⟨B, k, none⟩ (by show B < _; omega) (by simp; omega)
  exact ⟨(hc _ _ (by omega)).trans h.x0, (hc _ _ (by omega)).trans h.x1, (hc _ _ (by omega)).trans h.x2, (hc _ _ (by omega)).trans h.x3, fun k => (hg.frozen_far ⟨_, k, none⟩ (by show w2.heap.size + 1 < _; omega) (by simp)).trans (h.xf k), (hc _ _ (by omega)).trans h.f1, (hc _ _ (by omega)).trans h.f2, (hc _ _ (by omega)).trans h.f3, hr,
    ⟨hg.os.trans h.below.os, hg.tape.trans h.below.tape, hg.output.trans h.below.output, Nat.le_trans h.below.size hg.size, fun q hq => (hg.block q (Nat.lt_of_lt_of_le hq h.below.size) (fun e => by simp at e; omega)).trans (h.below.block q hq)⟩⟩
theorem St.setA (h : St w2 fa fb fn op Wc a b nm ws) (v : Int) : St w2 fa fb fn op (Wc.setCell ⟨w2.heap.size + 1, 1, none⟩ (.int .i64 v)) v b nm ws := by
  have ho : ∀ B k, ¬ (B = w2.heap.size + 1 ∧ k = 1) → (Wc.setCell ⟨w2.heap.size + 1, 1, none⟩ (.int .i64 v)).cell? ⟨B, k, none⟩ = Wc.cell? ⟨B, k, none⟩ := fun B k hn => World.cell?_setCell_other _ _ _ _ (fun e => hn ⟨(congrArg Addr.block e).symm, (congrArg Addr.off e).symm⟩)
  exact ⟨(ho _ _ (by omega)).trans h.x0, World.cell?_setCell_same' Wc ⟨w2.heap.size + 1, 1, none⟩ _ (by rw [h.x1]; rfl), (ho _ _ (by omega)).trans h.x2, (ho _ _ (by omega)).trans h.x3, fun k => (World.frozen?_setCell ..).trans (h.xf k), (ho _ _ (by omega)).trans h.f1, (ho _ _ (by omega)).trans h.f2, (ho _ _ (by omega)).trans h.f3, h.rest.set _ _ (by show w2.heap.size + 1 ≠ _; omega) (by show w2.heap.size ≤ w2.heap.size + 1; omega), h.below.setCell (p := ⟨w2.heap.size + 1, 1, none⟩) (by show w2.heap.size ≤ w2.heap.size + 1; omega) _⟩
theorem St.setB (h : St w2 fa fb fn op Wc a b nm ws) (v : Int) : St w2 fa fb fn op (Wc.setCell ⟨w2.heap.size + 1, 2, none⟩ (.int .i64 v)) a v nm ws := by
  have ho : ∀ B k, ¬ (B = w2.heap.size + 1 ∧ k = 2) → (Wc.setCell ⟨w2.heap.size + 1, 2, none⟩ (.int .i64 v)).cell? ⟨B, k, none⟩ = Wc.cell? ⟨B, k, none⟩ := fun B k hn => World.cell?_setCell_other _ _ _ _ (fun e => hn ⟨(congrArg Addr.block e).symm, (congrArg Addr.off e).symm⟩)
  exact ⟨(ho _ _ (by omega)).trans h.x0, (ho _ _ (by omega)).trans h.x1, World.cell?_setCell_same' Wc ⟨w2.heap.size + 1, 2, none⟩ _ (by rw [h.x2]; rfl), (ho _ _ (by omega)).trans h.x3, fun k => (World.frozen?_setCell ..).trans (h.xf k), (ho _ _ (by omega)).trans h.f1, (ho _ _ (by omega)).trans h.f2, (ho _ _ (by omega)).trans h.f3, h.rest.set _ _ (by show w2.heap.size + 1 ≠ _; omega) (by show w2.heap.size ≤ w2.heap.size + 1; omega), h.below.setCell (p := ⟨w2.heap.size + 1, 2, none⟩) (by show w2.heap.size ≤ w2.heap.size + 1; omega) _⟩
theorem St.setN (h : St w2 fa fb fn op Wc a b nm ws) (v : By) : St w2 fa fb fn op (Wc.setCell ⟨w2.heap.size + 1, 3, none⟩ (.string ⟨v.toArray⟩)) a b v ws := by
  have ho : ∀ B k, ¬ (B = w2.heap.size + 1 ∧ k = 3) → (Wc.setCell ⟨w2.heap.size + 1, 3, none⟩ (.string ⟨v.toArray⟩)).cell? ⟨B, k, none⟩ = Wc.cell? ⟨B, k, none⟩ := fun B k hn => World.cell?_setCell_other _ _ _ _ (fun e => hn ⟨(congrArg Addr.block e).symm, (congrArg Addr.off e).symm⟩)
  exact ⟨(ho _ _ (by omega)).trans h.x0, (ho _ _ (by omega)).trans h.x1, (ho _ _ (by omega)).trans h.x2, World.cell?_setCell_same' Wc ⟨w2.heap.size + 1, 3, none⟩ _ (by rw [h.x3]; rfl), fun k => (World.frozen?_setCell ..).trans (h.xf k), (ho _ _ (by omega)).trans h.f1, (ho _ _ (by omega)).trans h.f2, (ho _ _ (by omega)).trans h.f3, h.rest.set _ _ (by show w2.heap.size + 1 ≠ _; omega) (by show w2.heap.size ≤ w2.heap.size + 1; omega), h.below.setCell (p := ⟨w2.heap.size + 1, 3, none⟩) (by show w2.heap.size ≤ w2.heap.size + 1; omega) _⟩
end

theorem st_start (w2 : World) (h0 : By) (fa fb fn : Bool) (op : Int) (nq B o m c T1 T2 T3 : Nat) (t : List By) (hB : B < w2.heap.size) (hm : m = t.length) (hc : m ≤ c) (hc2 : c ≤ 1000000000) (ht : ∀ k (h : k < t.length), w2.cell? ⟨B, o + k, none⟩ = some (.string ⟨t[k].toArray⟩)) :
    St w2 fa fb fn op ((((w2.alloc (.cells #[.string ⟨h0.toArray⟩, .bool fa, .bool fb, .bool fn] T1)).drewN nq).alloc (.cells #[.int .i64 op, .int .i64 0, .int .i64 0, .string ⟨#[]⟩] T2)).alloc (.cells #[.slice (some ⟨B, o, none⟩) m c] T3)) 0 0 [] t := by
  obtain ⟨V1, hV1⟩ : ∃ V1, V1 = (w2.alloc (.cells #[.string ⟨h0.toArray⟩, .bool fa, .bool fb, .bool fn] T1)).drewN nq := ⟨_, rfl⟩
  have z1 : V1.heap.size = w2.heap.size + 1 := by rw [hV1]; simp
  have b1 : Below w2.heap.size w2 V1 := by rw [hV1]; exact below_drewN' (bal0 _ _) _
  have e0 : ∀ k v, (#[.string ⟨h0.toArray⟩, .bool fa, .bool fb, .bool fn] : Array Value)[k]? = some v → V1.cell? ⟨w2.heap.size, k, none⟩ = some v := by
    intro k v hv
    rw [hV1]
    simpa using hv
  rw [← hV1]
  obtain ⟨V2, hV2⟩ : ∃ V2, V2 = V1.alloc (.cells #[.int .i64 op, .int .i64 0, .int .i64 0, .string ⟨#[]⟩] T2) := ⟨_, rfl⟩
  have z2 : V2.heap.size = w2.heap.size + 1 + 1 := by rw [hV2]; simp [z1]
  have b2 : Below V1.heap.size V1 V2 := by rw [hV2]; exact bal0 _ _
  have e1 : ∀ k v, (#[.int .i64 op, .int .i64 0, .int .i64 0, .string ⟨#[]⟩] : Array Value)[k]? = some v → V2.cell? ⟨w2.heap.size + 1, k, none⟩ = some v := by
    intro k v hv
    rw [hV2, ← z1]
    exact cells_at V1 _ T2 k v hv
  have f1 : ∀ k, V2.frozen? ⟨w2.heap.size + 1, k, none⟩ = false := by intro k; rw [hV2, ← z1]; simp
  rw [← hV2]
  have b3 : Below V2.heap.size V2 (V2.alloc (.cells #[.slice (some ⟨B, o, none⟩) m c] T3)) := bal0 _ _
  have old2 : ∀ b k, b < w2.heap.size + 1 + 1 → (V2.alloc (.cells #[.slice (some ⟨B, o, none⟩) m c] T3)).cell? ⟨b, k, none⟩ = V2.cell? ⟨b, k, none⟩ := fun b k hb => b3.cell (p := ⟨b, k, none⟩) (by show b < _; omega)
  have old1 : ∀ b k, b < w2.heap.size + 1 → V2.cell? ⟨b, k, none⟩ = V1.cell? ⟨b, k, none⟩ := fun b k hb => b2.cell (p := ⟨b, k, none⟩) (by show b < _; omega)
  have old0 : ∀ b k, b < w2.heap.size → V1.cell? ⟨b, k, none⟩ = w2.cell? ⟨b, k, none⟩ := fun b k hb => b1.cell (p := ⟨b, k, none⟩) hb
  refine ⟨(old2 _ _ (by omega)).trans (e1 0 _ rfl), (old2 _ _ (by omega)).trans (e1 1 _ rfl), (old2 _ _ (by omega)).trans (e1 2 _ rfl), (old2 _ _ (by omega)).trans (e1 3 _ rfl), fun k => (b3.frozen (p := ⟨_, k, none⟩) (by show w2.heap.size + 1 < _; omega)).trans (f1 k),
    (old2 _ _ (by omega)).trans ((old1 _ _ (by omega)).trans (e0 1 _ rfl)), (old2 _ _ (by omega)).trans ((old1 _ _ (by omega)).trans (e0 2 _ rfl)), (old2 _ _ (by omega)).trans ((old1 _ _ (by omega)).trans (e0 3 _ rfl)), ⟨by rw [← z2]; simp, ⟨by simp [z2], by omega⟩, B, o, m, c, by rw [← z2]; exact cells_at V2 _ T3 0 _ rfl, hm, hc, hc2, hB, by simp [z2]; omega, fun k hk => ?_⟩, bnext b1 (bnext b2 b3)⟩
  rw [old2 _ _ (by omega), old1 _ _ (by omega), old0 _ _ hB]
  exact ht k hk

theorem round_no (text h0 wd : By) (t : List By) (op : Int) (fa fb fn : Bool) (v1 v2 : Int) (nm : By) (hF : formOf op = some ⟨wd, fa, fb, fn⟩) (hw : wd = h0) (hW : spl text = h0 :: t) (h1 : ∀ a, Lib.atoiAll (takeP fa t).1 = .ok a → v1 = a)
    (h2 : ∀ a, Lib.atoiAll (takeP fb (takeP fa t).2).1 = .ok a → v2 = a) (hnm : nm = if fn then (takeP true (takeP fb (takeP fa t).2).2).1 else []) (hq : (insText ⟨op, v1, v2, nm⟩ == text) = false) (y : Ins) (hy : insOk y = true) (hyt : insText y = text) : y.op ≠ op := by
  intro he
  obtain ⟨f, hf, -, hsp⟩ := text_form y hy
  have hf2 := hf
  rw [he, hF] at hf2
  cases hf2
  rw [hyt, hW, ← hw] at hsp
  obtain ⟨e1, e2, e3⟩ := take_law y _ t hf hy hsp.symm v1 v2 h1 h2
  have e4 : nm = y.name := hnm.trans e3
  have : (⟨op, v1, v2, nm⟩ : Ins) = y := by
    obtain ⟨yo, ya, yb, yl⟩ := y
    simp only at he e1 e2 e4
    rw [he, e1, e2, e4]
  rw [this, hyt] at hq
  simp at hq
theorem round_yes (text h0 wd : By) (t : List By) (op : Int) (fa fb fn : Bool) (v1 v2 : Int) (nm : By) (hF : formOf op = some ⟨wd, fa, fb, fn⟩) (hw : wd = h0) (hW : spl text = h0 :: t) (hq : (insText ⟨op, v1, v2, nm⟩ == text) = true) : Reads text (some ⟨op, v1, v2, nm⟩) := by
  have hq' : insText ⟨op, v1, v2, nm⟩ = text := by simpa using hq
  refine ⟨?_, hq'⟩
  cases hk : insOk ⟨op, v1, v2, nm⟩
  · rw [show insText ⟨op, v1, v2, nm⟩ = [] by unfold insText; rw [hk]; rfl] at hq'
    rw [← hq'] at hW
    simp [spl] at hW
    exact absurd (hw.trans (by first | exact hW.1 | exact hW.1.symm)) (formOf_opOf _ _ hF).2.2.1
  · rfl

set_option maxRecDepth 100000 in
set_option maxHeartbeats 4000000 in
theorem implParse_one (text : By) (w : World) (h1w : (spl text).length = 1) (he : Er w) (ht : Tb w) (hl : text.length ≤ 1048576) :
    Calls Tryd.prog 25 #[.string ⟨text.toArray⟩] w fun e w' => (∃ o, Reads text o ∧ e = .returned (.tuple #[insV o, .bool o.isSome])) ∧ Below w.heap.size w w' := by
  have HE := Lib.hid he; clear he
  have HT := Lib.hid ht; clear ht
  go_enter Tryd.func25, Tryd.ntmps25
  go_wp2_with fail
  refine (split_any text _ (HE.out.below (bal0 _ _)) hl).mono ?_
  rintro e w1 ⟨⟨n, rfl, hsl⟩, hb1⟩
  obtain rfl : n = 1 := hsl.1.trans h1w
  clear h1w
  have HSl := Lib.hid hsl
  have HB1 := Lib.hid (bnext (bal0 _ _) hb1)
  obtain ⟨hc1, hf1⟩ := bcell hb1
  have hz1 := bsz w.heap.size hb1 (by simp)
  have hbk : (w.alloc (.cells #[.int .i64 0, .int .i64 0, .int .i64 0, .string ⟨#[]⟩] 51)).heap.size = w.heap.size + 1 := by simp
  have q0 : w1.cell? ⟨w.heap.size, 0, none⟩ = some (.int .i64 0) := by rw [hc1 _ _ (by simp)]; simp
  have q1 : w1.cell? ⟨w.heap.size, 1, none⟩ = some (.int .i64 0) := by rw [hc1 _ _ (by simp)]; simp
  have q2 : w1.cell? ⟨w.heap.size, 2, none⟩ = some (.int .i64 0) := by rw [hc1 _ _ (by simp)]; simp
  have q3 : w1.cell? ⟨w.heap.size, 3, none⟩ = some (.string ⟨#[]⟩) := by rw [hc1 _ _ (by simp)]; simp
  have qf : ∀ k, w1.frozen? ⟨w.heap.size, k, none⟩ = false := by intro k; rw [hf1 _ _ (by simp)]; simp
  rw [hbk] at HSl ⊢
  clear hc1 hf1 hb1 hsl hbk
  have HQ := Lib.hid (And.intro q0 (And.intro q1 (And.intro q2 (And.intro q3 qf))))
  have hnl : 1 = (spl text).length := HSl.out.1
  have hpos : 0 < 1 := by omega
  have HNL := Lib.hid hnl
  have qf0 := qf 0
  have qf1 := qf 1
  have qf2 := qf 2
  have qf3 := qf 3
  clear hnl qf
  · have hle : 1 ≤ 4 := by omega
    obtain ⟨h0, t, hws⟩ : ∃ h0 t, spl text = h0 :: t := by
      cases hh : spl text with
      | nil => exact absurd hh (spl_ne text)
      | cons a b => exact ⟨a, b, rfl⟩
    have c0 : w1.cell? ⟨w.heap.size + 1, 0, none⟩ = some (.string ⟨h0.toArray⟩) := by
      obtain ⟨b, o, hbo, -, hr⟩ := HSl.out.2 hpos
      simp only [Option.some.injEq, Addr.mk.injEq, and_true] at hbo
      obtain ⟨rfl, rfl⟩ := hbo
      have := hr 0 (by rw [hws]; simp)
      simpa [hws] using this
    have hsz1 : w.heap.size + 1 < w1.heap.size := cell_lt c0
    have HW := Lib.hid hws
    clear hws
    go_wp2_with fail
    go_loopw [5] (fun s5 wr => ∃ op : Nat, 1 ≤ op ∧ op ≤ 15 ∧ s5 = .int .i64 op ∧ Below w1.heap.size w1 wr ∧ Hid (∀ y, insOk y = true → insText y = text → (op : Int) ≤ y.op)) (fun i _ => 15 - (intOf i).toNat)
    case atStart => exact ⟨1, by omega, by omega, rfl, Below.refl _ _, Lib.hid (fun y hy _ => by obtain ⟨f, hf, -⟩ := text_form y hy; exact (formOf_rng _ _ hf).1)⟩
    case round =>
      obtain ⟨op, ho1, ho2, rfl, hb, HR⟩ := hrel
      have g0 := (hb.cell (p := ⟨w.heap.size, 0, none⟩) hz1).trans q0
      have g1 := (hb.cell (p := ⟨w.heap.size, 1, none⟩) hz1).trans q1
      have g2 := (hb.cell (p := ⟨w.heap.size, 2, none⟩) hz1).trans q2
      have g3 := (hb.cell (p := ⟨w.heap.size, 3, none⟩) hz1).trans q3
      have gf0 := (hb.frozen (p := ⟨w.heap.size, 0, none⟩) hz1).trans qf0
      have gf1 := (hb.frozen (p := ⟨w.heap.size, 1, none⟩) hz1).trans qf1
      have gf2 := (hb.frozen (p := ⟨w.heap.size, 2, none⟩) hz1).trans qf2
      have gf3 := (hb.frozen (p := ⟨w.heap.size, 3, none⟩) hz1).trans qf3
      by_cases hlt : op ≤ 14
      · obtain ⟨wd, fa, fb, fn, hf⟩ : ∃ wd fa fb fn, formOf (op : Int) = some ⟨wd, fa, fb, fn⟩ := by
          rcases formOf_cs (op : Int) (by omega) (by omega) with h | h | h | h | h | h | h | h | h | h | h | h | h | h <;> rw [h] <;> exact ⟨_, _, _, _, rfl⟩
        have HF := Lib.hid hf; clear hf
        have r0 := (hb.cell (p := ⟨w.heap.size + 1, 0, none⟩) hsz1).trans c0
        go_wp2_with fail
        refine (formOf_some' (op : Int) wd fa fb fn wr HF.out).mono ?_
        rintro e w2 ⟨rfl, hb2⟩
        have HB2 := Lib.hid (bnext hb hb2)
        have r1 := (hb2.cell (p := ⟨w.heap.size + 1, 0, none⟩) (cell_lt r0)).trans r0
        have r2 : ∀ o, (w2.alloc o).cell? ⟨w.heap.size + 1, 0, none⟩ = some (.string ⟨h0.toArray⟩) := fun o => ((bal0 w2 o).cell (p := ⟨w.heap.size + 1, 0, none⟩) (cell_lt r1)).trans r1
        by_cases hw : wd = h0
        · have HEq := Lib.hid hw
          have HErr := Lib.hid (show ∀ V, Below w2.heap.size w2 V → Er V from fun V hV => HE.out.below (bnext HB1.out (bnext HB2.out hV)))
          have HTb := Lib.hid (show ∀ V, Below w2.heap.size w2 V → Tb V from fun V hV => HT.out.below (bnext HB1.out (bnext HB2.out hV)))
          have HLen := Lib.hid (show ∀ s ∈ t, s.length ≤ 1048576 from fun s hs => by have := spl_len text s (by rw [HW.out]; simp [hs]); omega)
          have hnt : 1 = t.length + 1 := by have h5 := HNL.out; rw [HW.out] at h5; exact h5
          have HCells := Lib.hid (show ∀ k (h : k < t.length), w2.cell? ⟨w.heap.size + 1, 1 + k, none⟩ = some (.string ⟨t[k].toArray⟩) from fun k hk => by
            obtain ⟨b, o, hbo, hlt, hr⟩ := HSl.out.2 hpos
            simp only [Option.some.injEq, Addr.mk.injEq, and_true] at hbo
            obtain ⟨rfl, rfl⟩ := hbo
            have h1 := hr (k + 1) (by rw [HW.out]; simp; omega)
            simp only [HW.out] at h1
            rw [show 1 + k = 0 + (k + 1) by omega]
            exact ((bnext hb hb2).cell (p := ⟨w.heap.size + 1, _, none⟩) hlt).trans h1)
          have zB : w.heap.size + 1 < w2.heap.size := cell_lt r1
          have HNT := Lib.hid hnt; clear hnt
          go_wp2_with fail
          go_quiet (fail)
          go_wp2_with fail
          · obtain rfl : t = [] := List.length_eq_zero_iff.1 (by have := HNT.out; omega)
            have HSt := st_start w2 h0 fa fb fn (op : Int) nq (w.heap.size + 1) 0 0 0 91 51 85 [] zB rfl (Nat.le_refl _) (by omega) (fun k h => absurd h (by simp))
            refine (take_any w2.heap.size fa _ (w2.heap.size + 1 + 1) [] HSt.rest).mono ?_
            rintro e w3 ⟨rfl, hr3, hg3⟩
            have HS3 := Lib.hid (HSt.grown hg3 hr3); clear hr3 hg3 HSt
            go_wp2_with fail
            refine (atoi_any _ w3 (HErr.out w3 HS3.out.below) (takeP_len fa [] 1048576 (by omega) HLen.out).1).mono ?_
            rintro e w4 ⟨⟨v1, i1, rfl, hv1⟩, hb4⟩
            have HV1 := Lib.hid hv1
            have HS4 := Lib.hid (HS3.out.next hb4); clear hb4 hv1
            have y1 := HS4.out.x1
            have yf := HS4.out.xf 1
            have HS5 := Lib.hid (HS4.out.setA v1)
            have y2 := HS5.out.f2
            go_wp2_with fail
            refine (take_any w2.heap.size fb _ (w2.heap.size + 1 + 1) _ HS5.out.rest).mono ?_
            rintro e w5 ⟨rfl, hr5, hg5⟩
            have HS6 := Lib.hid (HS5.out.grown hg5 hr5); clear hr5 hg5
            go_wp2_with fail
            refine (atoi_any _ w5 (HErr.out w5 HS6.out.below) (takeP_len fb _ 1048576 (by omega) (takeP_len fa [] 1048576 (by omega) HLen.out).2).1).mono ?_
            rintro e w6 ⟨⟨v2, i2, rfl, hv2⟩, hb6⟩
            have HV2 := Lib.hid hv2
            have HS7 := Lib.hid (HS6.out.next hb6); clear hb6 hv2 y1 yf y2
            have y1 := HS7.out.x2
            have yf := HS7.out.xf 2
            have HS8 := Lib.hid (HS7.out.setB v2)
            have y2 := HS8.out.f3
            cases fn
            · have t0 := HS8.out.x0
              have t1 := HS8.out.x1
              have t2 := HS8.out.x2
              have t3 := HS8.out.x3
              go_wp2_with fail
              refine (formatInstr_any (op : Int) v1 v2 [] _ (HTb.out _ HS8.out.below) (by simp)).mono ?_
              rintro e w9 ⟨rfl, hb9⟩
              have HS11 := Lib.hid (HS8.out.next hb9); clear hb9
              cases hq : (insText ⟨(op : Int), v1, v2, []⟩ == text)
              · have HNo := Lib.hid (fun y hy hyt => round_no text h0 wd [] (op : Int) fa fb _ v1 v2 [] HF.out HEq.out HW.out HV1.out HV2.out rfl hq y hy hyt)
                go_wp2_with fail
                go_roundw
                case rel =>
                  refine ⟨op + 1, by omega, by omega, by go_num, bnext HB2.out HS11.out.below, Lib.hid (fun y hy hyt => ?_)⟩
                  have h1 := HR.out y hy hyt
                  have h2 := HNo.out y hy hyt
                  omega
                case measure => simp [intOf]; omega
              · have HYes := Lib.hid (round_yes text h0 wd [] (op : Int) fa fb _ v1 v2 [] HF.out HEq.out HW.out hq)
                have hbw := Lib.hid (bnext hb2 HS11.out.below)
                have k0 := HS11.out.x0
                have k1 := HS11.out.x1
                have k2 := HS11.out.x2
                have k3 := HS11.out.x3
                have zw : w.heap.size < wr.heap.size := Nat.lt_of_lt_of_le hz1 hb.size
                have p0 := (hbw.out.cell (p := ⟨w.heap.size, 0, none⟩) zw).trans g0
                have p1 := (hbw.out.cell (p := ⟨w.heap.size, 1, none⟩) zw).trans g1
                have p2 := (hbw.out.cell (p := ⟨w.heap.size, 2, none⟩) zw).trans g2
                have p3 := (hbw.out.cell (p := ⟨w.heap.size, 3, none⟩) zw).trans g3
                have pf0 := (hbw.out.frozen (p := ⟨w.heap.size, 0, none⟩) zw).trans gf0
                have pf1 := (hbw.out.frozen (p := ⟨w.heap.size, 1, none⟩) zw).trans gf1
                have pf2 := (hbw.out.frozen (p := ⟨w.heap.size, 2, none⟩) zw).trans gf2
                have pf3 := (hbw.out.frozen (p := ⟨w.heap.size, 3, none⟩) zw).trans gf3
                have HBB := Lib.hid (bnext (bnext HB1.out hb) hbw.out)
                go_wp2_with fail
                refine bodyPost_ret (v := .tuple #[insV (some ⟨(op : Int), v1, v2, []⟩), .bool true]) (by simp [results, Tryd.results25, go_sem, insV, p0, p1, p2, p3]) rfl ⟨⟨some _, HYes.out, rfl⟩, below_store4 HBB.out (Nat.le_refl _) _ _ _ _ _ _ _ _⟩
            · go_wp2_with fail
              refine (take_any w2.heap.size true _ (w2.heap.size + 1 + 1) _ HS8.out.rest).mono ?_
              rintro e w7 ⟨rfl, hr7, hg7⟩
              have hlN := (takeP_len true _ 1048576 (by omega) (takeP_len fb _ 1048576 (by omega) (takeP_len fa [] 1048576 (by omega) HLen.out).2).2).1
              obtain ⟨nmv, hnmv⟩ : ∃ nmv, nmv = (takeP true (takeP fb (takeP fa []).2).2).1 := ⟨_, rfl⟩
              rw [← hnmv] at hlN ⊢
              have HNM := Lib.hid hnmv; clear hnmv
              have HS9 := Lib.hid (HS8.out.grown hg7 hr7); clear hr7 hg7
              have y3 := HS9.out.x3
              have yf3 := HS9.out.xf 3
              have HS10 := Lib.hid (HS9.out.setN nmv)
              have t0 := HS10.out.x0
              have t1 := HS10.out.x1
              have t2 := HS10.out.x2
              have t3 := HS10.out.x3
              go_wp2_with fail
              refine (formatInstr_any (op : Int) v1 v2 nmv _ (HTb.out _ HS10.out.below) (by omega)).mono ?_
              rintro e w9 ⟨rfl, hb9⟩
              have HS11 := Lib.hid (HS10.out.next hb9); clear hb9
              cases hq : (insText ⟨(op : Int), v1, v2, nmv⟩ == text)
              · have HNo := Lib.hid (fun y hy hyt => round_no text h0 wd [] (op : Int) fa fb _ v1 v2 nmv HF.out HEq.out HW.out HV1.out HV2.out HNM.out hq y hy hyt)
                go_wp2_with fail
                go_roundw
                case rel =>
                  refine ⟨op + 1, by omega, by omega, by go_num, bnext HB2.out HS11.out.below, Lib.hid (fun y hy hyt => ?_)⟩
                  have h1 := HR.out y hy hyt
                  have h2 := HNo.out y hy hyt
                  omega
                case measure => simp [intOf]; omega
              · have HYes := Lib.hid (round_yes text h0 wd [] (op : Int) fa fb _ v1 v2 nmv HF.out HEq.out HW.out hq)
                have hbw := Lib.hid (bnext hb2 HS11.out.below)
                have k0 := HS11.out.x0
                have k1 := HS11.out.x1
                have k2 := HS11.out.x2
                have k3 := HS11.out.x3
                have zw : w.heap.size < wr.heap.size := Nat.lt_of_lt_of_le hz1 hb.size
                have p0 := (hbw.out.cell (p := ⟨w.heap.size, 0, none⟩) zw).trans g0
                have p1 := (hbw.out.cell (p := ⟨w.heap.size, 1, none⟩) zw).trans g1
                have p2 := (hbw.out.cell (p := ⟨w.heap.size, 2, none⟩) zw).trans g2
                have p3 := (hbw.out.cell (p := ⟨w.heap.size, 3, none⟩) zw).trans g3
                have pf0 := (hbw.out.frozen (p := ⟨w.heap.size, 0, none⟩) zw).trans gf0
                have pf1 := (hbw.out.frozen (p := ⟨w.heap.size, 1, none⟩) zw).trans gf1
                have pf2 := (hbw.out.frozen (p := ⟨w.heap.size, 2, none⟩) zw).trans gf2
                have pf3 := (hbw.out.frozen (p := ⟨w.heap.size, 3, none⟩) zw).trans gf3
                have HBB := Lib.hid (bnext (bnext HB1.out hb) hbw.out)
                go_wp2_with fail
                refine bodyPost_ret (v := .tuple #[insV (some ⟨(op : Int), v1, v2, nmv⟩), .bool true]) (by simp [results, Tryd.results25, go_sem, insV, p0, p1, p2, p3]) rfl ⟨⟨some _, HYes.out, rfl⟩, below_store4 HBB.out (Nat.le_refl _) _ _ _ _ _ _ _ _⟩
        · have hwf : (wd == h0) = false := by simpa using hw
          have HWF := Lib.hid hw
          go_wp2_with fail
          go_quiet (fail)
          go_wp2_with fail
          go_roundw
          case rel =>
            refine ⟨op + 1, by omega, by omega, by go_num, ?_, Lib.hid (fun y hy hyt => ?_)⟩
            · exact below_drewN' (bal HB2.out _) _
            · have h1 := HR.out y hy hyt
              by_cases he : y.op = (op : Int)
              · obtain ⟨f, hf, -, hsp⟩ := text_form y hy
                rw [hyt, HW.out] at hsp
                rw [he, HF.out] at hf
                cases hf
                unfold wordsOf at hsp
                simp only [List.cons.injEq] at hsp
                exact absurd hsp.1.symm HWF.out
              · omega
          case measure => simp [intOf]; omega
      · have HN2 := Lib.hid (show Reads text none from fun y hy hyt => by
          have h1 := HR.out y hy hyt
          obtain ⟨f, hf, -, -⟩ := text_form y hy
          have h2 := (formOf_rng _ _ hf).2
          omega)
        go_wp2_with fail
        refine bodyPost_ret (v := .tuple #[insV none, .bool false]) (by simp [results, Tryd.results25, go_sem, insV, g0, g1, g2, g3]) rfl ⟨⟨none, HN2.out, rfl⟩, below_store4 (bnext HB1.out hb) (Nat.le_refl _) _ _ _ _ _ _ _ _⟩

set_option maxRecDepth 100000 in
set_option maxHeartbeats 4000000 in
theorem implParse_more (text : By) (w : World) (h1w : (spl text).length ≠ 1) (he : Er w) (ht : Tb w) (hl : text.length ≤ 1048576) :
    Calls Tryd.prog 25 #[.string ⟨text.toArray⟩] w fun e w' => (∃ o, Reads text o ∧ e = .returned (.tuple #[insV o, .bool o.isSome])) ∧ Below w.heap.size w w' := by
  have HE := Lib.hid he; clear he
  have HT := Lib.hid ht; clear ht
  go_enter Tryd.func25, Tryd.ntmps25
  go_wp2_with fail
  refine (split_any text _ (HE.out.below (bal0 _ _)) hl).mono ?_
  rintro e w1 ⟨⟨n, rfl, hsl⟩, hb1⟩
  have hne1 : ¬ n = 1 := fun e => h1w (hsl.1.symm.trans e)
  clear h1w
  have HSl := Lib.hid hsl
  have HB1 := Lib.hid (bnext (bal0 _ _) hb1)
  obtain ⟨hc1, hf1⟩ := bcell hb1
  have hz1 := bsz w.heap.size hb1 (by simp)
  have hbk : (w.alloc (.cells #[.int .i64 0, .int .i64 0, .int .i64 0, .string ⟨#[]⟩] 51)).heap.size = w.heap.size + 1 := by simp
  have q0 : w1.cell? ⟨w.heap.size, 0, none⟩ = some (.int .i64 0) := by rw [hc1 _ _ (by simp)]; simp
  have q1 : w1.cell? ⟨w.heap.size, 1, none⟩ = some (.int .i64 0) := by rw [hc1 _ _ (by simp)]; simp
  have q2 : w1.cell? ⟨w.heap.size, 2, none⟩ = some (.int .i64 0) := by rw [hc1 _ _ (by simp)]; simp
  have q3 : w1.cell? ⟨w.heap.size, 3, none⟩ = some (.string ⟨#[]⟩) := by rw [hc1 _ _ (by simp)]; simp
  have qf : ∀ k, w1.frozen? ⟨w.heap.size, k, none⟩ = false := by intro k; rw [hf1 _ _ (by simp)]; simp
  rw [hbk] at HSl ⊢
  clear hc1 hf1 hb1 hsl hbk
  have HQ := Lib.hid (And.intro q0 (And.intro q1 (And.intro q2 (And.intro q3 qf))))
  have hnl : n = (spl text).length := HSl.out.1
  have hpos : 0 < n := by
    have := spl_ne text
    cases hh : spl text with
    | nil => exact absurd hh this
    | cons a b => rw [hh] at hnl; simp at hnl; omega
  have HNL := Lib.hid hnl
  have qf0 := qf 0
  have qf1 := qf 1
  have qf2 := qf 2
  have qf3 := qf 3
  clear hnl qf
  by_cases h4 : 4 < n
  · have HN : Reads text none := by
      intro y hy hyt
      obtain ⟨f, hf, -, hsp⟩ := text_form y hy
      rw [hyt] at hsp
      have h1 := HNL.out
      rw [hsp] at h1
      unfold wordsOf at h1
      cases f with
      | mk wd fa fb fn => cases fa <;> cases fb <;> cases fn <;> simp at h1 <;> omega
    have HN2 := Lib.hid HN; clear HN
    go_wp2_with fail
    refine bodyPost_ret (v := .tuple #[insV none, .bool false]) (by simp [results, Tryd.results25, go_sem, insV, q0, q1, q2, q3]) rfl ⟨⟨none, HN2.out, rfl⟩, below_store4 HB1.out (Nat.le_refl _) _ _ _ _ _ _ _ _⟩
  · have hle : n ≤ 4 := by omega
    obtain ⟨h0, t, hws⟩ : ∃ h0 t, spl text = h0 :: t := by
      cases hh : spl text with
      | nil => exact absurd hh (spl_ne text)
      | cons a b => exact ⟨a, b, rfl⟩
    have c0 : w1.cell? ⟨w.heap.size + 1, 0, none⟩ = some (.string ⟨h0.toArray⟩) := by
      obtain ⟨b, o, hbo, -, hr⟩ := HSl.out.2 hpos
      simp only [Option.some.injEq, Addr.mk.injEq, and_true] at hbo
      obtain ⟨rfl, rfl⟩ := hbo
      have := hr 0 (by rw [hws]; simp)
      simpa [hws] using this
    have hsz1 : w.heap.size + 1 < w1.heap.size := cell_lt c0
    have HW := Lib.hid hws
    clear hws
    go_wp2_with fail
    go_loopw [5] (fun s5 wr => ∃ op : Nat, 1 ≤ op ∧ op ≤ 15 ∧ s5 = .int .i64 op ∧ Below w1.heap.size w1 wr ∧ Hid (∀ y, insOk y = true → insText y = text → (op : Int) ≤ y.op)) (fun i _ => 15 - (intOf i).toNat)
    case atStart => exact ⟨1, by omega, by omega, rfl, Below.refl _ _, Lib.hid (fun y hy _ => by obtain ⟨f, hf, -⟩ := text_form y hy; exact (formOf_rng _ _ hf).1)⟩
    case round =>
      obtain ⟨op, ho1, ho2, rfl, hb, HR⟩ := hrel
      have g0 := (hb.cell (p := ⟨w.heap.size, 0, none⟩) hz1).trans q0
      have g1 := (hb.cell (p := ⟨w.heap.size, 1, none⟩) hz1).trans q1
      have g2 := (hb.cell (p := ⟨w.heap.size, 2, none⟩) hz1).trans q2
      have g3 := (hb.cell (p := ⟨w.heap.size, 3, none⟩) hz1).trans q3
      have gf0 := (hb.frozen (p := ⟨w.heap.size, 0, none⟩) hz1).trans qf0
      have gf1 := (hb.frozen (p := ⟨w.heap.size, 1, none⟩) hz1).trans qf1
      have gf2 := (hb.frozen (p := ⟨w.heap.size, 2, none⟩) hz1).trans qf2
      have gf3 := (hb.frozen (p := ⟨w.heap.size, 3, none⟩) hz1).trans qf3
      by_cases hlt : op ≤ 14
      · obtain ⟨wd, fa, fb, fn, hf⟩ : ∃ wd fa fb fn, formOf (op : Int) = some ⟨wd, fa, fb, fn⟩ := by
          rcases formOf_cs (op : Int) (by omega) (by omega) with h | h | h | h | h | h | h | h | h | h | h | h | h | h <;> rw [h] <;> exact ⟨_, _, _, _, rfl⟩
        have HF := Lib.hid hf; clear hf
        have r0 := (hb.cell (p := ⟨w.heap.size + 1, 0, none⟩) hsz1).trans c0
        go_wp2_with fail
        refine (formOf_some' (op : Int) wd fa fb fn wr HF.out).mono ?_
        rintro e w2 ⟨rfl, hb2⟩
        have HB2 := Lib.hid (bnext hb hb2)
        have r1 := (hb2.cell (p := ⟨w.heap.size + 1, 0, none⟩) (cell_lt r0)).trans r0
        have r2 : ∀ o, (w2.alloc o).cell? ⟨w.heap.size + 1, 0, none⟩ = some (.string ⟨h0.toArray⟩) := fun o => ((bal0 w2 o).cell (p := ⟨w.heap.size + 1, 0, none⟩) (cell_lt r1)).trans r1
        by_cases hw : wd = h0
        · have HEq := Lib.hid hw
          have HErr := Lib.hid (show ∀ V, Below w2.heap.size w2 V → Er V from fun V hV => HE.out.below (bnext HB1.out (bnext HB2.out hV)))
          have HTb := Lib.hid (show ∀ V, Below w2.heap.size w2 V → Tb V from fun V hV => HT.out.below (bnext HB1.out (bnext HB2.out hV)))
          have HLen := Lib.hid (show ∀ s ∈ t, s.length ≤ 1048576 from fun s hs => by have := spl_len text s (by rw [HW.out]; simp [hs]); omega)
          have hnt : n = t.length + 1 := by rw [HNL.out, HW.out]; rfl
          have HCells := Lib.hid (show ∀ k (h : k < t.length), w2.cell? ⟨w.heap.size + 1, 1 + k, none⟩ = some (.string ⟨t[k].toArray⟩) from fun k hk => by
            obtain ⟨b, o, hbo, hlt, hr⟩ := HSl.out.2 hpos
            simp only [Option.some.injEq, Addr.mk.injEq, and_true] at hbo
            obtain ⟨rfl, rfl⟩ := hbo
            have h1 := hr (k + 1) (by rw [HW.out]; simp; omega)
            simp only [HW.out] at h1
            rw [show 1 + k = 0 + (k + 1) by omega]
            exact ((bnext hb hb2).cell (p := ⟨w.heap.size + 1, _, none⟩) hlt).trans h1)
          have zB : w.heap.size + 1 < w2.heap.size := cell_lt r1
          have HNT := Lib.hid hnt; clear hnt
          go_wp2_with fail
          go_quiet (fail)
          go_wp2_with fail
          · have HSt := st_start w2 h0 fa fb fn (op : Int) nq (w.heap.size + 1) 1 (n - 1) (n - 1) 91 51 85 t zB (by have := HNT.out; omega) (Nat.le_refl _) (by omega) HCells.out
            refine (take_any w2.heap.size fa _ (w2.heap.size + 1 + 1) t HSt.rest).mono ?_
            rintro e w3 ⟨rfl, hr3, hg3⟩
            have HS3 := Lib.hid (HSt.grown hg3 hr3); clear hr3 hg3 HSt
            go_wp2_with fail
            refine (atoi_any _ w3 (HErr.out w3 HS3.out.below) (takeP_len fa t 1048576 (by omega) HLen.out).1).mono ?_
            rintro e w4 ⟨⟨v1, i1, rfl, hv1⟩, hb4⟩
            have HV1 := Lib.hid hv1
            have HS4 := Lib.hid (HS3.out.next hb4); clear hb4 hv1
            have y1 := HS4.out.x1
            have yf := HS4.out.xf 1
            have HS5 := Lib.hid (HS4.out.setA v1)
            have y2 := HS5.out.f2
            go_wp2_with fail
            refine (take_any w2.heap.size fb _ (w2.heap.size + 1 + 1) _ HS5.out.rest).mono ?_
            rintro e w5 ⟨rfl, hr5, hg5⟩
            have HS6 := Lib.hid (HS5.out.grown hg5 hr5); clear hr5 hg5
            go_wp2_with fail
            refine (atoi_any _ w5 (HErr.out w5 HS6.out.below) (takeP_len fb _ 1048576 (by omega) (takeP_len fa t 1048576 (by omega) HLen.out).2).1).mono ?_
            rintro e w6 ⟨⟨v2, i2, rfl, hv2⟩, hb6⟩
            have HV2 := Lib.hid hv2
            have HS7 := Lib.hid (HS6.out.next hb6); clear hb6 hv2 y1 yf y2
            have y1 := HS7.out.x2
            have yf := HS7.out.xf 2
            have HS8 := Lib.hid (HS7.out.setB v2)
            have y2 := HS8.out.f3
            cases fn
            · have t0 := HS8.out.x0
              have t1 := HS8.out.x1
              have t2 := HS8.out.x2
              have t3 := HS8.out.x3
              go_wp2_with fail
              refine (formatInstr_any (op : Int) v1 v2 [] _ (HTb.out _ HS8.out.below) (by simp)).mono ?_
              rintro e w9 ⟨rfl, hb9⟩
              have HS11 := Lib.hid (HS8.out.next hb9); clear hb9
              cases hq : (insText ⟨(op : Int), v1, v2, []⟩ == text)
              · have HNo := Lib.hid (fun y hy hyt => round_no text h0 wd t (op : Int) fa fb _ v1 v2 [] HF.out HEq.out HW.out HV1.out HV2.out rfl hq y hy hyt)
                go_wp2_with fail
                go_roundw
                case rel =>
                  refine ⟨op + 1, by omega, by omega, by go_num, bnext HB2.out HS11.out.below, Lib.hid (fun y hy hyt => ?_)⟩
                  have h1 := HR.out y hy hyt
                  have h2 := HNo.out y hy hyt
                  omega
                case measure => simp [intOf]; omega
              · have HYes := Lib.hid (round_yes text h0 wd t (op : Int) fa fb _ v1 v2 [] HF.out HEq.out HW.out hq)
                have hbw := Lib.hid (bnext hb2 HS11.out.below)
                have k0 := HS11.out.x0
                have k1 := HS11.out.x1
                have k2 := HS11.out.x2
                have k3 := HS11.out.x3
                have zw : w.heap.size < wr.heap.size := Nat.lt_of_lt_of_le hz1 hb.size
                have p0 := (hbw.out.cell (p := ⟨w.heap.size, 0, none⟩) zw).trans g0
                have p1 := (hbw.out.cell (p := ⟨w.heap.size, 1, none⟩) zw).trans g1
                have p2 := (hbw.out.cell (p := ⟨w.heap.size, 2, none⟩) zw).trans g2
                have p3 := (hbw.out.cell (p := ⟨w.heap.size, 3, none⟩) zw).trans g3
                have pf0 := (hbw.out.frozen (p := ⟨w.heap.size, 0, none⟩) zw).trans gf0
                have pf1 := (hbw.out.frozen (p := ⟨w.heap.size, 1, none⟩) zw).trans gf1
                have pf2 := (hbw.out.frozen (p := ⟨w.heap.size, 2, none⟩) zw).trans gf2
                have pf3 := (hbw.out.frozen (p := ⟨w.heap.size, 3, none⟩) zw).trans gf3
                have HBB := Lib.hid (bnext (bnext HB1.out hb) hbw.out)
                go_wp2_with fail
                refine bodyPost_ret (v := .tuple #[insV (some ⟨(op : Int), v1, v2, []⟩), .bool true]) (by simp [results, Tryd.results25, go_sem, insV, p0, p1, p2, p3]) rfl ⟨⟨some _, HYes.out, rfl⟩, below_store4 HBB.out (Nat.le_refl _) _ _ _ _ _ _ _ _⟩
            · go_wp2_with fail
              refine (take_any w2.heap.size true _ (w2.heap.size + 1 + 1) _ HS8.out.rest).mono ?_
              rintro e w7 ⟨rfl, hr7, hg7⟩
              have hlN := (takeP_len true _ 1048576 (by omega) (takeP_len fb _ 1048576 (by omega) (takeP_len fa t 1048576 (by omega) HLen.out).2).2).1
              obtain ⟨nmv, hnmv⟩ : ∃ nmv, nmv = (takeP true (takeP fb (takeP fa t).2).2).1 := ⟨_, rfl⟩
              rw [← hnmv] at hlN ⊢
              have HNM := Lib.hid hnmv; clear hnmv
              have HS9 := Lib.hid (HS8.out.grown hg7 hr7); clear hr7 hg7
              have y3 := HS9.out.x3
              have yf3 := HS9.out.xf 3
              have HS10 := Lib.hid (HS9.out.setN nmv)
              have t0 := HS10.out.x0
              have t1 := HS10.out.x1
              have t2 := HS10.out.x2
              have t3 := HS10.out.x3
              go_wp2_with fail
              refine (formatInstr_any (op : Int) v1 v2 nmv _ (HTb.out _ HS10.out.below) (by omega)).mono ?_
              rintro e w9 ⟨rfl, hb9⟩
              have HS11 := Lib.hid (HS10.out.next hb9); clear hb9
              cases hq : (insText ⟨(op : Int), v1, v2, nmv⟩ == text)
              · have HNo := Lib.hid (fun y hy hyt => round_no text h0 wd t (op : Int) fa fb _ v1 v2 nmv HF.out HEq.out HW.out HV1.out HV2.out HNM.out hq y hy hyt)
                go_wp2_with fail
                go_roundw
                case rel =>
                  refine ⟨op + 1, by omega, by omega, by go_num, bnext HB2.out HS11.out.below, Lib.hid (fun y hy hyt => ?_)⟩
                  have h1 := HR.out y hy hyt
                  have h2 := HNo.out y hy hyt
                  omega
                case measure => simp [intOf]; omega
              · have HYes := Lib.hid (round_yes text h0 wd t (op : Int) fa fb _ v1 v2 nmv HF.out HEq.out HW.out hq)
                have hbw := Lib.hid (bnext hb2 HS11.out.below)
                have k0 := HS11.out.x0
                have k1 := HS11.out.x1
                have k2 := HS11.out.x2
                have k3 := HS11.out.x3
                have zw : w.heap.size < wr.heap.size := Nat.lt_of_lt_of_le hz1 hb.size
                have p0 := (hbw.out.cell (p := ⟨w.heap.size, 0, none⟩) zw).trans g0
                have p1 := (hbw.out.cell (p := ⟨w.heap.size, 1, none⟩) zw).trans g1
                have p2 := (hbw.out.cell (p := ⟨w.heap.size, 2, none⟩) zw).trans g2
                have p3 := (hbw.out.cell (p := ⟨w.heap.size, 3, none⟩) zw).trans g3
                have pf0 := (hbw.out.frozen (p := ⟨w.heap.size, 0, none⟩) zw).trans gf0
                have pf1 := (hbw.out.frozen (p := ⟨w.heap.size, 1, none⟩) zw).trans gf1
                have pf2 := (hbw.out.frozen (p := ⟨w.heap.size, 2, none⟩) zw).trans gf2
                have pf3 := (hbw.out.frozen (p := ⟨w.heap.size, 3, none⟩) zw).trans gf3
                have HBB := Lib.hid (bnext (bnext HB1.out hb) hbw.out)
                go_wp2_with fail
                refine bodyPost_ret (v := .tuple #[insV (some ⟨(op : Int), v1, v2, nmv⟩), .bool true]) (by simp [results, Tryd.results25, go_sem, insV, p0, p1, p2, p3]) rfl ⟨⟨some _, HYes.out, rfl⟩, below_store4 HBB.out (Nat.le_refl _) _ _ _ _ _ _ _ _⟩
        · have hwf : (wd == h0) = false := by simpa using hw
          have HWF := Lib.hid hw
          go_wp2_with fail
          go_quiet (fail)
          go_wp2_with fail
          go_roundw
          case rel =>
            refine ⟨op + 1, by omega, by omega, by go_num, ?_, Lib.hid (fun y hy hyt => ?_)⟩
            · exact below_drewN' (bal HB2.out _) _
            · have h1 := HR.out y hy hyt
              by_cases he : y.op = (op : Int)
              · obtain ⟨f, hf, -, hsp⟩ := text_form y hy
                rw [hyt, HW.out] at hsp
                rw [he, HF.out] at hf
                cases hf
                unfold wordsOf at hsp
                simp only [List.cons.injEq] at hsp
                exact absurd hsp.1.symm HWF.out
              · omega
          case measure => simp [intOf]; omega
      · have HN2 := Lib.hid (show Reads text none from fun y hy hyt => by
          have h1 := HR.out y hy hyt
          obtain ⟨f, hf, -, -⟩ := text_form y hy
          have h2 := (formOf_rng _ _ hf).2
          omega)
        go_wp2_with fail
        refine bodyPost_ret (v := .tuple #[insV none, .bool false]) (by simp [results, Tryd.results25, go_sem, insV, g0, g1, g2, g3]) rfl ⟨⟨none, HN2.out, rfl⟩, below_store4 (bnext HB1.out hb) (Nat.le_refl _) _ _ _ _ _ _ _ _⟩

theorem implParse_any (text : By) (w : World) (he : Er w) (ht : Tb w) (hl : text.length ≤ 1048576) :
    Calls Tryd.prog 25 #[.string ⟨text.toArray⟩] w fun e w' => (∃ o, Reads text o ∧ e = .returned (.tuple #[insV o, .bool o.isSome])) ∧ Below w.heap.size w w' := by
  by_cases h : (spl text).length = 1
  · exact implParse_one text w h he ht hl
  · exact implParse_more text w h he ht hl
end Go.Proofs.YtlknhjibadbeeaaDoor
