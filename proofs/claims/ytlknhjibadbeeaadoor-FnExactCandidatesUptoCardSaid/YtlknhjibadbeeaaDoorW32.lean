/- Walks of impl.ClausesFor, and slices.Clone over numbers. -/
import Derived.Test.YtlknhjibadbeeaaDoorW31
namespace Go.Proofs.YtlknhjibadbeeaaDoor
open Go.RowKit Go.Deep

attribute [local go_sem] ba_get ba_append

/-- what ClausesFor answers -/
def forOut (p : List Cl) (t : Tm) : List Nat := if (progOk p && termOk t && isPlainT t) = true then forIdx p t.name t.kids.length p.length else []

set_option maxRecDepth 100000 in
set_option maxHeartbeats 1000000 in
theorem implClausesFor_any (S S' : Nat → Prop) (p : List Cl) (k n : Int) (nm : By) (ks : List Tm) (w : World) (a a' : Option Addr) (m c m' c' : Nat) (h : ClSl S w p a m) (hm : m ≤ 1048576) (h' : TmSl S' w ks a' m')
    (hs : ∀ x ∈ p, ClSmall x) (hN : nodes (.mk k n nm ks) ≤ 1048576) (hnm : namesLe (.mk k n nm ks) 1048576 = true) :
    Calls Tryd.prog 43 #[.slice a m c, .agg #[.int .i64 k, .int .i64 n, .string ⟨nm.toArray⟩, .slice a' m' c']] w fun e w' =>
      (∃ a2 n2 c2, e = .returned (.slice a2 n2 c2) ∧ IntSl (fun b => w.heap.size ≤ b) w' (forOut p (.mk k n nm ks)) a2 n2) ∧ Below w.heap.size w w' := by
  have hl : nm.length ≤ 1048576 := by simp only [namesLe, Bool.and_eq_true, decide_eq_true_eq] at hnm; exact hnm.1
  have hm2 : m' ≤ 1048576 := by have := h'.1; have := nodesL_len ks; simp only [nodes] at hN; omega
  have H := Lib.hid h; clear h
  have HK := Lib.hid h'; clear h'
  have HS := Lib.hid hs; clear hs
  have HN := Lib.hid (And.intro hN hnm); clear hN hnm
  cases hA : progOk p
  · have HA := Lib.hid hA
    have HE := Lib.hid (show forOut p (.mk k n nm ks) = [] by simp [forOut, hA])
    clear hA
    go_enter Tryd.func43, Tryd.ntmps43
    go_wp2_with fail
    refine (implProgramValid_any S p _ _ _ _ HS.out (H.out.below (bal0 _ _)) hm).mono ?_
    rintro e w1 ⟨rfl, hb1⟩
    rw [HA.out]
    obtain ⟨hc1, hf1⟩ := bcell hb1
    have HB1 := Lib.hid (bnext (bal0 _ _) hb1)
    have hz1 := bsz w.heap.size hb1 (by simp)
    go_wp2_with fail
    go_ret
    exact ⟨⟨_, _, _, rfl, by rw [HE.out]; exact ⟨rfl, fun h => absurd h (by omega)⟩⟩, HB1.out⟩
  · cases hT : termOk (.mk k n nm ks)
    · have HA := Lib.hid hA
      have HT := Lib.hid hT
      have HE := Lib.hid (show forOut p (.mk k n nm ks) = [] by simp [forOut, hT])
      clear hA hT
      go_enter Tryd.func43, Tryd.ntmps43
      go_wp2_with fail
      refine (implProgramValid_any S p _ _ _ _ HS.out (H.out.below (bal0 _ _)) hm).mono ?_
      rintro e w1 ⟨rfl, hb1⟩
      rw [HA.out]
      obtain ⟨hc1, hf1⟩ := bcell hb1
      have HB1 := Lib.hid (bnext (bal0 _ _) hb1)
      have hz1 := bsz w.heap.size hb1 (by simp)
      go_wp2_with fail
      refine (implTermValid_any S' _ _ _ _ _ _ _ _ HN.out.1 HN.out.2 (HK.out.below HB1.out)).mono ?_
      rintro e w2 ⟨rfl, hb2⟩
      rw [HT.out]
      obtain ⟨hc2, hf2⟩ := bcell hb2
      have HB2 := Lib.hid (bnext HB1.out hb2)
      have hz2 := bsz w.heap.size hb2 hz1
      go_wp2_with fail
      go_ret
      exact ⟨⟨_, _, _, rfl, by rw [HE.out]; exact ⟨rfl, fun h => absurd h (by omega)⟩⟩, HB2.out⟩
    · cases hP : isPlainT (.mk k n nm ks)
      · have HA := Lib.hid hA
        have HT := Lib.hid hT
        have HP := Lib.hid hP
        have HE := Lib.hid (show forOut p (.mk k n nm ks) = [] by simp [forOut, hP])
        clear hA hT hP
        go_enter Tryd.func43, Tryd.ntmps43
        go_wp2_with fail
        refine (implProgramValid_any S p _ _ _ _ HS.out (H.out.below (bal0 _ _)) hm).mono ?_
        rintro e w1 ⟨rfl, hb1⟩
        rw [HA.out]
        obtain ⟨hc1, hf1⟩ := bcell hb1
        have HB1 := Lib.hid (bnext (bal0 _ _) hb1)
        have hz1 := bsz w.heap.size hb1 (by simp)
        go_wp2_with fail
        refine (implTermValid_any S' _ _ _ _ _ _ _ _ HN.out.1 HN.out.2 (HK.out.below HB1.out)).mono ?_
        rintro e w2 ⟨rfl, hb2⟩
        rw [HT.out]
        obtain ⟨hc2, hf2⟩ := bcell hb2
        have HB2 := Lib.hid (bnext HB1.out hb2)
        have hz2 := bsz w.heap.size hb2 hz1
        go_wp2_with fail
        refine (isPlain_any _ _ _ ks _ _ _ _ hl HK.out.1).mono ?_
        rintro e w3 ⟨rfl, hb3⟩
        rw [HP.out]
        obtain ⟨hc3, hf3⟩ := bcell hb3
        have HB3 := Lib.hid (bnext HB2.out hb3)
        have hz3 := bsz w.heap.size hb3 hz2
        go_wp2_with fail
        go_ret
        exact ⟨⟨_, _, _, rfl, by rw [HE.out]; exact ⟨rfl, fun h => absurd h (by omega)⟩⟩, HB3.out⟩
      · have HA := Lib.hid hA
        have HT := Lib.hid hT
        have HP := Lib.hid hP
        have HE := Lib.hid (show forOut p (.mk k n nm ks) = forIdx p nm ks.length p.length by simp [forOut, hA, hT, hP]; rfl)
        clear hA hT hP
        go_enter Tryd.func43, Tryd.ntmps43
        go_wp2_with fail
        refine (implProgramValid_any S p _ _ _ _ HS.out (H.out.below (bal0 _ _)) hm).mono ?_
        rintro e w1 ⟨rfl, hb1⟩
        rw [HA.out]
        obtain ⟨hc1, hf1⟩ := bcell hb1
        have HB1 := Lib.hid (bnext (bal0 _ _) hb1)
        have hz1 := bsz w.heap.size hb1 (by simp)
        go_wp2_with fail
        refine (implTermValid_any S' _ _ _ _ _ _ _ _ HN.out.1 HN.out.2 (HK.out.below HB1.out)).mono ?_
        rintro e w2 ⟨rfl, hb2⟩
        rw [HT.out]
        obtain ⟨hc2, hf2⟩ := bcell hb2
        have HB2 := Lib.hid (bnext HB1.out hb2)
        have hz2 := bsz w.heap.size hb2 hz1
        go_wp2_with fail
        refine (isPlain_any _ _ _ ks _ _ _ _ hl HK.out.1).mono ?_
        rintro e w3 ⟨rfl, hb3⟩
        rw [HP.out]
        obtain ⟨hc3, hf3⟩ := bcell hb3
        have HB3 := Lib.hid (bnext HB2.out hb3)
        have hz3 := bsz w.heap.size hb3 hz2
        go_wp2_with fail
        refine (pred_any _ _ _ _ _ _ _).mono ?_
        rintro e w4 ⟨rfl, hb4⟩
        have HB4 := Lib.hid (bnext HB3.out hb4)
        go_wp2_with fail
        refine (clausesFor_any S p nm m' _ _ _ _ (H.out.below HB4.out) hm hm2 (fun x hx => (heads_of p HA.out HS.out x hx).2)).mono ?_
        rintro e w5 ⟨⟨a2, n2, c2, rfl, hI⟩, hb5⟩
        go_wp2_with fail
        go_ret
        exact ⟨⟨_, _, _, rfl, by rw [HE.out, ← HK.out.1]; exact hI.mono (Nat.le_refl _) (fun b hb => Nat.le_trans HB4.out.size hb) (fun _ _ _ => rfl)⟩, bnext HB4.out hb5⟩

/-- slices.Clone over numbers -/
theorem clone_any (S : Nat → Prop) (xs : List Nat) (w : World) (a : Option Addr) (n c : Nat) (hn : n ≤ 1048576) (h : IntSl S w xs a n) :
    Calls Tryd.prog 73 #[.slice a n c] w fun e w' => ∃ a' c', e = .returned (.slice a' n c') ∧ IntSl (fun b => w.heap.size ≤ b) w' xs a' n ∧ (0 < n → ∃ G, a' = some ⟨G, 0, none⟩ ∧ w.heap.size ≤ G ∧ ∀ k, w'.frozen? ⟨G, k, none⟩ = false) ∧ n ≤ c' ∧ c' ≤ 9223372036854775807 ∧ Below w.heap.size w w' := by
  by_cases h0 : n = 0
  · subst h0
    have hx : xs = [] := List.length_eq_zero_iff.1 h.1.symm
    subst hx
    cases a with
    | none =>
      refine (Tryd.slices_Clone_int_nil 0 c w).mono ?_
      rintro e w' ⟨rfl, rfl⟩
      exact ⟨none, 0, rfl, ⟨rfl, fun h => absurd h (by omega)⟩, fun h => absurd h (by omega), Nat.le_refl _, by omega, Below.refl _ _⟩
    | some p =>
      refine (Tryd.slices_Clone_int_zero p c w).mono ?_
      rintro e w' ⟨v', rfl, hown, -, hb⟩
      rcases hown.2 with ⟨rfl, -⟩ | ⟨g, cap, cur, rfl, hg, hh, hcap, hmax, hsz, htk⟩
      · exact ⟨none, 0, rfl, ⟨rfl, fun h => absurd h (by omega)⟩, fun h => absurd h (by omega), Nat.le_refl _, by omega, hb⟩
      · exact ⟨_, cap, rfl, ⟨rfl, fun h => absurd h (by omega)⟩, fun h => absurd h (by omega), hcap, by unfold maxLen at hmax; omega, hb⟩
  · obtain ⟨b, o, rfl, hb0, -, hr⟩ := h.2 (by omega)
    have hxl := h.1
    refine (Tryd.slices_Clone_int b o n c (xs.map fun (x : Nat) => (x : Int)) w (by simp; omega) (by omega) (fun j hj => ?_)).mono ?_
    · have hj' : j < xs.length := by simpa using hj
      rw [hr j hj']
      simp [List.getElem?_eq_getElem hj']
    · rintro e w' ⟨v', rfl, hown, -, hb⟩
      have hmm : ((xs.map fun (x : Nat) => (x : Int)).take n).map (Value.int .i64) = xs.map fun x => Value.int .i64 (x : Nat) := by
        rw [List.take_of_length_le (by simp; omega), List.map_map]; rfl
      rw [hmm] at hown
      have hI := intSl_of_own (S := fun b => w.heap.size ≤ b) hown (fun b hb => hb)
      rcases hown.2 with ⟨-, h0'⟩ | ⟨g, cap, cur, rfl, hg, hh, hcap, hmax, hsz, htk⟩
      · exact absurd h0' h0
      · obtain ⟨a2, c2, e2, hI2⟩ := hI
        simp only [Value.slice.injEq] at e2
        obtain ⟨rfl, -, rfl⟩ := e2
        exact ⟨_, cap, rfl, hI2, fun _ => ⟨g, rfl, hg, fun k => World.ownsRow.frozenAt hown k⟩, hcap, by unfold maxLen at hmax; omega, hb⟩
end Go.Proofs.YtlknhjibadbeeaaDoor
