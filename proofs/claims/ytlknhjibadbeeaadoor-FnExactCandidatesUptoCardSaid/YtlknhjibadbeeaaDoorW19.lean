/- Walk of the reference's Candidates. -/
import Derived.Test.YtlknhjibadbeeaaDoorW18
namespace Go.Proofs.YtlknhjibadbeeaaDoor
open Go.RowKit Go.Deep

attribute [local go_sem] ba_get ba_append

/-- what Candidates answers -/
def candOut (p : List Cl) (t : Tm) : List Nat := if (progOk p && termOk t && isPlainT t) = true then candsOf p t else []

theorem keyRange_of (t : Tm) (h : termOk t = true) (hn : namesLe t 1048576 = true) : keyRange t.kids ∧ t.kids.length ≤ 1048576 := by
  obtain ⟨k, n, nm, ks⟩ := t
  have hsh : shape (.mk k n nm ks) 30 = true := by simp only [termOk, Bool.and_eq_true] at h; exact h.1
  have own_len : ∀ (k n : Int) (nm : By) (l : Nat), ownOk k n nm l = true → l ≤ 4 ∧ -1000000000 ≤ n ∧ n ≤ 1000000000 := by
    intro k n nm l h
    unfold ownOk at h
    split at h
    · simp at h; omega
    · split at h
      · simp at h; omega
      · split at h
        · simp at h; omega
        · cases h
  rw [shape_eq] at hsh
  simp only [Bool.and_eq_true, List.all_eq_true] at hsh
  refine ⟨fun x hx => ?_, by have := (own_len _ _ _ _ hsh.1.2).1; show ks.length ≤ _; omega⟩
  have hx2 := hsh.2 x hx
  simp only [namesLe, Bool.and_eq_true] at hn
  have hnx := namesLeL_mem hn.2 hx
  obtain ⟨k', n', nm', ks'⟩ := x
  rw [shape_eq] at hx2
  simp only [Bool.and_eq_true] at hx2
  have ho := own_len _ _ _ _ hx2.1.2
  simp only [namesLe, Bool.and_eq_true, decide_eq_true_eq] at hnx
  exact ⟨⟨ho.2.1, ho.2.2⟩, hnx.1, by show ks'.length ≤ _; omega⟩

theorem heads_of (p : List Cl) (h : progOk p = true) (hs : ∀ x ∈ p, ClSmall x) : ∀ x ∈ p, keyRange x.head.kids ∧ x.head.kids.length ≤ 1048576 := by
  intro x hx
  simp only [progOk, Bool.and_eq_true, List.all_eq_true] at h
  have := h.2 x hx
  simp only [clauseOk, Bool.and_eq_true] at this
  exact keyRange_of _ this.1.2 (hs x hx).2.2.1

theorem ownsRow_none {w : World} {B : Nat} {v : Value} (h : w.ownsRow B 3 1 v 0 []) (S : Nat → Prop) (hS : ∀ b, B ≤ b → S b) : ∃ a c, v = .slice a 0 c ∧ IntSl S w [] a 0 := intSl_of_own (xs := []) h hS

set_option maxRecDepth 100000 in
set_option maxHeartbeats 1000000 in
theorem specCandidates_any (S S' : Nat → Prop) (p : List Cl) (k n : Int) (nm : By) (ks : List Tm) (w : World) (a a' : Option Addr) (m c m' c' : Nat) (h : ClSl S w p a m) (hm : m ≤ 1048576) (h' : TmSl S' w ks a' m')
    (hs : ∀ x ∈ p, ClSmall x) (hN : nodes (.mk k n nm ks) ≤ 1048576) (hnm : namesLe (.mk k n nm ks) 1048576 = true) :
    Calls Tryd.prog 13 #[.slice a m c, .agg #[.int .i64 k, .int .i64 n, .string ⟨nm.toArray⟩, .slice a' m' c']] w fun e w' =>
      (∃ a2 n2 c2, e = .returned (.slice a2 n2 c2) ∧ IntSl (fun b => w.heap.size ≤ b) w' (candOut p (.mk k n nm ks)) a2 n2) ∧ Below w.heap.size w w' := by
  have hl : nm.length ≤ 1048576 := by simp only [namesLe, Bool.and_eq_true, decide_eq_true_eq] at hnm; exact hnm.1
  have hm2 : m' ≤ 1048576 := by have := h'.1; have := nodesL_len ks; simp only [nodes] at hN; omega
  have H := Lib.hid h; clear h
  have HK := Lib.hid h'; clear h'
  have HS := Lib.hid hs; clear hs
  have HN := Lib.hid (And.intro hN hnm); clear hN hnm
  cases hA : progOk p
  · have HA := Lib.hid hA
    have HE := Lib.hid (show candOut p (.mk k n nm ks) = [] by simp [candOut, hA])
    clear hA
    go_enter Tryd.func13, Tryd.ntmps13
    go_wp2_with fail
    refine (specProgramValid_any S p _ _ _ _ HS.out (H.out.below (bal0 _ _)) hm).mono ?_
    rintro e w1 ⟨rfl, hb1⟩
    rw [HA.out]
    obtain ⟨hc1, hf1⟩ := bcell hb1
    have HB1 := Lib.hid (bnext (bal0 _ _) hb1)
    have hz1 := bsz w.heap.size hb1 (by simp)
    go_wp2_with fail
    go_ret
    exact ⟨⟨_, _, _, rfl, by rw [HE.out]; exact ⟨rfl, fun h => absurd h (by omega)⟩⟩, bal HB1.out _⟩
  · cases hT : termOk (.mk k n nm ks)
    · have HA := Lib.hid hA
      have HT := Lib.hid hT
      have HE := Lib.hid (show candOut p (.mk k n nm ks) = [] by simp [candOut, hT])
      clear hA hT
      go_enter Tryd.func13, Tryd.ntmps13
      go_wp2_with fail
      refine (specProgramValid_any S p _ _ _ _ HS.out (H.out.below (bal0 _ _)) hm).mono ?_
      rintro e w1 ⟨rfl, hb1⟩
      rw [HA.out]
      obtain ⟨hc1, hf1⟩ := bcell hb1
      have HB1 := Lib.hid (bnext (bal0 _ _) hb1)
      have hz1 := bsz w.heap.size hb1 (by simp)
      go_wp2_with fail
      refine (specTermValid_any S' _ _ _ _ _ _ _ _ HN.out.1 HN.out.2 (HK.out.below HB1.out)).mono ?_
      rintro e w2 ⟨rfl, hb2⟩
      rw [HT.out]
      obtain ⟨hc2, hf2⟩ := bcell hb2
      have HB2 := Lib.hid (bnext HB1.out hb2)
      have hz2 := bsz w.heap.size hb2 hz1
      go_wp2_with fail
      go_ret
      exact ⟨⟨_, _, _, rfl, by rw [HE.out]; exact ⟨rfl, fun h => absurd h (by omega)⟩⟩, bal HB2.out _⟩
    · cases hP : isPlainT (.mk k n nm ks)
      · have HA := Lib.hid hA
        have HT := Lib.hid hT
        have HP := Lib.hid hP
        have HE := Lib.hid (show candOut p (.mk k n nm ks) = [] by simp [candOut, hP])
        clear hA hT hP
        go_enter Tryd.func13, Tryd.ntmps13
        go_wp2_with fail
        refine (specProgramValid_any S p _ _ _ _ HS.out (H.out.below (bal0 _ _)) hm).mono ?_
        rintro e w1 ⟨rfl, hb1⟩
        rw [HA.out]
        obtain ⟨hc1, hf1⟩ := bcell hb1
        have HB1 := Lib.hid (bnext (bal0 _ _) hb1)
        have hz1 := bsz w.heap.size hb1 (by simp)
        go_wp2_with fail
        refine (specTermValid_any S' _ _ _ _ _ _ _ _ HN.out.1 HN.out.2 (HK.out.below HB1.out)).mono ?_
        rintro e w2 ⟨rfl, hb2⟩
        rw [HT.out]
        obtain ⟨hc2, hf2⟩ := bcell hb2
        have HB2 := Lib.hid (bnext HB1.out hb2)
        have hz2 := bsz w.heap.size hb2 hz1
        go_wp2_with fail
        refine (l4Plain_any _ _ _ ks _ _ _ _ hl HK.out.1 hm2).mono ?_
        rintro e w3 ⟨rfl, hb3⟩
        rw [HP.out]
        obtain ⟨hc3, hf3⟩ := bcell hb3
        have HB3 := Lib.hid (bnext HB2.out hb3)
        have hz3 := bsz w.heap.size hb3 hz2
        go_wp2_with fail
        go_ret
        exact ⟨⟨_, _, _, rfl, by rw [HE.out]; exact ⟨rfl, fun h => absurd h (by omega)⟩⟩, bal HB3.out _⟩
      · have HA := Lib.hid hA
        have HT := Lib.hid hT
        have HP := Lib.hid hP
        have HE := Lib.hid (show candOut p (.mk k n nm ks) = candsOf p (.mk k n nm ks) by simp [candOut, hA, hT, hP])
        clear hA hT hP
        go_enter Tryd.func13, Tryd.ntmps13
        go_wp2_with fail
        refine (specProgramValid_any S p _ _ _ _ HS.out (H.out.below (bal0 _ _)) hm).mono ?_
        rintro e w1 ⟨rfl, hb1⟩
        rw [HA.out]
        obtain ⟨hc1, hf1⟩ := bcell hb1
        have HB1 := Lib.hid (bnext (bal0 _ _) hb1)
        have hz1 := bsz w.heap.size hb1 (by simp)
        go_wp2_with fail
        refine (specTermValid_any S' _ _ _ _ _ _ _ _ HN.out.1 HN.out.2 (HK.out.below HB1.out)).mono ?_
        rintro e w2 ⟨rfl, hb2⟩
        rw [HT.out]
        obtain ⟨hc2, hf2⟩ := bcell hb2
        have HB2 := Lib.hid (bnext HB1.out hb2)
        have hz2 := bsz w.heap.size hb2 hz1
        go_wp2_with fail
        refine (l4Plain_any _ _ _ ks _ _ _ _ hl HK.out.1 hm2).mono ?_
        rintro e w3 ⟨rfl, hb3⟩
        rw [HP.out]
        obtain ⟨hc3, hf3⟩ := bcell hb3
        have HB3 := Lib.hid (bnext HB2.out hb3)
        have hz3 := bsz w.heap.size hb3 hz2
        go_wp2_with fail
        refine (l7Candidates_any S S' p k n nm ks _ _ _ _ _ _ _ (H.out.below HB3.out) hm (HK.out.below HB3.out) hm2 (heads_of p HA.out HS.out) (keyRange_of _ HT.out HN.out.2).1).mono ?_
        rintro e w4 ⟨⟨a2, n2, c2, rfl, hI⟩, hb4⟩
        go_wp2_with fail
        go_ret
        exact ⟨⟨_, _, _, rfl, by rw [HE.out]; exact hI.mono (Nat.le_refl _) (fun b hb => Nat.le_trans HB3.out.size hb) (fun _ _ _ => rfl)⟩, bnext HB3.out hb4⟩
end Go.Proofs.YtlknhjibadbeeaaDoor
