/- Walks of the reference's functions that say what is valid, third part: goals, clauses, programs. -/
import Derived.Test.YtlknhjibadbeeaaDoorW13
import Derived.Test.YtlknhjibadbeeaaDoorM3
namespace Go.Proofs.YtlknhjibadbeeaaDoor
open Go.RowKit

attribute [local go_sem] ba_get ba_append
theorem kid_nodes (t : Tm) : nodes (.mk t.kind t.n t.name t.kids) = nodes t := by cases t; rfl
set_option maxRecDepth 100000 in
set_option maxHeartbeats 1000000 in
theorem l4Plain_any (k n : Int) (nm : By) (ks : List Tm) (w : World) (a : Option Addr) (m c : Nat) (hl : nm.length ≤ 1048576) (hm : m = ks.length) (hm2 : m ≤ 1048576) :
    Calls Tryd.prog 38 #[.agg #[.int .i64 k, .int .i64 n, .string ⟨nm.toArray⟩, .slice a m c]] w fun e w' => e = .returned (.bool (isPlainT (.mk k n nm ks))) ∧ Below w.heap.size w w' := by
  have HE := Lib.hid (show isPlainT (.mk k n nm ks) = (decide (k = 3) && isWord nm && !(isBlt nm m) && decide (lev nm = 0)) by rw [hm]; rfl)
  have _ := hm2
  clear hm
  by_cases hk : k = 3
  · subst hk
    cases hw : isWord nm
    · have HW := Lib.hid hw; clear hw
      have HB := Lib.hid (rfl : isBlt nm m = isBlt nm m)
      go_enter Tryd.func38, Tryd.ntmps38
      go_wp2_with (first | (go_at_call 65; refine (l1Word_any _ _ (by omega)).mono ?_; rintro e w1 ⟨rfl, rfl⟩; rw [HW.out]) | (go_at_call 66; refine (specIsBuiltin_any _ _ _).mono ?_; rintro e w2 ⟨rfl, rfl⟩; rw [HB.out]) | (go_at_call 67; refine (l2Level_any _ _).mono ?_; rintro e w3 ⟨rfl, rfl⟩))
      go_ret
      exact ⟨ret_bool (by rw [HE.out, HW.out]; rfl), bal0 _ _⟩
    · have HW := Lib.hid hw; clear hw
      cases hb : isBlt nm m
      · have HB := Lib.hid hb; clear hb
        go_enter Tryd.func38, Tryd.ntmps38
        go_wp2_with (first | (go_at_call 65; refine (l1Word_any _ _ (by omega)).mono ?_; rintro e w1 ⟨rfl, rfl⟩; rw [HW.out]) | (go_at_call 66; refine (specIsBuiltin_any _ _ _).mono ?_; rintro e w2 ⟨rfl, rfl⟩; rw [HB.out]) | (go_at_call 67; refine (l2Level_any _ _).mono ?_; rintro e w3 ⟨rfl, rfl⟩))
        go_ret
        exact ⟨ret_bool (by rw [HE.out, HW.out, HB.out, Bool.eq_iff_iff]; simp), bal0 _ _⟩
      · have HB := Lib.hid hb; clear hb
        go_enter Tryd.func38, Tryd.ntmps38
        go_wp2_with (first | (go_at_call 65; refine (l1Word_any _ _ (by omega)).mono ?_; rintro e w1 ⟨rfl, rfl⟩; rw [HW.out]) | (go_at_call 66; refine (specIsBuiltin_any _ _ _).mono ?_; rintro e w2 ⟨rfl, rfl⟩; rw [HB.out]) | (go_at_call 67; refine (l2Level_any _ _).mono ?_; rintro e w3 ⟨rfl, rfl⟩))
        go_ret
        exact ⟨ret_bool (by rw [HE.out, HW.out, HB.out]; rfl), bal0 _ _⟩
  · have hk' : (k == 3) = false := by simpa using hk
    have HK := Lib.hid hk; clear hk
    go_enter Tryd.func38, Tryd.ntmps38
    go_wp2_with fail
    go_ret
    exact ⟨ret_bool (by rw [HE.out]; simp [HK.out]), bal0 _ _⟩
set_option maxRecDepth 100000 in
set_option maxHeartbeats 1000000 in
theorem l4Cut_any (k n : Int) (nm : By) (ks : List Tm) (w : World) (a : Option Addr) (m c : Nat) (hl : nm.length ≤ 1048576) (hm : m = ks.length) (hm2 : m ≤ 1048576) :
    Calls Tryd.prog 131 #[.agg #[.int .i64 k, .int .i64 n, .string ⟨nm.toArray⟩, .slice a m c]] w fun e w' => e = .returned (.bool (isCutT (.mk k n nm ks))) ∧ Below w.heap.size w w' := by
  have HE := Lib.hid (show isCutT (.mk k n nm ks) = (decide (k = 3) && decide (nm = [33]) && decide (m = 0)) by rw [hm]; rfl)
  have _ := hm2
  have _ := hl
  clear hm
  by_cases hk : k = 3
  · subst hk
    by_cases hn : nm = [33]
    · have HN := Lib.hid hn
      subst hn
      go_enter Tryd.func131, Tryd.ntmps131
      go_wp2_with fail
      go_ret
      exact ⟨ret_bool (by rw [HE.out, Bool.eq_iff_iff]; simp), bal0 _ _⟩
    · have hn' : (nm == [33]) = false := by simpa using hn
      have HN := Lib.hid hn; clear hn
      go_enter Tryd.func131, Tryd.ntmps131
      go_wp2_with fail
      go_ret
      exact ⟨ret_bool (by rw [HE.out]; simp [HN.out]), bal0 _ _⟩
  · have hk' : (k == 3) = false := by simpa using hk
    have HK := Lib.hid hk; clear hk
    go_enter Tryd.func131, Tryd.ntmps131
    go_wp2_with fail
    go_ret
    exact ⟨ret_bool (by rw [HE.out]; simp [HK.out]), bal0 _ _⟩
def gKind (t : Tm) : Bool := isCutT t || isPlainT t || isBltT t
set_option maxRecDepth 100000 in
set_option maxHeartbeats 1000000 in
theorem l4Goal_any (k n : Int) (nm : By) (ks : List Tm) (w : World) (a : Option Addr) (m c : Nat) (hl : nm.length ≤ 1048576) (hm : m = ks.length) (hm2 : m ≤ 1048576) :
    Calls Tryd.prog 113 #[.agg #[.int .i64 k, .int .i64 n, .string ⟨nm.toArray⟩, .slice a m c]] w fun e w' => e = .returned (.bool (gKind (.mk k n nm ks))) ∧ Below w.heap.size w w' := by
  have HE := Lib.hid (show gKind (.mk k n nm ks) = (isCutT (.mk k n nm ks) || isPlainT (.mk k n nm ks) || (decide (k = 3) && isBlt nm m)) by rw [hm]; rfl)
  have HM := Lib.hid hm; clear hm
  go_enter Tryd.func113, Tryd.ntmps113
  go_wp2_with fail
  refine (l4Cut_any _ _ _ ks _ _ _ _ hl HM.out hm2).mono ?_
  rintro e w1 ⟨rfl, hb1⟩
  obtain ⟨hc1, hf1⟩ := bcell hb1
  have hz1 := bsz w.heap.size hb1 (by simp)
  have HB1 := Lib.hid (bnext (bal0 _ _) hb1)
  cases hcut : isCutT (.mk k n nm ks)
  case true =>
    have HC := Lib.hid hcut; clear hcut
    go_wp2_with fail
    go_ret
    exact ⟨ret_bool (by rw [HE.out, HC.out]; rfl), HB1.out⟩
  have HC := Lib.hid hcut; clear hcut
  go_wp2_with fail
  refine (l4Plain_any _ _ _ ks _ _ _ _ hl HM.out hm2).mono ?_
  rintro e w2 ⟨rfl, hb2⟩
  obtain ⟨hc2, hf2⟩ := bcell hb2
  have hz2 := bsz w.heap.size hb2 hz1
  have HB2 := Lib.hid (bnext HB1.out hb2)
  cases hpl : isPlainT (.mk k n nm ks)
  case true =>
    have HP := Lib.hid hpl; clear hpl
    go_wp2_with fail
    go_ret
    exact ⟨ret_bool (by rw [HE.out, HC.out, HP.out]; rfl), HB2.out⟩
  have HP := Lib.hid hpl; clear hpl
  by_cases hk : k = 3
  · subst hk
    go_wp2_with (go_at_call 66; refine (specIsBuiltin_any _ _ _).mono ?_; rintro e w3 ⟨rfl, rfl⟩)
    go_ret
    exact ⟨ret_bool (by rw [HE.out, HC.out, HP.out]; rfl), HB2.out⟩
  · have hk' : (k == 3) = false := by simpa using hk
    have HK := Lib.hid hk; clear hk
    go_wp2_with fail
    go_ret
    exact ⟨ret_bool (by rw [HE.out, HC.out, HP.out]; simp [HK.out]), HB2.out⟩
set_option maxRecDepth 100000 in
theorem specGoalValid_any (S : Nat → Prop) (k n : Int) (nm : By) (ks : List Tm) (w : World) (a : Option Addr) (m c : Nat) (hN : nodes (.mk k n nm ks) ≤ 1048576) (hnm : namesLe (.mk k n nm ks) 1048576 = true) (h : TmSl S w ks a m) :
    Calls Tryd.prog 94 #[.agg #[.int .i64 k, .int .i64 n, .string ⟨nm.toArray⟩, .slice a m c]] w fun e w' => e = .returned (.bool (goalOk (.mk k n nm ks))) ∧ Below w.heap.size w w' := by
  have HE := Lib.hid (show goalOk (.mk k n nm ks) = (termOk (.mk k n nm ks) && gKind (.mk k n nm ks)) from rfl)
  have hlen := nodesL_len ks
  have hl : nm.length ≤ 1048576 := by simp only [namesLe, Bool.and_eq_true, decide_eq_true_eq] at hnm; exact hnm.1
  have hm2 : m ≤ 1048576 := by have := h.1; simp only [nodes] at hN; omega
  have HN := Lib.hid (And.intro hN hnm); clear hN hnm
  have H := Lib.hid h; clear h
  go_enter Tryd.func94, Tryd.ntmps94
  go_wp2_with fail
  refine (specTermValid_any S _ _ _ ks _ _ _ _ HN.out.1 HN.out.2 (H.out.below (bal0 _ _))).mono ?_
  rintro e w1 ⟨rfl, hb1⟩
  obtain ⟨hc1, hf1⟩ := bcell hb1
  have hz1 := bsz w.heap.size hb1 (by simp)
  have HB1 := Lib.hid (bnext (bal0 _ _) hb1)
  cases hq : termOk (.mk k n nm ks)
  · have HQ := Lib.hid hq; clear hq
    go_wp2_with fail
    go_ret
    exact ⟨ret_bool (by rw [HE.out, HQ.out]; rfl), HB1.out⟩
  · have HQ := Lib.hid hq; clear hq
    go_wp2_with fail
    refine (l4Goal_any _ _ _ ks _ _ _ _ hl H.out.1 hm2).mono ?_
    rintro e w2 ⟨rfl, hb2⟩
    go_wp2_with fail
    go_ret
    exact ⟨ret_bool (by rw [HE.out, HQ.out]; rfl), bnext HB1.out hb2⟩
end Go.Proofs.YtlknhjibadbeeaaDoor
