/- Walks of impl's small tests on terms: isOp, isBuilt, isCut, isPlain. -/
import Derived.Test.YtlknhjibadbeeaaDoorW19
namespace Go.Proofs.YtlknhjibadbeeaaDoor
open Go.RowKit Go.Deep

attribute [local go_sem] ba_get ba_append

set_option maxRecDepth 100000 in
theorem isOp_any (nm : By) (w : World) :
    Calls Tryd.prog 101 #[.string ⟨nm.toArray⟩] w fun e w' => e = .returned (.bool (decide (0 < lev nm))) ∧ w' = w := by
  go_enter Tryd.func101, Tryd.ntmps101
  go_wp2_with fail
  refine (opLevel_any _ _).mono ?_
  rintro e w1 ⟨rfl, rfl⟩
  go_wp2_with fail
  go_ret
  exact ⟨rfl, rfl⟩

set_option maxRecDepth 100000 in
theorem isBuilt_any (k n : Int) (nm : By) (ks : List Tm) (w : World) (a : Option Addr) (m c : Nat) (hm : m = ks.length) :
    Calls Tryd.prog 102 #[.agg #[.int .i64 k, .int .i64 n, .string ⟨nm.toArray⟩, .slice a m c]] w fun e w' => e = .returned (.bool (isBltT (.mk k n nm ks))) ∧ Below w.heap.size w w' := by
  have HE := Lib.hid (show isBltT (.mk k n nm ks) = (decide (k = 3) && isBlt nm m) by rw [hm]; rfl)
  clear hm
  by_cases hk : k = 3
  · subst hk
    go_enter Tryd.func102, Tryd.ntmps102
    go_wp2_with fail
    refine (implIsBuiltin_any _ _ _).mono ?_
    rintro e w1 ⟨rfl, rfl⟩
    go_wp2_with fail
    go_ret
    exact ⟨ret_bool (by rw [HE.out]; simp), bal0 _ _⟩
  · have hk' : (k == 3) = false := by simpa using hk
    have HK := Lib.hid hk; clear hk
    go_enter Tryd.func102, Tryd.ntmps102
    go_wp2_with fail
    go_ret
    exact ⟨ret_bool (by rw [HE.out]; simp [HK.out]), bal0 _ _⟩
theorem lev_nonneg (nm : By) : 0 ≤ lev nm := by
  unfold lev
  repeat' split
  all_goals omega

set_option maxRecDepth 100000 in
set_option maxHeartbeats 1000000 in
theorem isPlain_any (k n : Int) (nm : By) (ks : List Tm) (w : World) (a : Option Addr) (m c : Nat) (hl : nm.length ≤ 1048576) (hm : m = ks.length) :
    Calls Tryd.prog 78 #[.agg #[.int .i64 k, .int .i64 n, .string ⟨nm.toArray⟩, .slice a m c]] w fun e w' => e = .returned (.bool (isPlainT (.mk k n nm ks))) ∧ Below w.heap.size w w' := by
  have HE := Lib.hid (show isPlainT (.mk k n nm ks) = (decide (k = 3) && isWord nm && !(isBltT (.mk 3 n nm ks)) && !(decide (0 < lev nm))) by
    have h1 := lev_nonneg nm
    have h2 : decide (lev nm = 0) = !(decide (0 < lev nm)) := by rw [Bool.eq_iff_iff]; simp; omega
    rw [← h2]; rfl)
  have HM := Lib.hid hm; clear hm
  by_cases hk : k = 3
  · subst hk
    cases hw : isWord nm
    · have HW := Lib.hid hw; clear hw
      go_enter Tryd.func78, Tryd.ntmps78
      go_wp2_with fail
      refine (isLetters_any _ _ (by omega)).mono ?_
      rintro e w1 ⟨rfl, rfl⟩
      rw [HW.out]
      go_wp2_with fail
      go_ret
      exact ⟨ret_bool (by rw [HE.out, HW.out]; rfl), bal0 _ _⟩
    · have HW := Lib.hid hw; clear hw
      cases ho : decide (0 < lev nm)
      · have HO := Lib.hid ho; clear ho
        go_enter Tryd.func78, Tryd.ntmps78
        go_wp2_with fail
        refine (isLetters_any _ _ (by omega)).mono ?_
        rintro e w1 ⟨rfl, rfl⟩
        rw [HW.out]
        go_wp2_with fail
        refine (isOp_any _ _).mono ?_
        rintro e w2 ⟨rfl, rfl⟩
        rw [HO.out]
        go_wp2_with fail
        refine (isBuilt_any 3 n nm ks _ _ _ _ HM.out).mono ?_
        rintro e w3 ⟨rfl, hb3⟩
        go_wp2_with fail
        go_ret
        exact ⟨ret_bool (by rw [HE.out, HW.out, HO.out]; simp), bnext (bal0 _ _) hb3⟩
      · have HO := Lib.hid ho; clear ho
        go_enter Tryd.func78, Tryd.ntmps78
        go_wp2_with fail
        refine (isLetters_any _ _ (by omega)).mono ?_
        rintro e w1 ⟨rfl, rfl⟩
        rw [HW.out]
        go_wp2_with fail
        refine (isOp_any _ _).mono ?_
        rintro e w2 ⟨rfl, rfl⟩
        rw [HO.out]
        go_wp2_with fail
        go_ret
        exact ⟨ret_bool (by rw [HE.out, HW.out, HO.out]; simp), bal0 _ _⟩
  · have hk' : (k == 3) = false := by simpa using hk
    have HK := Lib.hid hk; clear hk
    go_enter Tryd.func78, Tryd.ntmps78
    go_wp2_with fail
    go_ret
    exact ⟨ret_bool (by rw [HE.out]; simp [HK.out]), bal0 _ _⟩
set_option maxRecDepth 100000 in
theorem isCut_any (k n : Int) (nm : By) (ks : List Tm) (w : World) (a : Option Addr) (m c : Nat) (hm : m = ks.length) (hm2 : m ≤ 1048576) :
    Calls Tryd.prog 147 #[.agg #[.int .i64 k, .int .i64 n, .string ⟨nm.toArray⟩, .slice a m c]] w fun e w' => e = .returned (.bool (isCutT (.mk k n nm ks))) ∧ Below w.heap.size w w' := by
  have HE := Lib.hid (show isCutT (.mk k n nm ks) = (decide (k = 3) && decide (nm = [33]) && decide (m = 0)) by rw [hm]; rfl)
  clear hm
  have _ := hm2
  by_cases hk : k = 3
  · subst hk
    by_cases hm0 : m = 0
    · subst hm0
      by_cases hn : nm = [33]
      · subst hn
        go_enter Tryd.func147, Tryd.ntmps147
        go_wp2
        go_ret
        exact ⟨ret_bool (by rw [HE.out]; rfl), bal (bal0 _ _) _⟩
      · have hn' : (nm == [33]) = false := by simpa using hn
        have HN := Lib.hid hn; clear hn
        go_enter Tryd.func147, Tryd.ntmps147
        go_wp2
        go_ret
        exact ⟨ret_bool (by rw [HE.out]; simp [HN.out]), bal (bal0 _ _) _⟩
    · have hm0' : (m == 0) = false := by simpa using hm0
      have HM0 := Lib.hid hm0
      go_enter Tryd.func147, Tryd.ntmps147
      go_wp2
      go_ret
      exact ⟨ret_bool (by rw [HE.out]; simp [HM0.out]), bal (bal0 _ _) _⟩
  · have hk' : (k == 3) = false := by simpa using hk
    have HK := Lib.hid hk; clear hk
    go_enter Tryd.func147, Tryd.ntmps147
    go_wp2
    go_ret
    exact ⟨ret_bool (by rw [HE.out]; simp [HK.out]), bal (bal0 _ _) _⟩
end Go.Proofs.YtlknhjibadbeeaaDoor
