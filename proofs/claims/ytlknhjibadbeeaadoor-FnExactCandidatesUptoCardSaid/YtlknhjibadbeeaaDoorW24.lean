/- Walks of impl.scan at variables and numbers. -/
import Derived.Test.YtlknhjibadbeeaaDoorW23
namespace Go.Proofs.YtlknhjibadbeeaaDoor
open Go.RowKit Go.Deep

attribute [local go_sem] ba_get ba_append

set_option maxRecDepth 100000 in
set_option maxHeartbeats 1000000 in
theorem scan_var (n : Int) (nm : By) (w : World) (a : Option Addr) (m c C : Nat) (d q : Int) (hC : C < w.heap.size) (hq : w.cell? ⟨C, 0, none⟩ = some (.int .i64 q)) (hf : w.frozen? ⟨C, 0, none⟩ = false) (h0 : 0 ≤ q) (hd0 : 1 ≤ d) (hs0 : q + 1 ≤ 120) (hs1 : d ≤ 30) :
  Calls Tryd.prog 100 #[.agg #[.int .i64 1, .int .i64 n, .string ⟨nm.toArray⟩, .slice a m c], .int .i64 d, .pointer (some ⟨C, 0, none⟩)] w fun e w' =>
    e = .returned (.bool (ownOk 1 n nm m)) ∧ w.grownBy w' (some C) ∧ w'.cell? ⟨C, 0, none⟩ = some (.int .i64 (q + 1)) ∧ w'.frozen? ⟨C, 0, none⟩ = false := by
  have HE := Lib.hid (show ownOk 1 n nm m = (decide (0 ≤ n) && decide (n ≤ 25) && decide (nm = []) && decide (m = 0)) from rfl)
  have e1 : ∀ o1 o2 o3, (((w.alloc o1).alloc o2).alloc o3).cell? ⟨C, 0, none⟩ = some (.int .i64 q) := fun o1 o2 o3 => ((bal (bal (bal0 w o1) o2) o3).cell (p := ⟨C, 0, none⟩) hC).trans hq
  have e2 : ∀ o1 o2 o3, (((w.alloc o1).alloc o2).alloc o3).frozen? ⟨C, 0, none⟩ = false := fun o1 o2 o3 => ((bal (bal (bal0 w o1) o2) o3).frozen (p := ⟨C, 0, none⟩) hC).trans hf
  have hn0 : C ≠ w.heap.size := by omega
  have hn1 : C ≠ w.heap.size + 1 := by omega
  have hn2 : C ≠ w.heap.size + 2 := by omega
  have hn3 : C ≠ w.heap.size + 1 + 1 := by omega
  cases hw : (decide (0 ≤ n) && decide (n ≤ 25))
  · go_enter Tryd.func100, Tryd.ntmps100
    go_wp2_with (go_at_call 58; refine (within_any _ _ _ _).mono ?_; rintro e w1 ⟨rfl, rfl⟩; rw [hw])
    go_ret
    exact ⟨ret_bool (by rw [HE.out, hw]; rfl), set_grown (bal (bal (bal0 _ _) _) _) C _, set_cell _ C _ _ (e1 _ _ _), set_frozen _ C _ (e2 _ _ _)⟩
  · by_cases hn : nm = []
    · subst hn
      by_cases hm0 : m = 0
      · subst hm0
        go_enter Tryd.func100, Tryd.ntmps100
        go_wp2_with (go_at_call 58; refine (within_any _ _ _ _).mono ?_; rintro e w1 ⟨rfl, rfl⟩; rw [hw])
        go_ret
        exact ⟨ret_bool (by rw [HE.out, hw]; rfl), set_grown (bal (bal (bal0 _ _) _) _) C _, set_cell _ C _ _ (e1 _ _ _), set_frozen _ C _ (e2 _ _ _)⟩
      · have hm0' : (m == 0) = false := by simpa using hm0
        go_enter Tryd.func100, Tryd.ntmps100
        go_wp2_with (go_at_call 58; refine (within_any _ _ _ _).mono ?_; rintro e w1 ⟨rfl, rfl⟩; rw [hw])
        go_ret
        exact ⟨ret_bool (by rw [HE.out, hw]; simp [hm0]), set_grown (bal (bal (bal0 _ _) _) _) C _, set_cell _ C _ _ (e1 _ _ _), set_frozen _ C _ (e2 _ _ _)⟩
    · have hn' : (nm == []) = false := by simpa using hn
      go_enter Tryd.func100, Tryd.ntmps100
      go_wp2_with (go_at_call 58; refine (within_any _ _ _ _).mono ?_; rintro e w1 ⟨rfl, rfl⟩; rw [hw])
      go_ret
      exact ⟨ret_bool (by rw [HE.out, hw]; simp [hn]), set_grown (bal (bal (bal0 _ _) _) _) C _, set_cell _ C _ _ (e1 _ _ _), set_frozen _ C _ (e2 _ _ _)⟩

set_option maxRecDepth 100000 in
set_option maxHeartbeats 1000000 in
theorem scan_int (n : Int) (nm : By) (w : World) (a : Option Addr) (m c C : Nat) (d q : Int) (hC : C < w.heap.size) (hq : w.cell? ⟨C, 0, none⟩ = some (.int .i64 q)) (hf : w.frozen? ⟨C, 0, none⟩ = false) (h0 : 0 ≤ q) (hd0 : 1 ≤ d) (hs0 : q + 1 ≤ 120) (hs1 : d ≤ 30) :
  Calls Tryd.prog 100 #[.agg #[.int .i64 2, .int .i64 n, .string ⟨nm.toArray⟩, .slice a m c], .int .i64 d, .pointer (some ⟨C, 0, none⟩)] w fun e w' =>
    e = .returned (.bool (ownOk 2 n nm m)) ∧ w.grownBy w' (some C) ∧ w'.cell? ⟨C, 0, none⟩ = some (.int .i64 (q + 1)) ∧ w'.frozen? ⟨C, 0, none⟩ = false := by
  have HE := Lib.hid (show ownOk 2 n nm m = (decide (-999 ≤ n) && decide (n ≤ 999) && decide (nm = []) && decide (m = 0)) from rfl)
  have e1 : ∀ o1 o2 o3, (((w.alloc o1).alloc o2).alloc o3).cell? ⟨C, 0, none⟩ = some (.int .i64 q) := fun o1 o2 o3 => ((bal (bal (bal0 w o1) o2) o3).cell (p := ⟨C, 0, none⟩) hC).trans hq
  have e2 : ∀ o1 o2 o3, (((w.alloc o1).alloc o2).alloc o3).frozen? ⟨C, 0, none⟩ = false := fun o1 o2 o3 => ((bal (bal (bal0 w o1) o2) o3).frozen (p := ⟨C, 0, none⟩) hC).trans hf
  have hn0 : C ≠ w.heap.size := by omega
  have hn1 : C ≠ w.heap.size + 1 := by omega
  have hn2 : C ≠ w.heap.size + 2 := by omega
  have hn3 : C ≠ w.heap.size + 1 + 1 := by omega
  cases hw : (decide (-999 ≤ n) && decide (n ≤ 999))
  · go_enter Tryd.func100, Tryd.ntmps100
    go_wp2_with (go_at_call 58; refine (within_any _ _ _ _).mono ?_; rintro e w1 ⟨rfl, rfl⟩; rw [hw])
    go_ret
    exact ⟨ret_bool (by rw [HE.out, hw]; rfl), set_grown (bal (bal (bal0 _ _) _) _) C _, set_cell _ C _ _ (e1 _ _ _), set_frozen _ C _ (e2 _ _ _)⟩
  · by_cases hn : nm = []
    · subst hn
      by_cases hm0 : m = 0
      · subst hm0
        go_enter Tryd.func100, Tryd.ntmps100
        go_wp2_with (go_at_call 58; refine (within_any _ _ _ _).mono ?_; rintro e w1 ⟨rfl, rfl⟩; rw [hw])
        go_ret
        exact ⟨ret_bool (by rw [HE.out, hw]; rfl), set_grown (bal (bal (bal0 _ _) _) _) C _, set_cell _ C _ _ (e1 _ _ _), set_frozen _ C _ (e2 _ _ _)⟩
      · have hm0' : (m == 0) = false := by simpa using hm0
        go_enter Tryd.func100, Tryd.ntmps100
        go_wp2_with (go_at_call 58; refine (within_any _ _ _ _).mono ?_; rintro e w1 ⟨rfl, rfl⟩; rw [hw])
        go_ret
        exact ⟨ret_bool (by rw [HE.out, hw]; simp [hm0]), set_grown (bal (bal (bal0 _ _) _) _) C _, set_cell _ C _ _ (e1 _ _ _), set_frozen _ C _ (e2 _ _ _)⟩
    · have hn' : (nm == []) = false := by simpa using hn
      go_enter Tryd.func100, Tryd.ntmps100
      go_wp2_with (go_at_call 58; refine (within_any _ _ _ _).mono ?_; rintro e w1 ⟨rfl, rfl⟩; rw [hw])
      go_ret
      exact ⟨ret_bool (by rw [HE.out, hw]; simp [hn]), set_grown (bal (bal (bal0 _ _) _) _) C _, set_cell _ C _ _ (e1 _ _ _), set_frozen _ C _ (e2 _ _ _)⟩
end Go.Proofs.YtlknhjibadbeeaaDoor
