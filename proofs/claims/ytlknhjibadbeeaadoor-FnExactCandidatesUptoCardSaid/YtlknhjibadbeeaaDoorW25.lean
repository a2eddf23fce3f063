/- Walks of impl.scan at structures whose own fields are bad. -/
import Derived.Test.YtlknhjibadbeeaaDoorW24
namespace Go.Proofs.YtlknhjibadbeeaaDoor
open Go.RowKit Go.Deep

attribute [local go_sem] ba_get ba_append

theorem set_end {w wa wb : World} {C : Nat} {u : Value} (h1 : w.grownBy wa (some C)) (hC : C < w.heap.size) (h2 : wa.cell? ⟨C, 0, none⟩ = some u) (h3 : wa.frozen? ⟨C, 0, none⟩ = false) (hb : Below wa.heap.size wa wb) :
    Ending.returned (.bool false) = .returned (.bool false) ∧ w.grownBy wb (some C) ∧ wb.cell? ⟨C, 0, none⟩ = some u ∧ wb.frozen? ⟨C, 0, none⟩ = false :=
  ⟨rfl, h1.below_next hb, (hb.cell (p := ⟨C, 0, none⟩) (Nat.lt_of_lt_of_le hC h1.size)).trans h2, (hb.frozen (p := ⟨C, 0, none⟩) (Nat.lt_of_lt_of_le hC h1.size)).trans h3⟩

set_option maxRecDepth 100000 in
set_option maxHeartbeats 1000000 in
theorem scan_bad (n : Int) (nm : By) (w : World) (a : Option Addr) (m c C : Nat) (d q : Int) (hC : C < w.heap.size) (hq : w.cell? ⟨C, 0, none⟩ = some (.int .i64 q)) (hf : w.frozen? ⟨C, 0, none⟩ = false) (h0 : 0 ≤ q) (hd0 : 1 ≤ d) (hs0 : q + 1 ≤ 120) (hs1 : d ≤ 30) (hl : nm.length ≤ 1048576) (hm : m ≤ 1048576) (hbad : ownOk 3 n nm m = false) :
  Calls Tryd.prog 100 #[.agg #[.int .i64 3, .int .i64 n, .string ⟨nm.toArray⟩, .slice a m c], .int .i64 d, .pointer (some ⟨C, 0, none⟩)] w fun e w' =>
    e = .returned (.bool false) ∧ w.grownBy w' (some C) ∧ w'.cell? ⟨C, 0, none⟩ = some (.int .i64 (q + 1)) ∧ w'.frozen? ⟨C, 0, none⟩ = false := by
  have hE : ownOk 3 n nm m = (decide (n = 0) && nameOk nm && decide (m ≤ 4)) := rfl
  have e1 : ∀ o1 o2 o3, (((w.alloc o1).alloc o2).alloc o3).cell? ⟨C, 0, none⟩ = some (.int .i64 q) := fun o1 o2 o3 => ((bal (bal (bal0 w o1) o2) o3).cell (p := ⟨C, 0, none⟩) hC).trans hq
  have e2 : ∀ o1 o2 o3, (((w.alloc o1).alloc o2).alloc o3).frozen? ⟨C, 0, none⟩ = false := fun o1 o2 o3 => ((bal (bal (bal0 w o1) o2) o3).frozen (p := ⟨C, 0, none⟩) hC).trans hf
  have hn0 : C ≠ w.heap.size := by omega
  have hn1 : C ≠ w.heap.size + 1 := by omega
  have hn2 : C ≠ w.heap.size + 2 := by omega
  have hn3 : C ≠ w.heap.size + 1 + 1 := by omega
  by_cases hn : n = 0
  · subst hn
    cases hnv : nameOk nm
    · clear hE hbad
      go_enter Tryd.func100, Tryd.ntmps100
      go_wp2_with fail
      refine (implNameValid_any _ _ (by omega)).mono ?_
      rintro e w1 ⟨rfl, hb1⟩
      rw [hnv]
      go_wp2_with fail
      go_ret
      exact set_end (set_grown (bal (bal (bal0 _ _) _) _) C _) hC (set_cell _ C _ _ (e1 _ _ _)) (set_frozen _ C _ (e2 _ _ _)) hb1
    · have hm4 : 4 < m := by rw [hE, hnv] at hbad; simp at hbad; omega
      clear hE hbad
      go_enter Tryd.func100, Tryd.ntmps100
      go_wp2_with fail
      refine (implNameValid_any _ _ (by omega)).mono ?_
      rintro e w1 ⟨rfl, hb1⟩
      rw [hnv]
      obtain ⟨hc1, hf1⟩ := bcell hb1
      have hz1 := bsz w.heap.size hb1 (by first | omega | (simp; omega))
      go_wp2_with fail
      go_ret
      exact set_end (set_grown (bal (bal (bal0 _ _) _) _) C _) hC (set_cell _ C _ _ (e1 _ _ _)) (set_frozen _ C _ (e2 _ _ _)) hb1
  · have hn' : (n == 0) = false := by simpa using hn
    clear hE hbad
    go_enter Tryd.func100, Tryd.ntmps100
    go_wp2_with fail
    go_ret
    exact ⟨rfl, set_grown (bal (bal (bal0 _ _) _) _) C _, set_cell _ C _ _ (e1 _ _ _), set_frozen _ C _ (e2 _ _ _)⟩
end Go.Proofs.YtlknhjibadbeeaaDoor
