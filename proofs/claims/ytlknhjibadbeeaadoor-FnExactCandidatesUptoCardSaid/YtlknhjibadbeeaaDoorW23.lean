/- Walks of impl.scan, scan$1 and impl.TermValid. -/
import Derived.Test.YtlknhjibadbeeaaDoorW22
namespace Go.Proofs.YtlknhjibadbeeaaDoor
open Go.RowKit Go.Deep

attribute [local go_sem] ba_get ba_append

set_option maxRecDepth 100000 in
theorem within_any (n l h : Int) (w : World) :
    Calls Tryd.prog 58 #[.int .i64 n, .int .i64 l, .int .i64 h] w fun e w' => e = .returned (.bool (decide (l ≤ n) && decide (n ≤ h))) ∧ w' = w := by
  by_cases h1 : l ≤ n
  · go_enter Tryd.func58, Tryd.ntmps58
    go_wp2
    go_ret
    exact ⟨ret_bool (by simp [h1]), rfl⟩
  · go_enter Tryd.func58, Tryd.ntmps58
    go_wp2
    go_ret
    exact ⟨ret_bool (by rw [Bool.eq_iff_iff]; simp; omega), rfl⟩

theorem set_grown {w w0 : World} (hb : Below w.heap.size w w0) (C : Nat) (v : Value) : w.grownBy (w0.setCell ⟨C, 0, none⟩ v) (some C) := by
  have h2 : Below C w0 (w0.setCell ⟨C, 0, none⟩ v) := (Below.refl C w0).setCell (p := ⟨C, 0, none⟩) (Nat.le_refl _) v
  refine ⟨h2.os.trans hb.os, h2.tape.trans hb.tape, h2.output.trans hb.output, Nat.le_trans hb.size h2.size, fun q hq hne => ?_⟩
  rw [Below.heap_setCell _ _ _ _ (fun e => hne (congrArg some e))]
  exact hb.block q hq
theorem set_cell (w0 : World) (C : Nat) (v u : Value) (h : w0.cell? ⟨C, 0, none⟩ = some u) : (w0.setCell ⟨C, 0, none⟩ v).cell? ⟨C, 0, none⟩ = some v := World.cell?_setCell_same' w0 ⟨C, 0, none⟩ v (by rw [h]; rfl)
theorem set_frozen (w0 : World) (C : Nat) (v : Value) (h : w0.frozen? ⟨C, 0, none⟩ = false) : (w0.setCell ⟨C, 0, none⟩ v).frozen? ⟨C, 0, none⟩ = false := by simpa using h

/-- scan, for terms of at most N nodes: C holds the count -/
def Scn (N : Nat) : Prop := ∀ (k n : Int) (nm : By) (ks : List Tm) (w : World) (a : Option Addr) (m c C : Nat) (d q : Int),
  nodes (.mk k n nm ks) ≤ N → N ≤ 1048576 → namesLe (.mk k n nm ks) 1048576 = true → TmSl (fun b => b ≠ C) w ks a m → C < w.heap.size →
  w.cell? ⟨C, 0, none⟩ = some (.int .i64 q) → w.frozen? ⟨C, 0, none⟩ = false → 0 ≤ q → q ≤ 1000000000 → 1 ≤ d → d ≤ 31 →
  Calls Tryd.prog 100 #[.agg #[.int .i64 k, .int .i64 n, .string ⟨nm.toArray⟩, .slice a m c], .int .i64 d, .pointer (some ⟨C, 0, none⟩)] w fun e w' =>
    ∃ r q', e = .returned (.bool r) ∧ w.grownBy w' (some C) ∧ w'.cell? ⟨C, 0, none⟩ = some (.int .i64 q') ∧ w'.frozen? ⟨C, 0, none⟩ = false ∧ q ≤ q' ∧ q' ≤ q + nodes (.mk k n nm ks) ∧
      (r = true → shape (.mk k n nm ks) (31 - d).toNat = true ∧ q' = q + nodes (.mk k n nm ks) ∧ q' ≤ 120) ∧
      (shape (.mk k n nm ks) (31 - d).toNat = true → q + nodes (.mk k n nm ks) ≤ 120 → r = true)

set_option maxRecDepth 100000 in
set_option maxHeartbeats 1000000 in
theorem scan_big (k n : Int) (nm : By) (w : World) (a : Option Addr) (m c C : Nat) (d q : Int) (hC : C < w.heap.size) (hq : w.cell? ⟨C, 0, none⟩ = some (.int .i64 q)) (hf : w.frozen? ⟨C, 0, none⟩ = false) (h0 : 0 ≤ q) (h1 : q ≤ 1000000000) (hd0 : 1 ≤ d) (hd : d ≤ 31) (hbig : 120 < q + 1 ∨ 30 < d) :
  Calls Tryd.prog 100 #[.agg #[.int .i64 k, .int .i64 n, .string ⟨nm.toArray⟩, .slice a m c], .int .i64 d, .pointer (some ⟨C, 0, none⟩)] w fun e w' =>
    e = .returned (.bool false) ∧ w.grownBy w' (some C) ∧ w'.cell? ⟨C, 0, none⟩ = some (.int .i64 (q + 1)) ∧ w'.frozen? ⟨C, 0, none⟩ = false := by
  have e1 : ∀ o1 o2 o3, (((w.alloc o1).alloc o2).alloc o3).cell? ⟨C, 0, none⟩ = some (.int .i64 q) := fun o1 o2 o3 => ((bal (bal (bal0 w o1) o2) o3).cell (p := ⟨C, 0, none⟩) hC).trans hq
  have e2 : ∀ o1 o2 o3, (((w.alloc o1).alloc o2).alloc o3).frozen? ⟨C, 0, none⟩ = false := fun o1 o2 o3 => ((bal (bal (bal0 w o1) o2) o3).frozen (p := ⟨C, 0, none⟩) hC).trans hf
  have hn0 : C ≠ w.heap.size := by omega
  have hn1 : C ≠ w.heap.size + 1 := by omega
  have hn2 : C ≠ w.heap.size + 2 := by omega
  have hn3 : C ≠ w.heap.size + 1 + 1 := by omega
  by_cases hb : 120 < q + 1
  · clear hbig
    go_enter Tryd.func100, Tryd.ntmps100
    go_wp2
    go_ret
    exact ⟨rfl, set_grown (bal (bal (bal0 _ _) _) _) C _, set_cell _ C _ _ (e1 _ _ _), set_frozen _ C _ (e2 _ _ _)⟩
  · have hd' : 30 < d := by omega
    clear hbig
    go_enter Tryd.func100, Tryd.ntmps100
    go_wp2
    go_ret
    exact ⟨rfl, set_grown (bal (bal (bal0 _ _) _) _) C _, set_cell _ C _ _ (e1 _ _ _), set_frozen _ C _ (e2 _ _ _)⟩
set_option maxRecDepth 100000 in
set_option maxHeartbeats 1000000 in
theorem scan_other (k n : Int) (nm : By) (w : World) (a : Option Addr) (m c C : Nat) (d q : Int) (hC : C < w.heap.size) (hq : w.cell? ⟨C, 0, none⟩ = some (.int .i64 q)) (hf : w.frozen? ⟨C, 0, none⟩ = false) (h0 : 0 ≤ q) (h1 : q ≤ 1000000000) (hd0 : 1 ≤ d) (hd : d ≤ 31) (hs0 : q + 1 ≤ 120) (hs1 : d ≤ 30) (hk1 : k ≠ 1) (hk2 : k ≠ 2) (hk3 : k ≠ 3) :
  Calls Tryd.prog 100 #[.agg #[.int .i64 k, .int .i64 n, .string ⟨nm.toArray⟩, .slice a m c], .int .i64 d, .pointer (some ⟨C, 0, none⟩)] w fun e w' =>
    e = .returned (.bool false) ∧ w.grownBy w' (some C) ∧ w'.cell? ⟨C, 0, none⟩ = some (.int .i64 (q + 1)) ∧ w'.frozen? ⟨C, 0, none⟩ = false := by
  have e1 : ∀ o1 o2 o3, (((w.alloc o1).alloc o2).alloc o3).cell? ⟨C, 0, none⟩ = some (.int .i64 q) := fun o1 o2 o3 => ((bal (bal (bal0 w o1) o2) o3).cell (p := ⟨C, 0, none⟩) hC).trans hq
  have e2 : ∀ o1 o2 o3, (((w.alloc o1).alloc o2).alloc o3).frozen? ⟨C, 0, none⟩ = false := fun o1 o2 o3 => ((bal (bal (bal0 w o1) o2) o3).frozen (p := ⟨C, 0, none⟩) hC).trans hf
  have hn0 : C ≠ w.heap.size := by omega
  have hn1 : C ≠ w.heap.size + 1 := by omega
  have hn2 : C ≠ w.heap.size + 2 := by omega
  have hn3 : C ≠ w.heap.size + 1 + 1 := by omega
  have k1 : (k == 1) = false := by simpa using hk1
  have k2 : (k == 2) = false := by simpa using hk2
  have k3 : (k == 3) = false := by simpa using hk3
  go_enter Tryd.func100, Tryd.ntmps100
  go_wp2
  go_ret
  exact ⟨rfl, set_grown (bal (bal (bal0 _ _) _) _) C _, set_cell _ C _ _ (e1 _ _ _), set_frozen _ C _ (e2 _ _ _)⟩
end Go.Proofs.YtlknhjibadbeeaaDoor
