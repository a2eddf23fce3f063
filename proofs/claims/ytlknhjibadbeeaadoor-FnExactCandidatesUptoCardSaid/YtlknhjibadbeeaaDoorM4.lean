/- Numbers in memory. -/
import Derived.Test.YtlknhjibadbeeaaDoorM3
import Derived.Test.YtlknhjibadbeeaaDoorProg
namespace Go.Proofs.YtlknhjibadbeeaaDoor
open Go.RowKit

/-- a slice that reads as these numbers -/
def IntSl (S : Nat → Prop) (w : World) (xs : List Nat) (a : Option Addr) (n : Nat) : Prop :=
  n = xs.length ∧ (0 < n → ∃ b o, a = some ⟨b, o, none⟩ ∧ b < w.heap.size ∧ S b ∧ ∀ k (h : k < xs.length), w.cell? ⟨b, o + k, none⟩ = some (.int .i64 xs[k]))

theorem IntSl.mono {S S' : Nat → Prop} {w w' : World} {xs : List Nat} {a : Option Addr} {n : Nat} (h : IntSl S w xs a n) (hs : w.heap.size ≤ w'.heap.size) (hS : ∀ b, S b → S' b) (hw : ∀ b, S b → b < w.heap.size → w'.heap[b]? = w.heap[b]?) : IntSl S' w' xs a n := by
  refine ⟨h.1, fun hn => ?_⟩
  obtain ⟨b, o, ha, hlt, hSb, hr⟩ := h.2 hn
  exact ⟨b, o, ha, Nat.lt_of_lt_of_le hlt hs, hS b hSb, fun k hk => (World.cell?_of_block (w := w) (a := ⟨b, _, none⟩) (hw b hSb hlt)).trans (hr k hk)⟩
theorem IntSl.below {S : Nat → Prop} {w w' : World} {xs : List Nat} {a : Option Addr} {n : Nat} (h : IntSl S w xs a n) (hb : Below w.heap.size w w') : IntSl S w' xs a n := h.mono hb.size (fun _ h => h) (fun b _ hlt => hb.block b hlt)

/-- what a slice owns reads as numbers -/
theorem intSl_of_own {S : Nat → Prop} {w : World} {base e n : Nat} {v : Value} {xs : List Nat} (h : w.ownsRow base e 1 v n (xs.map fun x => Value.int .i64 (x : Nat))) (hS : ∀ b, base ≤ b → S b) : ∃ a c, v = .slice a n c ∧ IntSl S w xs a n := by
  have hl : n = xs.length := by have := h.1; simp at this; omega
  rcases h.2 with ⟨rfl, rfl⟩ | ⟨g, cap, cur, rfl, hg, hh, hcap, hmax, hsz, htk⟩
  · exact ⟨none, 0, rfl, hl, fun h => by omega⟩
  · refine ⟨_, _, rfl, hl, fun _ => ⟨g, 0, rfl, ?_, hS g hg, fun k hk => ?_⟩⟩
    · rcases Nat.lt_or_ge g w.heap.size with h1 | h1
      · exact h1
      · simp [Array.getElem?_eq_none h1] at hh
    · rw [Nat.zero_add, h.cellAt k (by omega)]
      simp [List.getElem?_eq_getElem hk]
theorem infoInt : (Tryd.prog.info? 3).map (fun i => (i.zero, i.size, i.bytes)) = some (some (.int .i64 0), 1, 8) := by kernel_rfl
end Go.Proofs.YtlknhjibadbeeaaDoor
