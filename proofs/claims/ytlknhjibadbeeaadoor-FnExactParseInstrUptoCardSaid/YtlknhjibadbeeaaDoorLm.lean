/- Small lemmas on lists, bytes and worlds, for the walks (no program in sight). -/
import Derived.Test.YtlknhjibadbeeaaDoorPl1
import Derived.WalkKit
import Derived.Lib.Hide
import Derived.Sort.Grow
import Derived.Deep.Draws
import Derived.WalkSmall
namespace Go.Proofs.YtlknhjibadbeeaaDoor
open Go.RowKit

theorem ret_bool {a b : Bool} (h : a = b) : Ending.returned (.bool a) = .returned (.bool b) := by rw [h]
theorem ret_int {a b : Int} (h : a = b) : Ending.returned (.int .i64 a) = .returned (.int .i64 b) := by rw [h]
theorem ret_str {a b : By} (h : a = b) : Ending.returned (.string ⟨a.toArray⟩) = .returned (.string ⟨b.toArray⟩) := by rw [h]

theorem take_snoc (l : By) (k : Nat) (h : k < l.length) : l.take (k + 1) = l.take k ++ [l[k]] := by
  rw [List.take_succ_eq_append_getElem h]

theorem ba_get (l : By) (k : Nat) (h : k < (⟨l.toArray⟩ : ByteArray).size) : (⟨l.toArray⟩ : ByteArray)[k]'h = l[k]'(by simpa [ByteArray.size] using h) := rfl

theorem ba_append (a b : By) : (⟨a.toArray⟩ : ByteArray) ++ ⟨b.toArray⟩ = ⟨(a ++ b).toArray⟩ := by
  apply ByteArray.ext; simp

theorem lower_iff (c : UInt8) : isLower c = true ↔ (97 : Int) ≤ c.toNat ∧ (c.toNat : Int) ≤ 122 := by
  unfold isLower
  simp [UInt8.le_iff_toNat_le]
  omega

theorem all_take_succ (l : By) (k : Nat) (h : k < l.length) (ha : (l.take k).all isLower = true) (hc : isLower l[k] = true) : (l.take (k + 1)).all isLower = true := by
  rw [take_snoc l k h, List.all_append, ha]; simp [hc]

theorem not_all_of (l : By) (k : Nat) (h : k < l.length) (hc : isLower l[k] = false) : l.all isLower = false := by
  rw [List.all_eq_false]; exact ⟨l[k], List.getElem_mem h, by simp [hc]⟩

theorem isWord_all (l : By) (h : l.all isLower = true) : isWord l = (decide ((1 : Int) ≤ l.length) && decide ((l.length : Int) ≤ 6)) := by
  unfold isWord; rw [h, Bool.eq_iff_iff]; simp; omega

theorem isWord_no (l : By) (k : Nat) (h : k < l.length) (hc : isLower l[k] = false) : isWord l = false := by
  unfold isWord; rw [not_all_of l k h hc]; rfl

theorem run_byte_str {P : Program} (src dst e : TypeId) (hs : P.underlying src = some (.slice e)) (he : P.underlying e = some (.int .u8)) (hd : P.underlying dst = some .string) (w : World) (c : Int) :
    (convert src dst (.slice (some ⟨w.heap.size, 0, none⟩) 1 1)).run P (w.alloc (.cells #[.int .u8 c] e)) = .ok (.string ⟨[UInt8.ofNat c.toNat].toArray⟩) (w.alloc (.cells #[.int .u8 c] e)) := by
  rw [run_convert_bytes_string _ src dst e _ _ _ hs he hd]
  exact run_bytesToString _ ⟨w.heap.size, 0, none⟩ 1 1 [c] (by go_simp)

theorem digs_ge (n : Int) (_h0 : 0 ≤ n) (h : 9 < n) : Lib.decDigits n.toNat = Lib.decDigits (n / 10).toNat ++ [UInt8.ofNat (48 + n % 10).toNat] := by
  have e1 : n.toNat / 10 = (n / 10).toNat := by omega
  have e2 : 48 + n.toNat % 10 = (48 + n % 10).toNat := by omega
  rw [Lib.decDigits, dif_neg (by omega), e1, e2]

theorem decDigits_len (n : Nat) : (Lib.decDigits n).length ≤ n + 1 := by
  induction n using Nat.strongRecOn with
  | _ n ih =>
    by_cases hn : n < 10
    · rw [Lib.decDigits, dif_pos hn]; simp
    · rw [Lib.decDigits, dif_neg hn]
      have := ih (n / 10) (by omega)
      simp
      omega

theorem digs_lt (n : Int) (h0 : 0 ≤ n) (h : ¬ 9 < n) : Lib.decDigits n.toNat = [UInt8.ofNat (48 + n).toNat] := by
  have e2 : 48 + n.toNat = (48 + n).toNat := by omega
  rw [Lib.decDigits, dif_pos (by omega), e2]

/-- whether a list of texts has one -/
def hasB (ss : List By) (l : By) : Bool := ss.contains l
theorem hasB_take (ss : List By) (l : By) (k : Nat) (h : k < ss.length) (ha : hasB (ss.take k) l = false) (hc : (ss[k] == l) = false) : hasB (ss.take (k + 1)) l = false := by
  unfold hasB at *
  rw [List.take_succ_eq_append_getElem h, List.contains_append, ha]
  simp at *
  exact fun e => hc e.symm
theorem hasB_of (ss : List By) (l : By) (k : Nat) (h : k < ss.length) (hc : (ss[k] == l) = true) : hasB ss l = true := by
  unfold hasB
  simp at *
  rw [← hc]; exact List.getElem_mem h
theorem hasB_all (ss : List By) (l : By) (k : Nat) (hk : ss.length ≤ k) (ha : hasB (ss.take k) l = false) : hasB ss l = false := by
  rw [List.take_of_length_le hk] at ha; exact ha

theorem Below.of_grow {w : World} {k : Nat} {os : Array Obj} {B : Nat} (hB : B ≤ w.heap.size) : Below B w (Sort.grow (w.drewN k) os) := by
  refine ⟨rfl, rfl, rfl, by simp [Sort.grow], fun j hj => ?_⟩
  show (w.heap ++ os)[j]? = _
  rw [Array.getElem?_append_left (by omega)]

theorem bnext {w wa wb : World} (h : Below w.heap.size w wa) (h2 : Below wa.heap.size wa wb) : Below w.heap.size w wb := h.trans (h2.mono h.size)
theorem bal {w wa : World} (h : Below w.heap.size w wa) (o : Obj) : Below w.heap.size w (wa.alloc o) := h.alloc h.size o
theorem bal0 (w : World) (o : Obj) : Below w.heap.size w (w.alloc o) := (Below.refl _ _).alloc (Nat.le_refl _) o
theorem bsz {wa wb : World} (k : Nat) (h2 : Below wa.heap.size wa wb) (h : k < wa.heap.size) : k < wb.heap.size := Nat.lt_of_lt_of_le h h2.size
theorem bcell {W w1 : World} (hb : Below W.heap.size W w1) : (∀ b o, b < W.heap.size → w1.cell? ⟨b, o, none⟩ = W.cell? ⟨b, o, none⟩) ∧ (∀ b o, b < W.heap.size → w1.frozen? ⟨b, o, none⟩ = W.frozen? ⟨b, o, none⟩) :=
  ⟨fun b o h => hb.cell (p := ⟨b, o, none⟩) h, fun b o h => hb.frozen (p := ⟨b, o, none⟩) h⟩

end Go.Proofs.YtlknhjibadbeeaaDoor
