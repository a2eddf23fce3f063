/- Walks over slices of instructions. -/
import Derived.Test.YtlknhjibadbeeaaDoorW6
import Derived.Test.YtlknhjibadbeeaaDoorM1
import Derived.Deep.RegionWith
import Derived.ChangeAlike
namespace Go.Proofs.YtlknhjibadbeeaaDoor
open Go.RowKit

attribute [local go_sem] ba_get ba_append

theorem szInstr_any (op a b' : Int) (l : By) (left : Int) (w : World) (h0 : l.length ≤ 1048576) (h1 : 0 ≤ left) (h2 : left ≤ 1048576) :
    Calls Tryd.prog 27 #[.agg #[.int .i64 op, .int .i64 a, .int .i64 b', .string ⟨l.toArray⟩], .int .i64 left] w fun e w' => e = .returned (.int .i64 (if left - l.length < 0 then -1 else left - l.length)) ∧ Below w.heap.size w w' := by
  by_cases h : left - l.length < 0
  · rw [if_pos h]
    go_enter Tryd.func27, Tryd.ntmps27
    go_wp2
    go_ret
    exact ⟨rfl, bal0 _ _⟩
  · rw [if_neg h]
    go_enter Tryd.func27, Tryd.ntmps27
    go_wp2
    go_ret
    exact ⟨rfl, bal0 _ _⟩
theorem toInstr_any (op a b' : Int) (l : By) (w : World) :
    Calls Tryd.prog 30 #[.agg #[.int .i64 op, .int .i64 a, .int .i64 b', .string ⟨l.toArray⟩]] w fun e w' => e = .returned (.agg #[.int .i64 op, .int .i64 a, .int .i64 b', .string ⟨l.toArray⟩]) ∧ Below w.heap.size w w' := by
  go_enter Tryd.func30, Tryd.ntmps30
  go_wp2
  exact bodyPost_ret (v := .agg #[.int .i64 op, .int .i64 a, .int .i64 b', .string ⟨l.toArray⟩]) (by simp [results, Tryd.results30, go_sem]) rfl ⟨rfl, bal (bal (bal0 _ _) _) _⟩

set_option maxRecDepth 100000 in
set_option maxHeartbeats 400000 in
theorem szInstrS_any (xs : List Ins) (w : World) (ad : Option Addr) (n c : Nat) (left : Int) (h : InsSl w ad n xs) (hn : n ≤ 1048576) (hl : ∀ x ∈ xs, x.name.length ≤ 1048576) (h1 : 0 ≤ left) (h2 : left ≤ 1048576) :
    Calls Tryd.prog 6 #[.slice ad n c, .int .i64 left] w fun e w' => (∃ r : Int, e = .returned (.int .i64 r)) ∧ Below w.heap.size w w' := by
  have H := Lib.hid h; clear h
  have HL := Lib.hid hl; clear hl
  go_enter Tryd.func6, Tryd.ntmps6
  go_wp2
  · go_ret
    exact ⟨⟨_, rfl⟩, Below.refl _ _⟩
  go_loopw [1, 5] (fun i j wr => ∃ k : Nat, k ≤ n ∧ j = .int .i64 k ∧ ∃ l : Int, 0 ≤ l ∧ l ≤ 1048576 ∧ i = .int .i64 l ∧ Below w.heap.size w wr) (fun _ i _ => n - (intOf i).toNat)
  case atStart => exact ⟨0, Nat.zero_le _, rfl, _, by omega, by omega, rfl, Below.refl _ _⟩
  case round =>
    obtain ⟨k, hk, rfl, l, hl1, hl2, rfl, hb⟩ := hrel
    by_cases hlt : k < n
    · have hlx : k < xs.length := by rw [← H.out.1]; exact hlt
      obtain ⟨b, o, rfl, hb0, hr⟩ := H.out.2 (by omega)
      obtain ⟨c0, c1, c2, c3⟩ := (hr.below hb hb0) k hlx
      have HR := Lib.hid hr; clear hr
      have hnm := HL.out _ (List.getElem_mem hlx)
      by_cases hneg : l - (xs[k].name.length : Int) < 0
      · go_wp2_with (go_at_call 27; refine (szInstr_any _ _ _ _ _ _ hnm hl1 hl2).mono ?_; rintro e w1 ⟨rfl, hb1⟩; rw [if_pos hneg])
        go_ret
        exact ⟨⟨_, rfl⟩, bnext hb hb1⟩
      · go_wp2_with (go_at_call 27; refine (szInstr_any _ _ _ _ _ _ hnm hl1 hl2).mono ?_; rintro e w1 ⟨rfl, hb1⟩; rw [if_neg hneg])
        go_roundw
        case rel => exact ⟨k + 1, by omega, by go_num, _, by omega, by omega, rfl, bnext hb hb1⟩
        case measure => simp [intOf]; omega
    · go_wp2
      go_ret
      exact ⟨⟨_, rfl⟩, hb⟩
theorem infoInstr : (Tryd.prog.info? 51).map (fun i => (i.zero, i.size, i.bytes)) = some (some (.agg #[.int .i64 0, .int .i64 0, .int .i64 0, .string ⟨#[]⟩]), 4, 40) := by kernel_rfl
set_option maxRecDepth 100000 in
theorem toInstrS_any (xs : List Ins) (w : World) (ad : Option Addr) (n c : Nat) (h : InsSl w ad n xs) (hn : n ≤ 1048576) :
    Calls Tryd.prog 8 #[.slice ad n c] w fun e w' => (∃ b, e = .returned (.slice (some ⟨b, 0, none⟩) n n) ∧ InsSl w' (some ⟨b, 0, none⟩) n xs) ∧ Below w.heap.size w w' := by
  obtain ⟨i0, hi, hz0, hz1, hz2⟩ := info_parts infoInstr
  have H := Lib.hid h; clear h
  go_enter Tryd.func8, Tryd.ntmps8
  go_wp2_with (refine wpList_make_full _ rfl _ _ 25 rfl w.heap.size 51 i0 _ 4 Tryd.underlying25 hi hz0 hz1 _ _ _ _ n rfl rfl rfl rfl ?c2 ?c3 ?c4 ?_)
  case c2 => rw [hz2]; omega
  case c3 => unfold maxLen; omega
  case c4 => exact Nat.le_refl _
  intro w1 hown hgrow
  have HB1 := Lib.hid (show Below w.heap.size w w1 from (Below.refl _ _).grown hgrow (Nat.le_refl _) (fun k hk => by cases hk))
  have HO1 := Lib.hid hown; clear hown hgrow
  go_wp2_with fail
  go_loopw [4] (fun j wr => ∃ k : Nat, k ≤ n ∧ j = .int .i64 k ∧ Below w.heap.size w wr ∧ Hid (∃ cs, wr.ownsRow w.heap.size 51 4 (.slice (some ⟨w.heap.size, 0, none⟩) n n) n cs ∧ Done cs (insF xs) k)) (fun i _ => n - (intOf i).toNat)
  case atStart => exact ⟨0, Nat.zero_le _, rfl, HB1.out, Lib.hid ⟨_, HO1.out, done_zero _ _⟩⟩
  case round =>
    obtain ⟨k, hk, rfl, hb, HD⟩ := hrel
    by_cases hlt : k < n
    · have hlx : k < xs.length := by rw [← H.out.1]; exact hlt
      obtain ⟨b, o, rfl, hb0, hr⟩ := H.out.2 (by omega)
      obtain ⟨c0, c1, c2, c3⟩ := (hr.below hb hb0) k hlx
      have HR := Lib.hid hr; clear hr
      go_wp2_with fail
      refine (toInstr_any _ _ _ _ _).mono ?_
      rintro e w2 ⟨rfl, hb2⟩
      obtain ⟨cs, hown, hd⟩ := HD.out
      have hown2 := own_next hown hb2
      obtain ⟨u0, hu0⟩ := own_has hown2 (k * 4) (by omega)
      obtain ⟨u1, hu1⟩ := own_has hown2 (k * 4 + 1) (by omega)
      obtain ⟨u2, hu2⟩ := own_has hown2 (k * 4 + 2) (by omega)
      obtain ⟨u3, hu3⟩ := own_has hown2 (k * 4 + 3) (by omega)
      have hf0 := hown2.frozenAt (k * 4)
      have hf1 := hown2.frozenAt (k * 4 + 1)
      have hf2 := hown2.frozenAt (k * 4 + 2)
      have hf3 := hown2.frozenAt (k * 4 + 3)
      have HO2 := Lib.hid hown2
      clear hown hown2
      go_wp2_with fail
      go_roundw
      case rel => exact ⟨k + 1, by omega, by go_num, below_store4 (bnext hb hb2) (Nat.le_refl _) _ _ _ _ _ _ _ _, Lib.hid ⟨_, own_store4 HO2.out k _ _ _ _, done_set HO2.out.1 hlt hd (insF_0 hlx).symm (insF_1 hlx).symm (insF_2 hlx).symm (insF_3 hlx).symm⟩⟩
      case measure => simp [intOf]; omega
    · obtain ⟨cs, hown, hd⟩ := HD.out
      obtain rfl : k = n := by omega
      have HO2 := Lib.hid hown; clear hown
      go_wp2_with fail
      go_ret
      exact ⟨⟨_, rfl, insSl_of_done HO2.out H.out.1 hd⟩, hb⟩

/-- eqInstr at one instruction twice -/
theorem eqInstr_any (op a b' : Int) (l : By) (w : World) :
    Calls Tryd.prog 26 #[.agg #[.int .i64 op, .int .i64 a, .int .i64 b', .string ⟨l.toArray⟩], .agg #[.int .i64 op, .int .i64 a, .int .i64 b', .string ⟨l.toArray⟩]] w fun e w' => e = .returned (.bool true) ∧ Below w.heap.size w w' := by
  go_enter Tryd.func26, Tryd.ntmps26
  go_wp2
  go_ret
  exact ⟨rfl, bal (bal0 _ _) _⟩

set_option maxRecDepth 100000 in
theorem eqInstrS_any (xs : List Ins) (w : World) (ad ad' : Option Addr) (n c c' : Nat) (h : InsSl w ad n xs) (h' : InsSl w ad' n xs) (hn : n ≤ 1048576) :
    Calls Tryd.prog 10 #[.slice ad n c, .slice ad' n c'] w fun e w' => e = .returned (.bool true) ∧ Below w.heap.size w w' := by
  have H := Lib.hid h; clear h
  have H' := Lib.hid h'; clear h'
  go_enter Tryd.func10, Tryd.ntmps10
  go_wp2_with fail
  go_loopw [5] (fun j wr => ∃ k : Nat, k ≤ n ∧ j = .int .i64 k ∧ Below w.heap.size w wr) (fun i _ => n - (intOf i).toNat)
  case atStart => exact ⟨0, Nat.zero_le _, rfl, Below.refl _ _⟩
  case round =>
    obtain ⟨k, hk, rfl, hb⟩ := hrel
    by_cases hlt : k < n
    · have hlx : k < xs.length := by rw [← H.out.1]; exact hlt
      obtain ⟨b, o, rfl, hb0, hr⟩ := H.out.2 (by omega)
      obtain ⟨b2, o2, rfl, hb02, hr2⟩ := H'.out.2 (by omega)
      obtain ⟨c0, c1, c2, c3⟩ := (hr.below hb hb0) k hlx
      obtain ⟨d0, d1, d2, d3⟩ := (hr2.below hb hb02) k hlx
      have HR := Lib.hid hr; clear hr
      have HR2 := Lib.hid hr2; clear hr2
      go_wp2_with fail
      go_region_with (go_at_call 26; refine (eqInstr_any _ _ _ _ _).mono ?_; rintro e w2 ⟨rfl, hb2⟩)
      all_goals go_wp2_with fail
      all_goals
        go_roundw
        case rel => exact ⟨k + 1, by omega, by go_num, by first | exact bnext hb hb2 | exact bnext hb.drew hb2⟩
        case measure => simp [intOf]; omega
    · go_wp2_with fail
      go_ret
      exact ⟨rfl, hb⟩
end Go.Proofs.YtlknhjibadbeeaaDoor
