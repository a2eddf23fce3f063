/- Walks of FormatCode, the program's and the reference's. -/
import Derived.Test.YtlknhjibadbeeaaDoorW7
import Derived.Test.YtlknhjibadbeeaaDoorBd
import Derived.Deep.RegionWith
import Derived.ChangeAlike
namespace Go.Proofs.YtlknhjibadbeeaaDoor
open Go.RowKit

attribute [local go_sem] ba_get ba_append

theorem insText_len (x : Ins) (h : x.name.length ≤ 1048576) : (insText x).length ≤ 2000000 := by
  unfold insText
  cases hk : insOk x
  · simp
  · cases hf : formOf x.op with
    | none => simp
    | some f =>
      obtain ⟨word, fa, fb, fn⟩ := f
      have hw := (formOf_word x.op word fa fb fn hf).1
      obtain ⟨h1, h2, h3, h4, -⟩ := (insOk_iff x.op x.a x.b x.name _ hf).1 hk
      have la := itoa_len x.a (by omega) (by omega)
      have lb := itoa_len x.b (by omega) (by omega)
      cases fa <;> cases fb <;> cases fn <;> simp <;> omega

theorem insText_some (x : Ins) (h : insOk x = true) : (insText x).isEmpty = false := by
  unfold insText
  rw [if_pos h]
  cases hf : formOf x.op with
  | none => unfold insOk at h; rw [hf] at h; cases h
  | some f =>
    obtain ⟨word, fa, fb, fn⟩ := f
    have hw := formOf_ne x.op word fa fb fn hf
    cases word with
    | nil => cases hw
    | cons c r => rfl
theorem insText_nil (x : Ins) (h : insOk x = false) : insText x = [] := by
  unfold insText
  rw [h]; rfl

set_option maxRecDepth 100000 in
set_option maxHeartbeats 1000000 in
theorem specFormatCode_any (xs : List Ins) (w : World) (ad : Option Addr) (n c : Nat) (h : InsSl w ad n xs) (hn : n ≤ 1048576) (hl : ∀ x ∈ xs, x.name.length ≤ 1048576) :
    Calls Tryd.prog 7 #[.slice ad n c] w fun e w' => e = .returned (.string ⟨(codeText xs).toArray⟩) ∧ Below w.heap.size w w' := by
  have H := Lib.hid h; clear h
  have HL := Lib.hid hl; clear hl
  go_enter Tryd.func7, Tryd.ntmps7
  go_wp2_with fail
  go_loopw [3, 4] (fun s j wr => ∃ k : Nat, k ≤ n ∧ k ≤ 2000 ∧ j = .int .i64 k ∧ (∃ out : By, s = .string ⟨out.toArray⟩ ∧ out.length ≤ k * 2000001 ∧ Hid (out = codePre xs k ∧ (xs.take k).all insOk = true)) ∧ Below w.heap.size w wr) (fun _ i _ => n - (intOf i).toNat)
  case atStart => exact ⟨0, Nat.zero_le _, Nat.zero_le _, rfl, ⟨[], rfl, by simp, Lib.hid ⟨by simp [codePre], by simp⟩⟩, Below.refl _ _⟩
  case round =>
    obtain ⟨k, hk, hk2, rfl, ⟨out, rfl, hol, HO⟩, hb⟩ := hrel
    by_cases hlt : k < n
    · have hlx : k < xs.length := by rw [← H.out.1]; exact hlt
      obtain ⟨b, o, rfl, hb0, hr⟩ := H.out.2 (by omega)
      obtain ⟨c0, c1, c2, c3⟩ := (hr.below hb hb0) k hlx
      have HR := Lib.hid hr; clear hr
      by_cases h2000 : k < 2000
      · have hnm := HL.out _ (List.getElem_mem hlx)
        cases hok : insOk xs[k]
        · have HB := Lib.hid (codeText_bad xs k hlx hok)
          have HK := Lib.hid hok; clear hok
          go_wp2_with fail
          refine (l8Instr_any _ _ _ _ _ (by omega)).mono ?_
          rintro e w1 ⟨rfl, hb1⟩
          rw [show insOk ⟨xs[k].op, xs[k].a, xs[k].b, xs[k].name⟩ = false from HK.out]
          go_wp2_with fail
          go_ret
          exact ⟨ret_str HB.out.symm, bnext hb hb1⟩
        · have HT := Lib.hid (all_ok_succ xs k hlx HO.out.2 hok)
          have HC := Lib.hid (codePre_succ xs k hlx)
          have hil := insText_len xs[k] hnm
          have HK := Lib.hid hok; clear hok
          go_wp2_with fail
          refine (l8Instr_any _ _ _ _ _ (by omega)).mono ?_
          rintro e w1 ⟨rfl, hb1⟩
          rw [show insOk ⟨xs[k].op, xs[k].a, xs[k].b, xs[k].name⟩ = true from HK.out]
          have hbw1 := bnext hb hb1
          have hbw1' := Lib.hid hbw1
          obtain ⟨d0, d1, d2, d3⟩ := (HR.out.below hbw1 hb0) k hlx
          clear hbw1
          go_wp2_with fail
          refine (specFormatInstr_any _ _ _ _ _ (by omega)).mono ?_
          rintro e w2 ⟨rfl, hb2⟩
          rw [show insText ⟨xs[k].op, xs[k].a, xs[k].b, xs[k].name⟩ = insText xs[k] from rfl]
          go_wp2_with fail
          go_roundw
          case rel => exact ⟨k + 1, by omega, by omega, by go_num, ⟨_, rfl, by simp; omega, Lib.hid ⟨by rw [HC.out, HO.out.1, List.append_assoc], HT.out⟩⟩, bnext hbw1'.out hb2⟩
          case measure => simp [intOf]; omega
      · have HB := Lib.hid (codeText_long xs (by rw [← H.out.1]; omega))
        go_wp2_with fail
        go_ret
        exact ⟨ret_str HB.out.symm, hb⟩
    · go_wp2_with fail
      go_ret
      obtain rfl : k = n := by omega
      exact ⟨ret_str (by rw [HO.out.1]; have e := H.out.1; have g := HO.out.2; rw [e] at g; rw [codeText_good xs (by omega) g, e]), hb⟩

theorem isBuilder_below {T e : TypeId} {B b : Nat} {bs : List Value} {w w' : World} (h : Lib.IsBuilder T e B b bs w) (hb : Below w.heap.size w w') : Lib.IsBuilder T e B b bs w' := by
  have key : ∀ p, Lib.BuilderAt T e B b p bs w → Lib.BuilderAt T e B b p bs w' := by
    intro p hp
    have hlt := hp.lt
    obtain ⟨hB, v, hh, hown, hne⟩ := hp
    exact ⟨hB, v, by rw [hb.block b hlt]; exact hh, own_next hown hb, hne⟩
  rcases h with h | h
  · exact .inl (key _ h)
  · exact .inr (key _ h)

set_option maxRecDepth 100000 in
set_option maxHeartbeats 1000000 in
theorem implFormatCode_any (xs : List Ins) (w : World) (ad : Option Addr) (n c : Nat) (ht : Tb w) (h : InsSl w ad n xs) (hn : n ≤ 1048576) (hl : ∀ x ∈ xs, x.name.length ≤ 1048576) :
    Calls Tryd.prog 9 #[.slice ad n c] w fun e w' => e = .returned (.string ⟨(codeText xs).toArray⟩) ∧ Below w.heap.size w w' := by
  have H := Lib.hid h; clear h
  have HL := Lib.hid hl; clear hl
  have HT := Lib.hid ht; clear ht
  by_cases hlong : 2000 < n
  · have HB := Lib.hid (codeText_long xs (by rw [← H.out.1]; omega))
    go_enter Tryd.func9, Tryd.ntmps9
    go_wp2_with fail
    go_ret
    exact ⟨ret_str HB.out.symm, Below.refl _ _⟩
  have hd : decide ((2000 : Int) < n) = false := by simp; omega
  go_enter Tryd.func9, Tryd.ntmps9
  go_wp2_with fail
  clear hd
  have HF := Lib.hid (Lib.fresh_isBuilder 64 5 w)
  go_loopw [12] (fun j wr => ∃ k : Nat, k ≤ n ∧ j = .int .i64 k ∧ Below w.heap.size w wr ∧ Hid (Lib.IsBuilder 64 5 w.heap.size w.heap.size (Lib.byteCells (codePre xs k)) wr ∧ (xs.take k).all insOk = true ∧ (codePre xs k).length ≤ k * 2000001)) (fun i _ => n - (intOf i).toNat)
  case atStart => exact ⟨0, Nat.zero_le _, rfl, bal0 _ _, Lib.hid ⟨HF.out, by simp, by simp [codePre]⟩⟩
  case round =>
    obtain ⟨k, hk, rfl, hb, HO⟩ := hrel
    by_cases hlt : k < n
    · have hlx : k < xs.length := by rw [← H.out.1]; exact hlt
      obtain ⟨b, o, rfl, hb0, hr⟩ := H.out.2 (by omega)
      obtain ⟨c0, c1, c2, c3⟩ := (hr.below hb hb0) k hlx
      have HR := Lib.hid hr; clear hr
      have hnm := HL.out _ (List.getElem_mem hlx)
      cases hok : insOk xs[k]
      · have HB := Lib.hid (codeText_bad xs k hlx hok)
        have hnil := insText_nil _ hok
        have HK := Lib.hid hnil; clear hok hnil
        go_wp2_with fail
        refine (formatInstr_any _ _ _ _ _ (HT.out.below (bal hb _)) (by omega)).mono ?_
        rintro e w1 ⟨rfl, hb1⟩
        rw [show insText ⟨xs[k].op, xs[k].a, xs[k].b, xs[k].name⟩ = [] from HK.out]
        go_wp2_with fail
        go_ret
        exact ⟨ret_str HB.out.symm, bnext (bal hb _) hb1⟩
      · have HA := Lib.hid (all_ok_succ xs k hlx HO.out.2.1 hok)
        have HC := Lib.hid (codePre_succ xs k hlx)
        have hil := insText_len xs[k] hnm
        have hne := insText_some _ hok
        clear hok
        go_wp2_with fail
        refine (formatInstr_any _ _ _ _ _ (HT.out.below (bal hb _)) (by omega)).mono ?_
        rintro e w1 ⟨rfl, hb1⟩
        rw [show insText ⟨xs[k].op, xs[k].a, xs[k].b, xs[k].name⟩ = insText xs[k] from rfl]
        have HE := Lib.hid (show Lib.byteCells (codePre xs (k + 1)) = Lib.byteCells (codePre xs k) ++ Lib.strCells ⟨(insText xs[k] ++ [10]).toArray⟩ by rw [HC.out, List.append_assoc, Lib.byteCells_append]; rfl)
        have hB1 := isBuilder_below HO.out.1 (bnext (bal0 wr _) hb1)
        have hsz := (bnext (bal hb _) hb1).size
        have hlen := HO.out.2.2
        have hBB := Lib.hid hB1; clear hB1
        go_wp2_with fail
        refine (writeString_any w.heap.size w.heap.size _ _ _ hBB.out (by rw [Lib.byteCells_length]; simp [ByteArray.size]; omega) hsz).mono ?_
        rintro e w2 ⟨rfl, hB2, hb2⟩
        have HW2 := Lib.hid hB2; clear hB2
        go_wp2_with fail
        go_roundw
        case rel => exact ⟨k + 1, by omega, by go_num, (bnext (bal hb _) hb1).trans hb2, Lib.hid ⟨.inr (by rw [HE.out]; exact HW2.out), HA.out, by rw [HC.out]; simp; omega⟩⟩
        case measure => simp [intOf]; omega
    · obtain rfl : k = n := by omega
      go_wp2_with fail
      refine (Tryd.Builder_String_any w.heap.size w.heap.size _ _ HO.out.1 hb.size).mono ?_
      rintro e w1 ⟨rfl, hb1⟩
      go_wp2_with fail
      go_ret
      exact ⟨ret_str (by have e := H.out.1; have g := HO.out.2.1; rw [e] at g; rw [codeText_good xs (by omega) g, e]), hb.trans hb1⟩
end Go.Proofs.YtlknhjibadbeeaaDoor
