/- The walk of the law FnExactFormatCode. -/
import Derived.Test.YtkppmmcmkllklaaDoorW8
namespace Go.Proofs.YtkppmmcmkllklaaDoor
open Go.RowKit

attribute [local go_sem] ba_get ba_append

set_option maxRecDepth 100000 in
set_option maxHeartbeats 1000000 in
theorem lawFormatCode_any (xs : List Ins) (w : World) (ad : Option Addr) (n c : Nat) (ht : Tb w) (h : InsSl w ad n xs) (hn : n ≤ 1048576) (hl : ∀ x ∈ xs, x.name.length ≤ 1048576) :
    Calls Tryd.prog 3 #[.slice ad n c] w fun e w' => e = .returned (.bool true) ∧ Below w.heap.size w w' := by
  have H := Lib.hid h; clear h
  have HL := Lib.hid hl; clear hl
  have HT := Lib.hid ht; clear ht
  go_enter Tryd.func3, Tryd.ntmps3
  go_wp2_with fail
  refine (szInstrS_any xs _ _ _ _ _ H.out hn HL.out (by omega) (by omega)).mono ?_
  rintro e w1 ⟨⟨r, rfl⟩, hb1⟩
  by_cases hr : r < 0
  · go_wp2_with fail
    go_ret
    exact ⟨rfl, hb1⟩
  have H1 := Lib.hid (H.out.below hb1)
  go_wp2_with fail
  refine (toInstrS_any xs _ _ _ _ H1.out hn).mono ?_
  rintro e w2 ⟨⟨b2, rfl, hx2⟩, hb2⟩
  have HX2 := Lib.hid hx2; clear hx2
  have hB2 := bnext hb1 hb2
  go_wp2_with fail
  refine (specFormatCode_any xs _ _ _ _ HX2.out hn HL.out).mono ?_
  rintro e w3 ⟨rfl, hb3⟩
  have hB3 := bnext hB2 hb3
  go_wp2_with fail
  refine (toInstrS_any xs _ _ _ _ (H.out.below hB3) hn).mono ?_
  rintro e w4 ⟨⟨b4, rfl, hx4⟩, hb4⟩
  have HX4 := Lib.hid hx4; clear hx4
  have hB4 := bnext hB3 hb4
  go_wp2_with fail
  refine (implFormatCode_any xs _ _ _ _ (HT.out.below hB4) HX4.out hn HL.out).mono ?_
  rintro e w5 ⟨rfl, hb5⟩
  have hB5 := bnext hB4 hb5
  go_wp2_with fail
  refine (toInstrS_any xs _ _ _ _ (H.out.below hB5) hn).mono ?_
  rintro e w6 ⟨⟨b6, rfl, hx6⟩, hb6⟩
  have HX6 := Lib.hid hx6; clear hx6
  have hB6 := bnext hB5 hb6
  go_wp2_with fail
  refine (eqInstrS_any xs _ _ _ _ _ _ ((HX4.out.below hb5).below hb6) HX6.out hn).mono ?_
  rintro e w7 ⟨rfl, hb7⟩
  go_wp2_with fail
  go_ret
  exact ⟨rfl, bnext hB6 hb7⟩
end Go.Proofs.YtkppmmcmkllklaaDoor
