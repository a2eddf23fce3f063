/- The walk of the law FnExactParseInstr. -/
import Derived.Test.YtlknhjibadbeeaaDoorW46
namespace Go.Proofs.YtlknhjibadbeeaaDoor
open Go.RowKit Go.Deep

attribute [local go_sem] ba_get ba_append

set_option maxRecDepth 100000 in
set_option maxHeartbeats 1000000 in
theorem lawParse_any (text : By) (w : World) (he : Er w) (ht : Tb w) :
    Calls Tryd.prog 5 #[.string ⟨text.toArray⟩] w fun e w' => e = .returned (.bool true) ∧ Below w.heap.size w w' := by
  have HE := Lib.hid he; clear he
  have HT := Lib.hid ht; clear ht
  by_cases hl : text.length ≤ 1048576
  · have hli : (text.length : Int) ≤ 1048576 := by omega
    go_enter Tryd.func5, Tryd.ntmps5
    go_wp2_with fail
    refine (specParse_any text _ hl).mono ?_
    rintro e w1 ⟨⟨o, hR, rfl⟩, hb1⟩
    have HR := Lib.hid hR
    have HB1 := Lib.hid hb1; clear hb1 hR
    cases o with
    | none =>
      rw [show insV none = .agg #[.int .i64 0, .int .i64 0, .int .i64 0, .string ⟨#[]⟩] from rfl]
      go_wp2_with fail
      refine (implParse_any text _ (HE.out.below (bal HB1.out _)) (HT.out.below (bal HB1.out _)) hl).mono ?_
      rintro e w2 ⟨⟨p, hP, rfl⟩, hb2⟩
      obtain rfl := (reads_inj text none p HR.out hP)
      obtain ⟨hc2, hf2⟩ := bcell hb2
      have hz2 := bsz w1.heap.size hb2 (by simp)
      have HB2 := Lib.hid (bnext (bal HB1.out _) hb2)
      clear hP hb2
      rw [show insV none = .agg #[.int .i64 0, .int .i64 0, .int .i64 0, .string ⟨#[]⟩] from rfl]
      go_wp2_with fail
      refine (eqInstr_any 0 0 0 [] _).mono ?_
      rintro e w3 ⟨rfl, hb3⟩
      have HB3 := Lib.hid (bnext (bal HB2.out _) hb3)
      go_wp2_with fail
      go_ret
      exact ⟨rfl, HB3.out⟩
    | some y =>
      rw [show insV (some y) = .agg #[.int .i64 y.op, .int .i64 y.a, .int .i64 y.b, .string ⟨y.name.toArray⟩] from rfl]
      go_wp2_with fail
      refine (implParse_any text _ (HE.out.below (bal HB1.out _)) (HT.out.below (bal HB1.out _)) hl).mono ?_
      rintro e w2 ⟨⟨p, hP, rfl⟩, hb2⟩
      obtain rfl := (reads_inj text (some y) p HR.out hP)
      obtain ⟨hc2, hf2⟩ := bcell hb2
      have hz2 := bsz w1.heap.size hb2 (by simp)
      have HB2 := Lib.hid (bnext (bal HB1.out _) hb2)
      clear hP hb2
      rw [show insV (some y) = .agg #[.int .i64 y.op, .int .i64 y.a, .int .i64 y.b, .string ⟨y.name.toArray⟩] from rfl]
      go_wp2_with fail
      refine (eqInstr_any y.op y.a y.b y.name _).mono ?_
      rintro e w3 ⟨rfl, hb3⟩
      have HB3 := Lib.hid (bnext (bal HB2.out _) hb3)
      go_wp2_with fail
      go_ret
      exact ⟨rfl, HB3.out⟩
  · have hli : ¬ (text.length : Int) ≤ 1048576 := by omega
    go_enter Tryd.func5, Tryd.ntmps5
    go_wp2_with fail
    go_ret
    exact ⟨rfl, Below.refl _ _⟩
end Go.Proofs.YtlknhjibadbeeaaDoor
