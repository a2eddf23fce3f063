/- Walks of the reference's l18Cut, l1Sign, l18Num and l8Int. -/
import Derived.Test.YtlknhjibadbeeaaDoorW40
import Derived.Lib.AppendIntMem
import Derived.Deep.AppendLies
import Derived.BigQuiet
import Derived.Deep.QuietTactic
namespace Go.Proofs.YtlknhjibadbeeaaDoor
open Go.RowKit Go.Deep

attribute [local go_sem] ba_get ba_append

theorem infoStr : (Tryd.prog.info? 9).map (fun i => (i.zero, i.size, i.bytes)) = some (some (.string ⟨#[]⟩), 1, 16) := by kernel_rfl

theorem news_oneS (w : World) (v : Value) (t : TypeId) (B : Nat) (hB : w.heap.size = B) : ∀ j u, [v][j]? = some u → (w.alloc (.cells #[v] t)).cell? ((⟨B, 0, none⟩ : Addr).add j) = some u := by
  subst hB
  exact World.news_of_block (cs := #[v]) (t := t) (fr := (0, 0)) (by show (w.heap.push _)[w.heap.size]? = _; simp)

theorem ba_extract (l : By) (a b : Nat) : (⟨l.toArray⟩ : ByteArray).extract a b = ⟨((l.drop a).take (b - a)).toArray⟩ := by
  apply ByteArray.ext
  simp [ByteArray.data_extract, List.extract_toArray, List.extract_eq_take_drop]

theorem own_ltS {w2 : World} {B g e z n cap : Nat} {cs : List Value} (h : w2.ownsRow B e z (.slice (some ⟨g, 0, none⟩) n cap) n cs) : g < w2.heap.size := by
  rcases h.2 with ⟨h', _⟩ | ⟨g', cap', cur, h', hb, hg, _⟩
  · simp at h'
  · simp only [Value.slice.injEq, Option.some.injEq, Addr.mk.injEq, and_true, true_and] at h'
    obtain ⟨rfl, rfl⟩ := h'
    rcases Nat.lt_or_ge g w2.heap.size with h1 | h1
    · exact h1
    · simp [Array.getElem?_eq_none h1] at hg

/-- where the cutting stands -/
structure CutAt (text : By) (done : List By) (fr i : Nat) : Prop where
  spl : spl text = done ++ spl (text.drop fr)
  no : (32 : UInt8) ∉ (text.drop fr).take (i - fr)
  le : fr ≤ i
  le2 : i ≤ text.length

theorem cut_start (text : By) : CutAt text [] 0 0 := ⟨by simp, by simp, Nat.le_refl _, Nat.zero_le _⟩
theorem cut_word (text : By) (done : List By) (fr i : Nat) (h : CutAt text done fr i) (hi : i < text.length) (hc : text[i] = 32) : CutAt text (done ++ [(text.drop fr).take (i - fr)]) (i + 1) (i + 1) := by
  have hd : text.drop fr = (text.drop fr).take (i - fr) ++ 32 :: text.drop (i + 1) := by
    have h1 : (text.drop fr).drop (i - fr) = text.drop i := by rw [List.drop_drop]; congr 1; have := h.le; omega
    have h2 : text.drop i = 32 :: text.drop (i + 1) := by rw [List.drop_eq_getElem_cons hi, hc]
    rw [← h2, ← h1, List.take_append_drop]
  refine ⟨?_, by simp, Nat.le_refl _, hi⟩
  rw [h.spl]
  conv => lhs; rw [hd]
  rw [spl_word _ _ h.no]
  simp
theorem cut_no (text : By) (done : List By) (fr i : Nat) (h : CutAt text done fr i) (hi : i < text.length) (hc : text[i] ≠ 32) : CutAt text done fr (i + 1) := by
  refine ⟨h.spl, ?_, by have := h.le; omega, hi⟩
  have hlt : i - fr < (text.drop fr).length := by have := h.le; simp; omega
  rw [show i + 1 - fr = (i - fr) + 1 by have := h.le; omega, List.take_succ_eq_append_getElem hlt]
  simp only [List.mem_append, List.mem_singleton, not_or]
  refine ⟨h.no, fun e => hc ?_⟩
  rw [List.getElem_drop] at e
  have : fr + (i - fr) = i := by have := h.le; omega
  simp only [this] at e
  exact e.symm
theorem cut_end (text : By) (done : List By) (fr : Nat) (h : CutAt text done fr text.length) : spl text = done ++ [(text.drop fr).take (text.length - fr)] := by
  have hn := h.no
  have e : (text.drop fr).take (text.length - fr) = text.drop fr := List.take_of_length_le (by simp)
  rw [e] at hn ⊢
  rw [h.spl, spl_last _ hn]

set_option maxRecDepth 100000 in
set_option maxHeartbeats 1000000 in
theorem l18Cut_any (text : By) (w : World) (hl : text.length ≤ 1048576) :
    Calls Tryd.prog 48 #[.string ⟨text.toArray⟩, .int .u8 32] w fun e w' => (∃ a n c, e = .returned (.slice a n c) ∧ StrSl w' (spl text) a n) ∧ Below w.heap.size w w' := by
  obtain ⟨i0, hi, hz0, hz1, hz2⟩ := info_parts infoStr
  go_enter Tryd.func48, Tryd.ntmps48
  go_wp2_with fail
  go_loopw [5, 6, 7] (fun v s6 j wr => ∃ (i fr : Nat) (done : List By), i ≤ text.length + 1 ∧ j = .int .i64 i ∧ s6 = .int .i64 fr ∧ done.length ≤ i ∧ fr ≤ i ∧ Below w.heap.size w wr ∧ Hid (if i ≤ text.length then CutAt text done fr i else spl text = done) ∧ Hid (wr.ownsRow w.heap.size 9 1 v done.length (done.map fun x => Value.string ⟨x.toArray⟩))) (fun _ _ i _ => text.length + 1 - (intOf i).toNat)
  case atStart =>
    refine ⟨0, 0, [], Nat.zero_le _, rfl, rfl, by simp, by omega, bal0 _ _, Lib.hid (by rw [if_pos (Nat.zero_le _)]; exact cut_start text), Lib.hid ?_⟩
    exact World.ownsRow_made w #[] 0 (Nat.le_refl _) (by unfold maxLen; omega) rfl
  case round =>
    obtain ⟨i, fr, done, hi', rfl, rfl, hdl, hfi, hb, HC, HO⟩ := hrel
    by_cases hle : i ≤ text.length
    · have hcut : CutAt text done fr i := by have := HC.out; rwa [if_pos hle] at this
      have HCut := Lib.hid hcut; clear hcut
      have hx := ba_extract text fr i
      obtain ⟨u, hu⟩ : ∃ u, u = (text.drop fr).take (i - fr) := ⟨_, rfl⟩
      rw [← hu] at hx
      have HU := Lib.hid hu; clear hu
      by_cases hlt : i < text.length
      · have tl : ((i : Int) == (text.length : Int)) = false := by simp; omega
        by_cases hc : text[i] = 32
        · have HCC := Lib.hid (show (if i + 1 ≤ text.length then CutAt text (done ++ [u]) (i + 1) (i + 1) else spl text = done ++ [u]) by rw [if_pos (by omega), HU.out]; exact cut_word text done fr i HCut.out hlt hc)
          have hcb : ((text[i].toNat : Int) == 32) = true := by rw [hc]; rfl
          go_wp2_with (at_builtin; refine wpList_append_lies _ rfl _ _ 85 rfl w.heap.size 9 i0 _ 1 16 Tryd.underlying85 hi hz0 hz1 hz2 rfl (by decide) _ _ _ rfl (show World.ownsRow _ w.heap.size 9 1 u5 _ _ from Lib.ownsRow_grow (k := 0) HO.out #[_]) _ _ _ [.string ⟨u.toArray⟩] rfl rfl (news_oneS wr _ _ _ rfl) (by simp [Value.oneCell']) (by decide) (by unfold maxLen; omega) (by omega) (by have := hb.size; first | omega | (simp; omega)) (wr.heap.size + 1) (by first | rfl | simp) ?_)
          intro g cap w2 hown hgrow hat hlt2
          have hb2 : Below w.heap.size w w2 := by
            refine ((bal hb (.cells #[.string ⟨u.toArray⟩] 9)).grown hgrow ?_ ?_)
            · have := hb.size; simp; omega
            · exact fun k e => (HO.out.lt k e).1
          go_wp2_with fail
          go_roundw
          case rel => exact ⟨i + 1, i + 1, done ++ [u], by omega, by go_num, by go_num, by simp; omega, by omega, hb2, Lib.hid HCC.out, Lib.hid (by simpa using hown)⟩
          case measure => simp [intOf]; omega
        · have HCC := Lib.hid (show (if i + 1 ≤ text.length then CutAt text done fr (i + 1) else spl text = done) by rw [if_pos (by omega)]; exact cut_no text done fr i HCut.out hlt hc)
          have hcb : ((text[i].toNat : Int) == 32) = false := by
            have : text[i].toNat ≠ 32 := fun e => hc (UInt8.toNat_inj.1 e)
            exact beq_eq_false_iff_ne.2 (by omega)
          go_wp2_with fail
          go_roundw
          case rel => exact ⟨i + 1, fr, done, by omega, by go_num, rfl, by omega, by omega, hb, Lib.hid HCC.out, HO⟩
          case measure => simp [intOf]; omega
      · obtain rfl : i = text.length := by omega
        have HCC := Lib.hid (show (if text.length + 1 ≤ text.length then CutAt text (done ++ [u]) (text.length + 1) (text.length + 1) else spl text = done ++ [u]) by rw [if_neg (by omega), HU.out]; exact cut_end text done fr HCut.out)
        go_wp2_with (at_builtin; refine wpList_append_lies _ rfl _ _ 85 rfl w.heap.size 9 i0 _ 1 16 Tryd.underlying85 hi hz0 hz1 hz2 rfl (by decide) _ _ _ rfl (show World.ownsRow _ w.heap.size 9 1 u5 _ _ from Lib.ownsRow_grow (k := 0) HO.out #[_]) _ _ _ [.string ⟨u.toArray⟩] rfl rfl (news_oneS wr _ _ _ rfl) (by simp [Value.oneCell']) (by decide) (by unfold maxLen; omega) (by omega) (by have := hb.size; first | omega | (simp; omega)) (wr.heap.size + 1) (by first | rfl | simp) ?_)
        intro g cap w2 hown hgrow hat hlt2
        have hb2 : Below w.heap.size w w2 := by
          refine ((bal hb (.cells #[.string ⟨u.toArray⟩] 9)).grown hgrow ?_ ?_)
          · have := hb.size; simp; omega
          · exact fun k e => (HO.out.lt k e).1
        go_wp2_with fail
        go_roundw
        case rel => exact ⟨text.length + 1, text.length + 1, done ++ [u], by omega, by go_num, by go_num, by simp; omega, by omega, hb2, Lib.hid HCC.out, Lib.hid (by simpa using hown)⟩
        case measure => simp [intOf]
    · have HE := Lib.hid (show spl text = done by have := HC.out; rwa [if_neg hle] at this)
      have hO := HO.out
      rcases hO.2 with ⟨rfl, h0⟩ | ⟨g, cap, cur, rfl, hg, hh, hcap, hmax, hsz, htk⟩
      · go_wp2_with fail
        go_ret
        exact ⟨⟨_, _, _, rfl, by rw [HE.out]; exact ⟨h0.symm, fun h => absurd h (by omega)⟩⟩, hb⟩
      · go_wp2_with fail
        go_ret
        refine ⟨⟨_, _, _, rfl, by rw [HE.out], fun _ => ⟨g, 0, rfl, own_ltS hO, fun k hk => ?_⟩⟩, hb⟩
        rw [HE.out] at hk
        rw [Nat.zero_add, hO.cellAt k (by omega)]
        simp [List.getElem?_eq_getElem hk, HE.out]

/-- the digits read, from a number on -/
def dval : Int → By → Option Int
  | acc, [] => some acc
  | acc, c :: r => if 48 ≤ c.toNat ∧ c.toNat ≤ 57 then dval (acc * 10 + ((c.toNat : Int) - 48)) r else none
/-- what l18Num answers -/
def n17 (s : By) : Int :=
  let neg := s.head? == some 45
  let t := if neg then s.tail else s
  if t = [] ∨ 17 < t.length ∨ (t.head? = some 48 ∧ (1 < t.length ∨ neg = true)) then 0
  else match dval 0 t with | none => 0 | some n => if neg then -n else n
/-- what l8Int answers -/
def num8 (s : By) : Int := if s.head? = some 45 then -(n17 s.tail) else n17 s

theorem num8_three : ∀ n : Fin 1000, n17 (three n) = n ∧ (three n).head? ≠ some 45 ∧ (1 ≤ n.val → num8 (45 :: three n) = -(n.val : Int)) := by decide +kernel
theorem num8_itoa (a : Int) (h0 : -999 ≤ a) (h1 : a ≤ 999) : num8 (Lib.itoa a) = a := by
  by_cases hn : a < 0
  · obtain ⟨u, hu, hu1, hu2⟩ : ∃ u : Nat, a = -(u : Int) ∧ 1 ≤ u ∧ u < 1000 := ⟨a.natAbs, by omega, by omega, by omega⟩
    subst hu
    have e : Lib.itoa (-(u : Int)) = 45 :: Lib.decDigits u := by unfold Lib.itoa; rw [if_pos (by omega)]; simp
    rw [e, decDigits_three u hu2]
    exact (num8_three ⟨u, hu2⟩).2.2 hu1
  · obtain ⟨u, hu, hu2⟩ : ∃ u : Nat, a = (u : Int) ∧ u < 1000 := ⟨a.toNat, by omega, by omega⟩
    subst hu
    have e : Lib.itoa (u : Int) = Lib.decDigits u := by unfold Lib.itoa; rw [if_neg (by omega)]; simp
    rw [e, decDigits_three u hu2]
    unfold num8
    rw [if_neg (num8_three ⟨u, hu2⟩).2.1]
    exact (num8_three ⟨u, hu2⟩).1
end Go.Proofs.YtlknhjibadbeeaaDoor
