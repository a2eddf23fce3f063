/- Walk of the closure that takes words, in impl.ParseInstr. -/
import Derived.Test.YtlknhjibadbeeaaDoorW40
namespace Go.Proofs.YtlknhjibadbeeaaDoor
open Go.RowKit Go.Deep

attribute [local go_sem] ba_get ba_append

set_option maxRecDepth 100000 in
theorem enter_take : ∀ args w, (callFunc 54 args).run Tryd.prog w = .ok (.enter 54 args) w := by
  intro args w
  simp [callFunc]
  rfl

set_option maxRecDepth 100000 in
theorem take_no (w : World) (R : Nat) (v : Value) (hc : w.cell? ⟨R, 0, none⟩ = some v) :
    Calls Tryd.prog 54 #[.bool false, .pointer (some ⟨R, 0, none⟩)] w fun e w' => e = .returned (.string ⟨#[48]⟩) ∧ w' = w := by
  have _ := hc
  go_enter Tryd.func54, Tryd.ntmps54
  go_wp2_with fail
  go_ret
  exact ⟨rfl, rfl⟩

set_option maxRecDepth 100000 in
theorem take_nil (w : World) (R : Nat) (a : Option Addr) (c : Nat) (hc : w.cell? ⟨R, 0, none⟩ = some (.slice a 0 c)) :
    Calls Tryd.prog 54 #[.bool true, .pointer (some ⟨R, 0, none⟩)] w fun e w' => e = .returned (.string ⟨#[48]⟩) ∧ w' = w := by
  go_enter Tryd.func54, Tryd.ntmps54
  go_wp2_with fail
  go_ret
  exact ⟨rfl, rfl⟩

set_option maxRecDepth 100000 in
theorem take_one (w : World) (R b o n c : Nat) (s : By) (hc : w.cell? ⟨R, 0, none⟩ = some (.slice (some ⟨b, o, none⟩) (n + 1) c)) (hf : w.frozen? ⟨R, 0, none⟩ = false) (hs : w.cell? ⟨b, o, none⟩ = some (.string ⟨s.toArray⟩)) (hn : n + 1 ≤ c) :
    Calls Tryd.prog 54 #[.bool true, .pointer (some ⟨R, 0, none⟩)] w fun e w' => e = .returned (.string ⟨s.toArray⟩) ∧ ∃ o', (0 < n → o' = o + 1) ∧ w' = w.setCell ⟨R, 0, none⟩ (.slice (some ⟨b, o', none⟩) n (c - 1)) := by
  have hz : ((n + 1 : Nat) : Int) ≠ 0 := by omega
  go_enter Tryd.func54, Tryd.ntmps54
  go_wp2_with fail
  · go_ret
    exact ⟨rfl, o, by omega, by first | rfl | rw [h]⟩
  · go_ret
    exact ⟨rfl, o + 1, fun _ => rfl, rfl⟩

/-- what is taken: a word, and what is left -/
def takeP (has : Bool) (ws : List By) : By × List By := match has, ws with
  | true, s :: r => (s, r)
  | _, ws => ([48], ws)

/-- the box of the words that are left -/
def RestOk (lim : Nat) (w : World) (R : Nat) (ws : List By) : Prop := w.frozen? ⟨R, 0, none⟩ = false ∧ (R < w.heap.size ∧ lim ≤ R) ∧ ∃ b o n c, w.cell? ⟨R, 0, none⟩ = some (.slice (some ⟨b, o, none⟩) n c) ∧ n = ws.length ∧ n ≤ c ∧ c ≤ 1000000000 ∧ b < lim ∧ b < w.heap.size ∧ ∀ k (h : k < ws.length), w.cell? ⟨b, o + k, none⟩ = some (.string ⟨ws[k].toArray⟩)
theorem RestOk.below {lim : Nat} {w w' : World} {R : Nat} {ws : List By} (h : RestOk lim w R ws) (hb : Below w.heap.size w w') : RestOk lim w' R ws := by
  obtain ⟨hf, ⟨hR, hR2⟩, b, o, n, c, hc, hn, h1, h2, h3, h4, h5⟩ := h
  exact ⟨(hb.frozen (p := ⟨R, 0, none⟩) hR).trans hf, ⟨Nat.lt_of_lt_of_le hR hb.size, hR2⟩, b, o, n, c, (hb.cell (p := ⟨R, 0, none⟩) hR).trans hc, hn, h1, h2, h3, Nat.lt_of_lt_of_le h4 hb.size, fun k hk => (hb.cell (p := ⟨b, o + k, none⟩) h4).trans (h5 k hk)⟩
theorem RestOk.set {lim : Nat} {w : World} {R : Nat} {ws : List By} (h : RestOk lim w R ws) (p : Addr) (v : Value) (hp : p.block ≠ R) (hp2 : lim ≤ p.block) : RestOk lim (w.setCell p v) R ws := by
  obtain ⟨hf, ⟨hR, hR2⟩, b, o, n, c, hc, hn, h1, h2, h3, h4, h5⟩ := h
  have hsz : (w.setCell p v).heap.size = w.heap.size := by simp [World.setCell]
  exact ⟨by rw [World.frozen?_setCell]; exact hf, ⟨by omega, hR2⟩, b, o, n, c, by rw [World.cell?_setCell_other _ _ _ _ (fun e => hp (congrArg Addr.block e))]; exact hc, hn, h1, h2, h3, by omega, fun k hk => by rw [World.cell?_setCell_other _ _ _ _ (fun e => by have : p.block = b := congrArg Addr.block e; omega)]; exact h5 k hk⟩

theorem take_any (lim : Nat) (has : Bool) (w : World) (R : Nat) (ws : List By) (h : RestOk lim w R ws) :
    Calls Tryd.prog 54 #[.bool has, .pointer (some ⟨R, 0, none⟩)] w fun e w' => e = .returned (.string ⟨(takeP has ws).1.toArray⟩) ∧ RestOk lim w' R (takeP has ws).2 ∧ w.grownBy w' (some R) := by
  have h0 := h
  obtain ⟨hf, ⟨hR, hR2⟩, b, o, n, c, hc, hn, h1, h2, h3, h4, h5⟩ := h
  cases has with
  | false =>
    refine (take_no w R _ hc).mono ?_
    rintro e w' ⟨rfl, rfl⟩
    exact ⟨rfl, h0, World.grownBy.refl _ _⟩
  | true =>
    cases ws with
    | nil =>
      obtain rfl : n = 0 := hn
      refine (take_nil w R _ c hc).mono ?_
      rintro e w' ⟨rfl, rfl⟩
      exact ⟨rfl, h0, World.grownBy.refl _ _⟩
    | cons s r =>
      obtain ⟨m, rfl⟩ : ∃ m, n = m + 1 := ⟨n - 1, by simp at hn; omega⟩
      have hm : m = r.length := Nat.succ.inj hn
      refine (take_one w R b o m c s hc hf (h5 0 (by simp)) h1).mono ?_
      rintro e w' ⟨rfl, o', ho, rfl⟩
      refine ⟨rfl, ⟨by rw [World.frozen?_setCell]; exact hf, ⟨by simpa [World.setCell] using hR, hR2⟩, b, o', m, c - 1, World.cell?_setCell_same' w ⟨R, 0, none⟩ _ (by rw [hc]; rfl), hm, by omega, by omega, h3, by simpa [World.setCell] using h4, fun k hk => ?_⟩, ?_⟩
      · have hk' : k < r.length := hk
        rw [World.cell?_setCell_other _ _ _ _ (fun e => by have : R = b := congrArg Addr.block e; omega), ho (by omega)]
        have := h5 (k + 1) (by simp; omega)
        rw [show o + (k + 1) = o + 1 + k by omega] at this
        exact this
      · have hB : Below R w (w.setCell ⟨R, 0, none⟩ (.slice (some ⟨b, o', none⟩) m (c - 1))) := (Below.refl R w).setCell (p := ⟨R, 0, none⟩) (Nat.le_refl _) _
        exact ⟨hB.os, hB.tape, hB.output, hB.size, fun q _ hne => Below.heap_setCell _ _ _ _ (fun e => hne (congrArg some e))⟩

theorem atoi_zero : Lib.atoiAll [48] = .ok 0 := by decide

/-- what the program takes is the instruction, where there is one -/
theorem take_law (y : Ins) (f : Frm) (t : List By) (hf : formOf y.op = some f) (hy : insOk y = true) (ht : wordsOf f y.a y.b y.name = f.word :: t) (v1 v2 : Int)
    (h1 : ∀ a, Lib.atoiAll (takeP f.a t).1 = .ok a → v1 = a) (h2 : ∀ a, Lib.atoiAll (takeP f.b (takeP f.a t).2).1 = .ok a → v2 = a) :
    v1 = y.a ∧ v2 = y.b ∧ (if f.n then (takeP true (takeP f.b (takeP f.a t).2).2).1 else []) = y.name := by
  obtain ⟨op, a, b, l⟩ := y
  have hc := (insOk_iff op a b l f hf).1 hy
  obtain ⟨a1, a2, b1, b2, ca, cb, cn⟩ := hc
  unfold wordsOf at ht
  simp only [List.cons.injEq, true_and] at ht
  subst ht
  cases f with
  | mk wd fa fb fn =>
    simp only at ca cb cn h1 h2 ⊢
    have ia := atoi_itoa a a1 a2
    have ib := atoi_itoa b (by omega) b2
    cases fa <;> cases fb <;> cases fn <;> simp [takeP, atoi_zero, ia, ib] at h1 h2 ca cb cn ⊢ <;> simp_all

theorem spl_len : ∀ (l : By), ∀ s ∈ spl l, s.length ≤ l.length
  | [], s, h => by simp [spl] at h; subst h; simp
  | c :: r, s, h => by
    rw [spl_cons] at h
    have ih := spl_len r
    split at h
    · rcases List.mem_cons.1 h with rfl | h
      · simp
      · have := ih s h; simp; omega
    · cases hr : spl r with
      | nil => rw [hr] at h; simp at h; subst h; simp
      | cons x t =>
        rw [hr] at h ih
        rcases List.mem_cons.1 h with rfl | h
        · have := ih x (by simp); simp; omega
        · have := ih s (by simp [h]); simp; omega
theorem takeP_len (has : Bool) (ws : List By) (M : Nat) (hM : 1 ≤ M) (h : ∀ s ∈ ws, s.length ≤ M) : (takeP has ws).1.length ≤ M ∧ ∀ s ∈ (takeP has ws).2, s.length ≤ M := by
  cases has with
  | false => exact ⟨hM, h⟩
  | true =>
    cases ws with
    | nil => exact ⟨hM, h⟩
    | cons s r => exact ⟨h s (by simp), fun x hx => h x (by simp [takeP] at hx; simp [hx])⟩
end Go.Proofs.YtlknhjibadbeeaaDoor
