/- slices.IndexFunc and slices.ContainsFunc at each element type that is met, whatever predicate. Printed by wip/gen_idx.py. -/
import Derived.Test.YtcmahpddjggcaaaGreatDoorKVal6
namespace Go.Proofs.YtcmahpddjggcaaaGreatDoor
open Go Go.RowKit
set_option maxHeartbeats 400000
set_option maxRecDepth 100000

/-- Where the first is that is so; -1: nowhere. -/
def idxOf {α : Type} (p : α → Bool) (l : List α) : Int := match l.findIdx? p with | some i => (i : Int) | none => -1
theorem idxOf_hit {α : Type} {p : α → Bool} {l : List α} {k : Nat} {x : α} (h : ∀ j y, j < k → l[j]? = some y → p y = false) (hx : l[k]? = some x) (hp : p x = true) : idxOf p l = k := by
  have : l.findIdx? p = some k := by
    rw [List.findIdx?_eq_some_iff_getElem]
    obtain ⟨hl, he⟩ := List.getElem?_eq_some_iff.1 hx
    exact ⟨hl, by rw [he]; exact hp, fun j hj => by rw [h j _ hj (List.getElem?_eq_getElem (by omega))]; simp⟩
  simp only [idxOf, this]
theorem idxOf_none {α : Type} {p : α → Bool} {l : List α} (h : ∀ j y, j < l.length → l[j]? = some y → p y = false) : idxOf p l = -1 := by
  have : l.findIdx? p = none := by
    rw [List.findIdx?_eq_none_iff]
    intro x hx
    obtain ⟨j, hj, he⟩ := List.getElem_of_mem hx
    exact h j x hj (by rw [List.getElem?_eq_getElem hj, he])
  simp only [idxOf, this]
theorem idxOf_any {α : Type} (p : α → Bool) (l : List α) : decide (0 ≤ idxOf p l) = l.any p := by
  unfold idxOf
  cases h : l.findIdx? p with
  | none =>
    rw [List.findIdx?_eq_none_iff] at h
    have : l.any p = false := by rw [List.any_eq_false]; intro x hx; rw [h x hx]; simp
    rw [this]; rfl
  | some i =>
    rw [List.findIdx?_eq_some_iff_getElem] at h
    obtain ⟨hl, hp, _⟩ := h
    have : l.any p = true := List.any_eq_true.2 ⟨_, List.getElem_mem hl, hp⟩
    rw [this]; simp

theorem indexFunc_val (g : Nat) (cap : Array Value) (eg : ∀ args w, (callFunc g args).run Tryz.prog w = .ok (.enter g args) w) (p : V → Bool) (l : List (V)) (I : Nat → Prop) (A : Option Addr) (c : Nat) (w : World) (h : Row 6 ((V.ty).rep I w) I w A l) (hs : l.length ≤ BIG)
    (hp : ∀ x, x ∈ l → ∀ W cs, Below w.heap.size w W → (V.ty).rep (fun b => I b ∧ b < w.heap.size) W x cs → Calls Tryz.prog g (#[.agg cs.toArray] ++ cap) W fun e w' => e = .returned (.bool (p x)) ∧ Below W.heap.size W w') :
    Calls Tryz.prog 304 #[.slice A l.length c, .func (.func g) #[] cap] w fun e w' => e = .returned (.int .i64 (idxOf p l)) ∧ Below w.heap.size w w' := by
  have hlen : (l.length : Int) ≤ 9223372036854775807 := by rw [BIG_eq] at hs; omega
  have HP := Lib.hid hp
  clear hp
  go_enter Tryz.func304, Tryz.ntmps304
  go_wp2_with fail
  go_loopw [8] (fun i wr => ∃ k : Nat, k ≤ l.length ∧ i = .int .i64 k ∧ Hid (∀ j y, j < k → l[j]? = some y → p y = false) ∧ Below w.heap.size w wr) (fun i _ => l.length - (intOf i).toNat)
  case atStart => exact ⟨0, Nat.zero_le _, rfl, Lib.hid (fun j y hj => by omega), Below.refl _ _⟩
  case round =>
    obtain ⟨k, hk, rfl, HN, hB⟩ := hrel
    by_cases hlt : k < l.length
    · obtain ⟨x, hx, hxm⟩ := get_some hlt
      obtain ⟨b, off, cs, rfl, hIb, hbl, hcs, hat⟩ := h.get hx
      have hcs' := (V.ty).belowB (fun b hb => hb.2) hB ((V.ty).lt hcs)
      obtain ⟨A1, c1, A2, c2, rfl, h1, h2, h3, h4⟩ := V.rep_open hcs
      obtain ⟨g0, g1, g2, g3, g4, g5⟩ := (hat.below hbl hB).six
      have hcall := HP.out x hxm wr _ hB hcs'
      have HX := Lib.hid hx
      have hpx : ∀ q, p x = q → idxOf p l = idxOf p l := fun _ _ => rfl
      generalize hq : p x = q at hcall
      have HQ := Lib.hid hq
      have HC := Lib.hid hcall
      clear hat hx hcs' hq hcall hpx
      cases q with
      | true =>
        go_wp2_with fail
        refine HC.out.mono ?_
        rintro e w1 ⟨rfl, hb1⟩
        go_wp2_with fail
        go_ret
        exact ⟨by rw [idxOf_hit HN.out HX.out HQ.out]; rfl, below_call hB hB.size hb1⟩
      | false =>
        have HN2 := Lib.hid (show ∀ j y, j < k + 1 → l[j]? = some y → p y = false from fun j y hj hy => by
          rcases Nat.lt_or_ge j k with h | h
          · exact HN.out j y h hy
          · obtain rfl : j = k := by omega
            rw [HX.out] at hy; injection hy with hy; rw [← hy]; exact HQ.out)
        go_wp2_with fail
        refine HC.out.mono ?_
        rintro e w1 ⟨rfl, hb1⟩
        go_wp2_with fail
        go_roundw
        case rel => exact ⟨k + 1, by omega, by go_num, HN2, below_call hB hB.size hb1⟩
        case measure => simp [intOf]; omega
    · have hkl : k = l.length := by omega
      have HT := Lib.hid (idxOf_none (p := p) (l := l) (fun j y hj => HN.out j y (by omega)))
      clear hkl
      go_wp2_with fail
      go_ret
      exact ⟨by rw [HT.out]; rfl, hB⟩

theorem containsFunc_val (g : Nat) (cap : Array Value) (eg : ∀ args w, (callFunc g args).run Tryz.prog w = .ok (.enter g args) w) (p : V → Bool) (l : List (V)) (I : Nat → Prop) (A : Option Addr) (c : Nat) (w : World) (h : Row 6 ((V.ty).rep I w) I w A l) (hs : l.length ≤ BIG)
    (hp : ∀ x, x ∈ l → ∀ W cs, Below w.heap.size w W → (V.ty).rep (fun b => I b ∧ b < w.heap.size) W x cs → Calls Tryz.prog g (#[.agg cs.toArray] ++ cap) W fun e w' => e = .returned (.bool (p x)) ∧ Below W.heap.size W w') :
    Calls Tryz.prog 243 #[.slice A l.length c, .func (.func g) #[] cap] w fun e w' => e = .returned (.bool (l.any p)) ∧ Below w.heap.size w w' := by
  have hc := indexFunc_val g cap eg p l I A c w h hs hp
  have hi := idxOf_any p l
  generalize idxOf p l = i at hc hi
  generalize l.any p = r at hi ⊢
  have HC := Lib.hid hc
  have HI := Lib.hid hi
  clear hc hi hp h
  go_enter Tryz.func243, Tryz.ntmps243
  go_wp2_with fail
  refine HC.out.mono ?_
  rintro e w1 ⟨rfl, hb1⟩
  go_wp2_with fail
  go_ret
  exact ⟨by rw [← HI.out]; rfl, hb1⟩

theorem indexFunc_str (g : Nat) (cap : Array Value) (eg : ∀ args w, (callFunc g args).run Tryz.prog w = .ok (.enter g args) w) (p : ByteArray → Bool) (l : List (ByteArray)) (I : Nat → Prop) (A : Option Addr) (c : Nat) (w : World) (h : Row 1 ((Ty.str).rep I w) I w A l) (hs : l.length ≤ BIG)
    (hp : ∀ x, x ∈ l → ∀ W cs, Below w.heap.size w W → (Ty.str).rep (fun b => I b ∧ b < w.heap.size) W x cs → Calls Tryz.prog g (#[cs.headD undef] ++ cap) W fun e w' => e = .returned (.bool (p x)) ∧ Below W.heap.size W w') :
    Calls Tryz.prog 225 #[.slice A l.length c, .func (.func g) #[] cap] w fun e w' => e = .returned (.int .i64 (idxOf p l)) ∧ Below w.heap.size w w' := by
  have hlen : (l.length : Int) ≤ 9223372036854775807 := by rw [BIG_eq] at hs; omega
  have HP := Lib.hid hp
  clear hp
  go_enter Tryz.func225, Tryz.ntmps225
  go_wp2_with fail
  go_loopw [8] (fun i wr => ∃ k : Nat, k ≤ l.length ∧ i = .int .i64 k ∧ Hid (∀ j y, j < k → l[j]? = some y → p y = false) ∧ Below w.heap.size w wr) (fun i _ => l.length - (intOf i).toNat)
  case atStart => exact ⟨0, Nat.zero_le _, rfl, Lib.hid (fun j y hj => by omega), Below.refl _ _⟩
  case round =>
    obtain ⟨k, hk, rfl, HN, hB⟩ := hrel
    by_cases hlt : k < l.length
    · obtain ⟨x, hx, hxm⟩ := get_some hlt
      obtain ⟨b, off, cs, rfl, hIb, hbl, hcs, hat⟩ := h.get hx
      have hcs' := (Ty.str).belowB (fun b hb => hb.2) hB ((Ty.str).lt hcs)
      obtain rfl := hcs
      have g0 := (hat.below hbl hB).one
      simp only [Nat.mul_one] at g0
      have hcall := HP.out x hxm wr _ hB hcs'
      have HX := Lib.hid hx
      have hpx : ∀ q, p x = q → idxOf p l = idxOf p l := fun _ _ => rfl
      generalize hq : p x = q at hcall
      have HQ := Lib.hid hq
      have HC := Lib.hid hcall
      clear hat hx hcs' hq hcall hpx
      cases q with
      | true =>
        go_wp2_with fail
        refine HC.out.mono ?_
        rintro e w1 ⟨rfl, hb1⟩
        go_wp2_with fail
        go_ret
        exact ⟨by rw [idxOf_hit HN.out HX.out HQ.out]; rfl, below_call hB hB.size hb1⟩
      | false =>
        have HN2 := Lib.hid (show ∀ j y, j < k + 1 → l[j]? = some y → p y = false from fun j y hj hy => by
          rcases Nat.lt_or_ge j k with h | h
          · exact HN.out j y h hy
          · obtain rfl : j = k := by omega
            rw [HX.out] at hy; injection hy with hy; rw [← hy]; exact HQ.out)
        go_wp2_with fail
        refine HC.out.mono ?_
        rintro e w1 ⟨rfl, hb1⟩
        go_wp2_with fail
        go_roundw
        case rel => exact ⟨k + 1, by omega, by go_num, HN2, below_call hB hB.size hb1⟩
        case measure => simp [intOf]; omega
    · have hkl : k = l.length := by omega
      have HT := Lib.hid (idxOf_none (p := p) (l := l) (fun j y hj => HN.out j y (by omega)))
      clear hkl
      go_wp2_with fail
      go_ret
      exact ⟨by rw [HT.out]; rfl, hB⟩

theorem containsFunc_str (g : Nat) (cap : Array Value) (eg : ∀ args w, (callFunc g args).run Tryz.prog w = .ok (.enter g args) w) (p : ByteArray → Bool) (l : List (ByteArray)) (I : Nat → Prop) (A : Option Addr) (c : Nat) (w : World) (h : Row 1 ((Ty.str).rep I w) I w A l) (hs : l.length ≤ BIG)
    (hp : ∀ x, x ∈ l → ∀ W cs, Below w.heap.size w W → (Ty.str).rep (fun b => I b ∧ b < w.heap.size) W x cs → Calls Tryz.prog g (#[cs.headD undef] ++ cap) W fun e w' => e = .returned (.bool (p x)) ∧ Below W.heap.size W w') :
    Calls Tryz.prog 138 #[.slice A l.length c, .func (.func g) #[] cap] w fun e w' => e = .returned (.bool (l.any p)) ∧ Below w.heap.size w w' := by
  have hc := indexFunc_str g cap eg p l I A c w h hs hp
  have hi := idxOf_any p l
  generalize idxOf p l = i at hc hi
  generalize l.any p = r at hi ⊢
  have HC := Lib.hid hc
  have HI := Lib.hid hi
  clear hc hi hp h
  go_enter Tryz.func138, Tryz.ntmps138
  go_wp2_with fail
  refine HC.out.mono ?_
  rintro e w1 ⟨rfl, hb1⟩
  go_wp2_with fail
  go_ret
  exact ⟨by rw [← HI.out]; rfl, hb1⟩
end Go.Proofs.YtcmahpddjggcaaaGreatDoor
