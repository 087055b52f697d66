/- slices.IndexFunc, slices.ContainsFunc at properties and changes. Printed by wip/gen_idx.py. -/
import Derived.Test.YtcmahpddjggcaaaGreatDoorKIdx
import Derived.Test.YtcmahpddjggcaaaGreatDoorKOpen
namespace Go.Proofs.YtcmahpddjggcaaaGreatDoor
open Go Go.RowKit
set_option maxHeartbeats 1000000
set_option maxRecDepth 100000

theorem indexFunc_prop (g : Nat) (cap : Array Value) (eg : ∀ args w, (callFunc g args).run Tryz.prog w = .ok (.enter g args) w) (p : PropD → Bool) (l : List (PropD)) (I : Nat → Prop) (A : Option Addr) (c : Nat) (w : World) (h : Row 7 ((PropD.ty).rep I w) I w A l) (hs : l.length ≤ BIG)
    (hp : ∀ x, x ∈ l → ∀ W cs, Below w.heap.size w W → (PropD.ty).rep (fun b => I b ∧ b < w.heap.size) W x cs → Calls Tryz.prog g (#[.agg cs.toArray] ++ cap) W fun e w' => e = .returned (.bool (p x)) ∧ Below W.heap.size W w') :
    Calls Tryz.prog 187 #[.slice A l.length c, .func (.func g) #[] cap] w fun e w' => e = .returned (.int .i64 (idxOf p l)) ∧ Below w.heap.size w w' := by
  have hlen : (l.length : Int) ≤ 9223372036854775807 := by rw [BIG_eq] at hs; omega
  have HP := Lib.hid hp
  clear hp
  go_enter Tryz.func187, Tryz.ntmps187
  go_wp2_with fail
  go_loopw [8] (fun i wr => ∃ k : Nat, k ≤ l.length ∧ i = .int .i64 k ∧ Hid (∀ j y, j < k → l[j]? = some y → p y = false) ∧ Below w.heap.size w wr) (fun i _ => l.length - (intOf i).toNat)
  case atStart => exact ⟨0, Nat.zero_le _, rfl, Lib.hid (fun j y hj => by omega), Below.refl _ _⟩
  case round =>
    obtain ⟨k, hk, rfl, HN, hB⟩ := hrel
    by_cases hlt : k < l.length
    · obtain ⟨x, hx, hxm⟩ := get_some hlt
      obtain ⟨b, off, cs, rfl, hIb, hbl, hcs, hat⟩ := h.get hx
      have hcs' := (PropD.ty).belowB (fun b hb => hb.2) hB ((PropD.ty).lt hcs)
      obtain ⟨A1, c1, A2, c2, rfl, h4⟩ := PropD.rep_open hcs
      obtain ⟨g0, g1, g2, g3, g4, g5, g6⟩ := (hat.below hbl hB).seven
      have hcall := HP.out x hxm wr _ hB hcs'
      have HX := Lib.hid hx
      have hpx : ∀ q, p x = q → idxOf p l = idxOf p l := fun _ _ => rfl
      generalize hq : p x = q at hcall
      have HQ := Lib.hid hq
      have HC := Lib.hid hcall
      clear hat hx hcs' hq hcall hpx
      cases q with
      | true =>
        go_wp2_with fail
        refine HC.out.mono ?_
        rintro e w1 ⟨rfl, hb1⟩
        go_wp2_with fail
        go_ret
        exact ⟨by rw [idxOf_hit HN.out HX.out HQ.out]; rfl, below_call hB hB.size hb1⟩
      | false =>
        have HN2 := Lib.hid (show ∀ j y, j < k + 1 → l[j]? = some y → p y = false from fun j y hj hy => by
          rcases Nat.lt_or_ge j k with h | h
          · exact HN.out j y h hy
          · obtain rfl : j = k := by omega
            rw [HX.out] at hy; injection hy with hy; rw [← hy]; exact HQ.out)
        go_wp2_with fail
        refine HC.out.mono ?_
        rintro e w1 ⟨rfl, hb1⟩
        go_wp2_with fail
        go_roundw
        case rel => exact ⟨k + 1, by omega, by go_num, HN2, below_call hB hB.size hb1⟩
        case measure => simp [intOf]; omega
    · have hkl : k = l.length := by omega
      have HT := Lib.hid (idxOf_none (p := p) (l := l) (fun j y hj => HN.out j y (by omega)))
      clear hkl
      go_wp2_with fail
      go_ret
      exact ⟨by rw [HT.out]; rfl, hB⟩


theorem indexFunc_chg (g : Nat) (cap : Array Value) (eg : ∀ args w, (callFunc g args).run Tryz.prog w = .ok (.enter g args) w) (p : ChangeD → Bool) (l : List (ChangeD)) (I : Nat → Prop) (A : Option Addr) (c : Nat) (w : World) (h : Row 11 ((ChangeD.ty).rep I w) I w A l) (hs : l.length ≤ BIG)
    (hp : ∀ x, x ∈ l → ∀ W cs, Below w.heap.size w W → (ChangeD.ty).rep (fun b => I b ∧ b < w.heap.size) W x cs → Calls Tryz.prog g (#[.agg cs.toArray] ++ cap) W fun e w' => e = .returned (.bool (p x)) ∧ Below W.heap.size W w') :
    Calls Tryz.prog 186 #[.slice A l.length c, .func (.func g) #[] cap] w fun e w' => e = .returned (.int .i64 (idxOf p l)) ∧ Below w.heap.size w w' := by
  have hlen : (l.length : Int) ≤ 9223372036854775807 := by rw [BIG_eq] at hs; omega
  have HP := Lib.hid hp
  clear hp
  go_enter Tryz.func186, Tryz.ntmps186
  go_wp2_with fail
  go_loopw [8] (fun i wr => ∃ k : Nat, k ≤ l.length ∧ i = .int .i64 k ∧ Hid (∀ j y, j < k → l[j]? = some y → p y = false) ∧ Below w.heap.size w wr) (fun i _ => l.length - (intOf i).toNat)
  case atStart => exact ⟨0, Nat.zero_le _, rfl, Lib.hid (fun j y hj => by omega), Below.refl _ _⟩
  case round =>
    obtain ⟨k, hk, rfl, HN, hB⟩ := hrel
    by_cases hlt : k < l.length
    · obtain ⟨x, hx, hxm⟩ := get_some hlt
      obtain ⟨b, off, cs, rfl, hIb, hbl, hcs, hat⟩ := h.get hx
      have hcs' := (ChangeD.ty).belowB (fun b hb => hb.2) hB ((ChangeD.ty).lt hcs)
      obtain ⟨A1, c1, A2, c2, A3, c3, rfl, h4, h5⟩ := ChangeD.rep_cells hcs
      obtain ⟨g0, g1, g2, g3, g4, g5, g6, g7, g8, g9, g10⟩ := (hat.below hbl hB).eleven
      have hcall := HP.out x hxm wr _ hB hcs'
      have HX := Lib.hid hx
      have hpx : ∀ q, p x = q → idxOf p l = idxOf p l := fun _ _ => rfl
      generalize hq : p x = q at hcall
      have HQ := Lib.hid hq
      have HC := Lib.hid hcall
      clear hat hx hcs' hq hcall hpx
      cases q with
      | true =>
        go_wp2_with fail
        refine HC.out.mono ?_
        rintro e w1 ⟨rfl, hb1⟩
        go_wp2_with fail
        go_ret
        exact ⟨by rw [idxOf_hit HN.out HX.out HQ.out]; rfl, below_call hB hB.size hb1⟩
      | false =>
        have HN2 := Lib.hid (show ∀ j y, j < k + 1 → l[j]? = some y → p y = false from fun j y hj hy => by
          rcases Nat.lt_or_ge j k with h | h
          · exact HN.out j y h hy
          · obtain rfl : j = k := by omega
            rw [HX.out] at hy; injection hy with hy; rw [← hy]; exact HQ.out)
        go_wp2_with fail
        refine HC.out.mono ?_
        rintro e w1 ⟨rfl, hb1⟩
        go_wp2_with fail
        go_roundw
        case rel => exact ⟨k + 1, by omega, by go_num, HN2, below_call hB hB.size hb1⟩
        case measure => simp [intOf]; omega
    · have hkl : k = l.length := by omega
      have HT := Lib.hid (idxOf_none (p := p) (l := l) (fun j y hj => HN.out j y (by omega)))
      clear hkl
      go_wp2_with fail
      go_ret
      exact ⟨by rw [HT.out]; rfl, hB⟩

theorem containsFunc_chg (g : Nat) (cap : Array Value) (eg : ∀ args w, (callFunc g args).run Tryz.prog w = .ok (.enter g args) w) (p : ChangeD → Bool) (l : List (ChangeD)) (I : Nat → Prop) (A : Option Addr) (c : Nat) (w : World) (h : Row 11 ((ChangeD.ty).rep I w) I w A l) (hs : l.length ≤ BIG)
    (hp : ∀ x, x ∈ l → ∀ W cs, Below w.heap.size w W → (ChangeD.ty).rep (fun b => I b ∧ b < w.heap.size) W x cs → Calls Tryz.prog g (#[.agg cs.toArray] ++ cap) W fun e w' => e = .returned (.bool (p x)) ∧ Below W.heap.size W w') :
    Calls Tryz.prog 87 #[.slice A l.length c, .func (.func g) #[] cap] w fun e w' => e = .returned (.bool (l.any p)) ∧ Below w.heap.size w w' := by
  have hc := indexFunc_chg g cap eg p l I A c w h hs hp
  have hi := idxOf_any p l
  generalize idxOf p l = i at hc hi
  generalize l.any p = r at hi ⊢
  have HC := Lib.hid hc
  have HI := Lib.hid hi
  clear hc hi hp h
  go_enter Tryz.func87, Tryz.ntmps87
  go_wp2_with fail
  refine HC.out.mono ?_
  rintro e w1 ⟨rfl, hb1⟩
  go_wp2_with fail
  go_ret
  exact ⟨by rw [← HI.out]; rfl, hb1⟩
end Go.Proofs.YtcmahpddjggcaaaGreatDoor
