/- value.equal: whether values that may be are equal; slices.Equal at texts. -/
import Derived.Test.YtcmahpddjggcaaaGreatDoorKVal8
namespace Go.Proofs.YtcmahpddjggcaaaGreatDoor
open Go Go.RowKit
set_option maxHeartbeats 4000000
set_option maxRecDepth 100000

theorem str_ne {x y : ByteArray} (h : x ≠ y) : (x.toList == y.toList) = false := by
  rw [beq_eq_false_iff_ne, Lib.toList_data, Lib.toList_data]
  exact fun e => h (by cases x; cases y; simpa using e)
theorem drop_ne {α : Type} {a b : List α} {k : Nat} {x y : α} (hx : a[k]? = some x) (hy : b[k]? = some y) (h : x ≠ y) : a ≠ b := by
  rintro rfl
  rw [hx] at hy; injection hy with hy; exact h hy
theorem all_eq {α : Type} {a b : List α} (hl : a.length = b.length) (h : ∀ j x, j < a.length → a[j]? = some x → b[j]? = some x) : a = b := by
  apply List.ext_getElem? 
  intro i
  rcases Nat.lt_or_ge i a.length with hi | hi
  · obtain ⟨x, hx, _⟩ := get_some hi
    rw [hx, h i x hi hx]
  · rw [List.getElem?_eq_none hi, List.getElem?_eq_none (by omega)]
theorem equal_str (a b : List ByteArray) (I J : Nat → Prop) (A A' : Option Addr) (c c' : Nat) (w : World) (h : Row 1 (Ty.str.rep I w) I w A a) (h' : Row 1 (Ty.str.rep J w) J w A' b) (hs : a.length ≤ BIG) (hs' : b.length ≤ BIG) :
    Calls Tryz.prog 239 #[.slice A a.length c, .slice A' b.length c'] w fun e w' => e = .returned (.bool (decide (a = b))) ∧ ∃ n, w' = w.drewN n := by
  have hlen : (a.length : Int) ≤ 9223372036854775807 := by rw [BIG_eq] at hs; omega
  have hlen' : (b.length : Int) ≤ 9223372036854775807 := by rw [BIG_eq] at hs'; omega
  by_cases hl : a.length = b.length
  · have HL := Lib.hid hl
    generalize hr : decide (a = b) = r
    have HR := Lib.hid hr
    clear hr
    have hli : ((a.length : Int) == (b.length : Int)) = true := by rw [hl]; simp
    go_enter Tryz.func239, Tryz.ntmps239
    go_wp2_with fail
    go_loopw [13] (fun i wr => ∃ k : Nat, k ≤ a.length ∧ i = .int .i64 k ∧ Hid (∀ j x, j < k → a[j]? = some x → b[j]? = some x) ∧ ∃ n, wr = w.drewN n) (fun i _ => a.length - (intOf i).toNat)
    case atStart => exact ⟨0, Nat.zero_le _, rfl, Lib.hid (fun j x hj => by omega), 0, rfl⟩
    case round =>
      obtain ⟨k, hk, rfl, HN, n, rfl⟩ := hrel
      by_cases hlt : k < a.length
      · obtain ⟨x, hx, hxm⟩ := get_some hlt
        obtain ⟨y, hy, hym⟩ := get_some (l := b) (k := k) (by omega)
        obtain ⟨bx, offx, cs, rfl, hIx, hbx, hcs, hatx⟩ := h.get hx
        obtain ⟨by_, offy, ds, rfl, hIy, hby, hds, haty⟩ := h'.get hy
        obtain rfl := hcs
        obtain rfl := hds
        have g0 := hatx.one
        have q0 := haty.one
        simp only [Nat.mul_one] at g0 q0
        have HX := Lib.hid hx
        have HY := Lib.hid hy
        clear hatx haty hx hy hl
        have hlt' : k < b.length := by have := HL.out; omega
        by_cases hxy : x = y
        · subst hxy
          have HS := Lib.hid (show ∀ j z, j < k + 1 → a[j]? = some z → b[j]? = some z from fun j z hj hz => by
            rcases Nat.lt_or_ge j k with h | h
            · exact HN.out j z h hz
            · obtain rfl : j = k := by omega
              rw [HX.out] at hz; rw [← hz]; exact HY.out)
          go_wp2_with fail
          go_quiet (fail)
          go_wp2_with fail
          go_roundw
          case rel => exact ⟨k + 1, by omega, by go_num, HS, _, rfl⟩
          case measure => simp [intOf]; omega
        · have HS := Lib.hid (show r = false by rw [← HR.out]; exact decide_eq_false (drop_ne HX.out HY.out hxy))
          have hxy' : (x.toList == y.toList) = false := str_ne hxy
          go_wp2_with fail
          go_quiet (fail)
          go_wp2_with fail
          go_ret
          exact ⟨by rw [HS.out]; rfl, _, World.drewN_drewN ..⟩
      · have HS := Lib.hid (show r = true by rw [← HR.out]; exact decide_eq_true (all_eq HL.out (fun j x hj => HN.out j x (by omega))))
        have hge : ¬ k < b.length := by have := HL.out; omega
        clear hl
        go_wp2_with fail
        go_ret
        exact ⟨by rw [HS.out]; rfl, n, rfl⟩
  · have hli : ((a.length : Int) == (b.length : Int)) = false := by simp; omega
    rw [decide_eq_false (fun e => hl (by rw [e]))]
    go_enter Tryz.func239, Tryz.ntmps239
    go_wp2_with fail
    go_ret
    exact ⟨rfl, 0, rfl⟩
theorem truth_any (b : Bool) (w : World) : Calls Tryz.prog 185 #[.bool b] w fun e w' => e = .returned (.int .i64 (if b then 2 else 0)) ∧ w' = w := by
  cases b
  all_goals
    go_enter Tryz.func185, Tryz.ntmps185
    go_wp2
    go_ret
    simp
mutual
/-- Whether values that may be are equal: 0: no, 1: it isn't known, 2: yes. -/
def V.eq : V → V → Int
  | .mk k b n t ks l, u => if k = 0 ∨ u.kind = 0 then 1 else if k ≠ u.kind then 0 else if k ≠ 4 ∧ k ≠ 5 then (if V.cmp (.mk k b n t ks l) u = 0 then 2 else 0) else if l.length ≠ u.list.length ∨ ks ≠ u.keys then 0 else V.eqs l u.list 2
def V.eqs : List V → List V → Int → Int
  | x :: xs, y :: ys, o => if V.eq x y = 0 then 0 else V.eqs xs ys (if V.eq x y = 1 then 1 else o)
  | [], _, o => o
  | _ :: _, [], o => o
end
theorem V.eq_def (a u : V) : V.eq a u = if a.kind = 0 ∨ u.kind = 0 then 1 else if a.kind ≠ u.kind then 0 else if a.kind ≠ 4 ∧ a.kind ≠ 5 then (if V.cmp a u = 0 then 2 else 0) else if a.list.length ≠ u.list.length ∨ a.keys ≠ u.keys then 0 else V.eqs a.list u.list 2 := by
  cases a; simp only [V.eq]; rfl
theorem V.eqs_step {a b : List V} {k : Nat} {x y : V} (hx : a[k]? = some x) (hy : b[k]? = some y) (o : Int) : V.eqs (a.drop k) (b.drop k) o = if V.eq x y = 0 then 0 else V.eqs (a.drop (k + 1)) (b.drop (k + 1)) (if V.eq x y = 1 then 1 else o) := by
  rw [drop_get hx, drop_get hy, V.eqs]
theorem V.eqs_end {a b : List V} {k : Nat} (h : a.length ≤ k) (o : Int) : V.eqs (a.drop k) (b.drop k) o = o := by
  rw [List.drop_of_length_le h]; cases b.drop k <;> rfl
theorem V.eqs_range : ∀ (a b : List V) (o : Int), 0 ≤ o → o ≤ 2 → 0 ≤ V.eqs a b o ∧ V.eqs a b o ≤ 2
  | x :: xs, y :: ys, o, h, h' => by
    rw [V.eqs]; split
    · omega
    · exact V.eqs_range xs ys _ (by split <;> omega) (by split <;> omega)
  | [], _, o, h, h' => by simp [V.eqs, h, h']
  | _ :: _, [], o, h, h' => by simp [V.eqs, h, h']
end Go.Proofs.YtcmahpddjggcaaaGreatDoor
