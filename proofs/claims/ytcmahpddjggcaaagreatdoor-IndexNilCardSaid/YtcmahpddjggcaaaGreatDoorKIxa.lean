/- index: put$1; slices.Contains, slices.Index at texts. -/
import Derived.Test.YtcmahpddjggcaaaGreatDoorKClos
import Derived.Test.YtcmahpddjggcaaaGreatDoorKIdx2
namespace Go.Proofs.YtcmahpddjggcaaaGreatDoor
open Go Go.RowKit
set_option maxHeartbeats 4000000
set_option maxRecDepth 100000
theorem put1_any (p : PropD) (key : ByteArray) (I : Nat → Prop) (w : World) (cs : List Value) (n q : Nat) (h : PropD.ty.rep I w p cs) (hn : w.cell? ⟨n, 0, none⟩ = some (.pointer (some ⟨q, 0, none⟩))) (hq : w.cell? ⟨q, 1, none⟩ = some (.string key)) :
    Calls Tryz.prog 188 #[.agg cs.toArray, .pointer (some ⟨n, 0, none⟩)] w fun e w' => e = .returned (.bool (decide (p.key = key))) ∧ Below w.heap.size w w' := by
  obtain ⟨A1, c1, A2, c2, rfl, _⟩ := PropD.rep_open h
  have hn1 : n < w.heap.size := World.block_lt_of_cell? w _ hn
  have hq1 : q < w.heap.size := World.block_lt_of_cell? w _ hq
  have hB0 := below_alloc' (Below.refl w.heap.size w) (Nat.le_refl _) (.cells #[.string p.key, .int .i64 p.val.kind, .bool p.val.bool, .int .i64 p.val.int, .string p.val.text, .slice A1 p.val.keys.length c1, .slice A2 p.val.list.length c2] 124)
  have hn2 := (hB0.cell (p := ⟨n, 0, none⟩) hn1).trans hn
  have hq2 := (hB0.cell (p := ⟨q, 1, none⟩) hq1).trans hq
  clear h
  by_cases hk : p.key = key
  · rw [decide_eq_true hk]
    generalize p.key = pk at *
    subst hk
    go_enter Tryz.func188, Tryz.ntmps188
    go_wp2_with fail
    go_quiet (fail)
    go_wp2_with fail
    go_ret
    exact ⟨by simp, below_drewN hB0 _⟩
  · rw [decide_eq_false hk]
    have hk' := str_ne hk
    go_enter Tryz.func188, Tryz.ntmps188
    go_wp2_with fail
    go_quiet (fail)
    go_wp2_with fail
    go_ret
    exact ⟨by simp , below_drewN hB0 _⟩
theorem index_str (l : List ByteArray) (x : ByteArray) (I : Nat → Prop) (A : Option Addr) (c : Nat) (w : World) (h : Row 1 (Ty.str.rep I w) I w A l) (hs : l.length ≤ BIG) :
    Calls Tryz.prog 257 #[.slice A l.length c, .string x] w fun e w' => e = .returned (.int .i64 (idxOf (fun s => decide (s = x)) l)) ∧ w' = w := by
  have hlen : (l.length : Int) ≤ 9223372036854775807 := by rw [BIG_eq] at hs; omega
  go_enter Tryz.func257, Tryz.ntmps257
  go_wp2_with fail
  go_loopw [8] (fun i wr => ∃ k : Nat, k ≤ l.length ∧ i = .int .i64 k ∧ Hid (∀ j y, j < k → l[j]? = some y → decide (y = x) = false) ∧ wr = w) (fun i _ => l.length - (intOf i).toNat)
  case atStart => exact ⟨0, Nat.zero_le _, rfl, Lib.hid (fun j y hj => by omega), rfl⟩
  case round =>
    obtain ⟨k, hk, rfl, HN, rfl⟩ := hrel
    by_cases hlt : k < l.length
    · obtain ⟨y, hy, hym⟩ := get_some hlt
      obtain ⟨b, off, cs, rfl, hIb, hbl, hcs, hat⟩ := h.get hy
      obtain rfl := hcs
      have g0 := hat.one
      simp only [Nat.mul_one] at g0
      have HY := Lib.hid hy
      clear hat hy
      by_cases hxy : y = x
      · have HT := Lib.hid (idxOf_hit (p := fun s => decide (s = x)) HN.out HY.out (by simp [hxy]))
        subst hxy
        go_wp2_with fail
        go_ret
        exact ⟨by rw [HT.out]; rfl, rfl⟩
      · have hxy' := str_ne (fun e => hxy (Eq.symm e) : x ≠ y)
        have HS := Lib.hid (show ∀ j z, j < k + 1 → l[j]? = some z → decide (z = x) = false from fun j z hj hz => by
          rcases Nat.lt_or_ge j k with h | h
          · exact HN.out j z h hz
          · obtain rfl : j = k := by omega
            rw [HY.out] at hz; injection hz with hz; rw [← hz]; exact decide_eq_false hxy)
        go_wp2_with fail
        go_roundw
        case rel => exact ⟨k + 1, by omega, by go_num, HS, trivial⟩
        case measure => simp [intOf]; omega
    · have HT := Lib.hid (idxOf_none (p := fun s => decide (s = x)) (l := l) (fun j y hj => HN.out j y (by omega)))
      go_wp2_with fail
      go_ret
      exact ⟨by rw [HT.out]; rfl, rfl⟩
theorem contains_str (l : List ByteArray) (x : ByteArray) (I : Nat → Prop) (A : Option Addr) (c : Nat) (w : World) (h : Row 1 (Ty.str.rep I w) I w A l) (hs : l.length ≤ BIG) :
    Calls Tryz.prog 189 #[.slice A l.length c, .string x] w fun e w' => e = .returned (.bool (l.any fun s => decide (s = x))) ∧ w' = w := by
  have HC := Lib.hid (index_str l x I A c w h hs)
  have HI := Lib.hid (idxOf_any (fun s => decide (s = x)) l)
  generalize idxOf (fun s => decide (s = x)) l = i at *
  generalize (l.any fun s => decide (s = x)) = r at *
  clear h
  go_enter Tryz.func189, Tryz.ntmps189
  go_wp2_with fail
  refine HC.out.mono ?_
  rintro e w1 ⟨rfl, rfl⟩
  go_wp2_with fail
  go_ret
  exact ⟨by rw [← HI.out]; rfl, rfl⟩
end Go.Proofs.YtcmahpddjggcaaaGreatDoor
