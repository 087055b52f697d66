/- graph: rises, keys, props, node, rel. -/
import Derived.Test.YtcmahpddjggcaaaGreatDoorKGra2
import Derived.Test.YtcmahpddjggcaaaGreatDoorKOpen
import Derived.IntWalk
namespace Go.Proofs.YtcmahpddjggcaaaGreatDoor
open Go Go.RowKit
set_option maxHeartbeats 4000000
set_option maxRecDepth 100000

def rise1 (ks : List ByteArray) (i : Nat) : Bool := i == 0 || Op.bytesLess (kAt ks (i - 1)).toList (kAt ks i).toList
def rises (ks : List ByteArray) : Bool := (List.range ks.length).all (rise1 ks)
theorem rises_true {ks : List ByteArray} {k : Nat} (h : ∀ j, j < k → rise1 ks j = true) (hk : ks.length ≤ k) : rises ks = true := by
  simp only [rises, List.all_eq_true, List.mem_range]
  intro j hj
  exact h j (by omega)
theorem rises_false {ks : List ByteArray} {k : Nat} (h : rise1 ks k = false) (hk : k < ks.length) : rises ks = false := by
  rw [Bool.eq_false_iff]
  intro ha
  simp only [rises, List.all_eq_true, List.mem_range] at ha
  rw [ha k hk] at h
  cases h
theorem rises_str (ks : List ByteArray) (I : Nat → Prop) (A : Option Addr) (c : Nat) (w : World) (h : Row 1 (Ty.str.rep I w) I w A ks) (hs : ks.length ≤ BIG) :
    Calls Tryz.prog 296 #[.slice A ks.length c] w fun e w' => e = .returned (.bool (rises ks)) ∧ ∃ n, w' = w.drewN n := by
  have hlen : (ks.length : Int) ≤ 9223372036854775806 := by rw [BIG_eq] at hs; omega
  have hK1 : ∀ j, j < ks.length → ∃ b off, A = some ⟨b, off, none⟩ ∧ b < w.heap.size ∧ w.cell? ⟨b, off + j, none⟩ = some (.string (kAt ks j)) := fun j hj => row_str h hj
  have HK1 := Lib.hid hK1
  obtain ⟨r, HR⟩ : ∃ q, Hid (rises ks = q) := ⟨_, Lib.hid rfl⟩
  rw [HR.out]
  clear hK1 h
  go_enter Tryz.func296, Tryz.ntmps296
  go_wp2_with fail
  go_loopw [3] (fun i wr => ∃ m : Nat, (m + 1 ≤ ks.length ∨ m = 0) ∧ i = .int .i64 ((m : Int) + 1) ∧ Hid (∀ j, j < m + 1 → rise1 ks j = true) ∧ ∃ n, wr = w.drewN n) (fun i _ => ks.length - (intOf i).toNat)
  case atStart => exact ⟨0, .inr rfl, rfl, Lib.hid (fun j hj => by obtain rfl : j = 0 := by omega
                                                                   rfl), 0, rfl⟩
  case round =>
    obtain ⟨m, hm, rfl, HP, n, rfl⟩ := hrel
    by_cases hlt : m + 1 < ks.length
    · obtain ⟨b, off, rfl, hbl, hc1⟩ := HK1.out m (by omega)
      obtain ⟨b', off', hA', hbl', hc2⟩ := HK1.out (m + 1) hlt
      simp only [Option.some.injEq, Addr.mk.injEq, and_true] at hA'
      obtain ⟨rfl, rfl⟩ := hA'
      have hlt' : m < ks.length := by omega
      have hw := Lib.hid (show IntKind.i64.wrap ((m : Int) + 1 - 1) = (m : Int) by rw [show (m : Int) + 1 - 1 = (m : Int) by omega]; exact IntWalk.i64_in _ (by omega))
      have HKJ := Lib.hid (show rise1 ks (m + 1) = Op.bytesLess (kAt ks m).toList (kAt ks (m + 1)).toList from rfl)
      generalize hlts : Op.bytesLess (kAt ks m).toList (kAt ks (m + 1)).toList = lt at HKJ
      cases lt with
      | true =>
        have hP' := Lib.hid (show ∀ i, i < m + 1 + 1 → rise1 ks i = true from fun i hi => by
          rcases Nat.lt_or_ge i (m + 1) with h | h
          · exact HP.out i h
          · obtain rfl : i = m + 1 := by omega
            rw [HKJ.out])
        have hw' := hw.out
        go_wp2_with fail
        go_quiet (fail)
        go_wp2_with fail
        go_roundw
        case rel => exact ⟨m + 1, .inl (by omega), by go_num, hP', _, rfl⟩
        case measure => simp [intOf]; omega
      | false =>
        have hF := Lib.hid (rises_false HKJ.out hlt)
        have hw' := hw.out
        go_wp2_with fail
        go_quiet (fail)
        go_wp2_with fail
        go_ret
        exact ⟨by rw [← HR.out, hF.out]; rfl, _, World.drewN_drewN ..⟩
    · have HT := Lib.hid (rises_true HP.out (by omega))
      go_wp2_with fail
      go_ret
      exact ⟨by rw [← HR.out, HT.out]; rfl, _, rfl⟩
theorem keys_any (l : List PropD) (I : Nat → Prop) (A : Option Addr) (c : Nat) (w : World) (h : Row 7 (PropD.ty.rep I w) I w A l) (hs : l.length ≤ BIG) :
    Calls Tryz.prog 340 #[.slice A l.length c] w (RetS Ty.str (Fresh w) w (l.map PropD.key)) := by
  have hlen : (l.length : Int) ≤ 9223372036854775807 := by rw [BIG_eq] at hs; omega
  go_enter Tryz.func340, Tryz.ntmps340
  go_wp2_with fail
  go_loopw [3, 8] (fun v i wr => ∃ k : Nat, k ≤ l.length ∧ i = .int .i64 k ∧ Own Ty.str 9 w.heap.size (Fresh w) wr v ((l.take k).map PropD.key) ∧ Below w.heap.size w wr) (fun _ i _ => l.length - (intOf i).toNat)
  case atStart => exact ⟨0, Nat.zero_le _, rfl, Own.nil _ _ _ _ _, Below.refl _ _⟩
  case round =>
    obtain ⟨k, hk, rfl, hO, hB⟩ := hrel
    by_cases hlt : k < l.length
    · obtain ⟨x, hx, hxm⟩ := get_some hlt
      obtain ⟨b, off, cs, rfl, hIb, hbl, hcs, hat⟩ := h.get hx
      obtain ⟨A1, c1, A2, c2, rfl, _⟩ := PropD.rep_open hcs
      obtain ⟨g0, g1, g2, g3, g4, g5, g6⟩ := (hat.below hbl hB).seven
      have hB1 := below_alloc' hB (Nat.le_refl _) (.cells #[.string x.key, .int .i64 x.val.kind, .bool x.val.bool, .int .i64 x.val.int, .string x.val.text, .slice A1 x.val.keys.length c1, .slice A2 x.val.list.length c2] 124)
      obtain ⟨tk, HTK⟩ : ∃ q, Hid ((l.take k).map PropD.key = q) := ⟨_, Lib.hid rfl⟩
      have hlk : ((l.take k).map PropD.key).length ≤ BIG := by rw [List.length_map, List.length_take]; omega
      rw [HTK.out] at hO hlk
      have hO1 := hO.below (w' := wr.alloc (.cells #[.string x.key, .int .i64 x.val.kind, .bool x.val.bool, .int .i64 x.val.int, .string x.val.text, .slice A1 x.val.keys.length c1, .slice A2 x.val.list.length c2] 124)) (below_alloc' (Below.refl _ _) (Nat.le_refl _) _)
      have hT := Lib.hid (show (l.take (k + 1)).map PropD.key = tk ++ [x.key] by rw [take_snoc' hx, List.map_append, HTK.out]; rfl)
      clear hat hcs hx hO hB
      go_wp2_with (at_builtin; refine own_append Ty.str (w0 := w) w.heap.size rfl (.tmp 12) (.tmp 15) 23 9 _ 16 rfl Tryz.underlying23 info_str rfl (by decide) (by decide) _ tk x.key [.string x.key] (Fresh w) rfl (by simp; rfl) rfl hO1 hB1 (Nat.le_refl _) hlk ?_)
      intro v2 w2 hO2 hB2 _ _
      go_wp2_with fail
      go_roundw
      case rel => exact ⟨k + 1, by omega, by go_num, by rw [hT.out]; exact hO2, hB2⟩
      case measure => simp [intOf]; omega
    · have hkl : k = l.length := by omega
      have hT := Lib.hid (show (l.take k).map PropD.key = l.map PropD.key by rw [hkl, List.take_length])
      clear hkl
      go_wp2_with fail
      go_ret
      rw [hT.out] at hO
      exact ⟨_, rfl, (Ty.slice Ty.str).mono (fun b hb => by rcases hb with hb | hb <;> exact hb) hO.slice, hB⟩
end Go.Proofs.YtcmahpddjggcaaaGreatDoor
