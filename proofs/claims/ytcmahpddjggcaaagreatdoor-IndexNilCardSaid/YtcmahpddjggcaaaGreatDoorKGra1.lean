/- words.Name; value.Storable; graph: rises. -/
import Derived.Test.YtcmahpddjggcaaaGreatDoorKVal11
namespace Go.Proofs.YtcmahpddjggcaaaGreatDoor
open Go Go.RowKit
set_option maxHeartbeats 4000000
set_option maxRecDepth 100000

def wName (s : ByteArray) : Bool := !s.toList.isEmpty && decide ((s.size : Int) ≤ 64) && Lib.validD s.data.toList && decide (Lib.indexByte s.data.toList 0 < 0)
theorem name_any (s : ByteArray) (w : World) (hT : Tabs w) : Calls Tryz.prog 96 #[.string s] w fun e w' => e = .returned (.bool (wName s)) ∧ Below w.heap.size w w' := by
  have HE := Lib.hid (show wName s = (!s.toList.isEmpty && decide ((s.size : Int) ≤ 64) && Lib.validD s.data.toList && decide (Lib.indexByte s.data.toList 0 < 0)) from rfl)
  have HV := Lib.hid (fun W (hW : Tabs W) (h : s.size ≤ BIG) => valid_any s W h hW)
  have HI := Lib.hid (indexByte_any s 0)
  have e0 : (0 : Int).toNat.toUInt8 = 0 := by decide
  rw [e0] at HI
  clear e0
  generalize wName s = r at *
  cases h1 : s.toList.isEmpty with
  | true =>
    have HT := Lib.hid (show r = false by rw [HE.out, h1]; rfl)
    have h1' : s.toList = [] := List.isEmpty_iff.1 h1
    clear HE
    go_enter Tryz.func96, Tryz.ntmps96
    go_wp2_with fail
    go_ret
    exact ⟨by rw [HT.out]; rfl, Below.refl _ _⟩
  | false =>
    have h1' : ¬ s.toList = [] := by rw [← List.isEmpty_iff]; simp [h1]
    by_cases h2 : (s.size : Int) ≤ 64
    case neg =>
      have HT := Lib.hid (show r = false by rw [HE.out, h1, decide_eq_false h2]; rfl)
      clear HE
      go_enter Tryz.func96, Tryz.ntmps96
      go_wp2_with fail
      go_ret
      exact ⟨by rw [HT.out]; rfl, Below.refl _ _⟩
    have HV2 := Lib.hid (HV.out w hT (by rw [BIG_eq]; omega))
    generalize Lib.validD s.data.toList = vd at *
    generalize Lib.indexByte s.data.toList 0 = ib at *
    cases vd with
    | false =>
      have HT := Lib.hid (show r = false by rw [HE.out, h1, decide_eq_true h2]; rfl)
      clear HE
      go_enter Tryz.func96, Tryz.ntmps96
      go_wp2_with fail
      refine HV2.out.mono ?_
      rintro e w1 ⟨rfl, hb1⟩
      go_wp2_with fail
      go_ret
      exact ⟨by rw [HT.out]; rfl, hb1⟩
    | true =>
      have HT := Lib.hid (show r = decide (ib < 0) by rw [HE.out, h1, decide_eq_true h2]; rfl)
      clear HE
      go_enter Tryz.func96, Tryz.ntmps96
      go_wp2_with fail
      refine HV2.out.mono ?_
      rintro e w1 ⟨rfl, hb1⟩
      go_wp2_with fail
      refine (HI.out _).mono ?_
      rintro e w2 ⟨rfl, rfl⟩
      go_wp2_with fail
      go_ret
      exact ⟨by rw [HT.out]; rfl, hb1⟩
end Go.Proofs.YtcmahpddjggcaaaGreatDoor
