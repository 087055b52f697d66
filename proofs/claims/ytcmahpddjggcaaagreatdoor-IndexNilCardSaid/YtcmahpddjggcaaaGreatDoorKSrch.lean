/- index.search: the first place of a sorted list from which on all is so. -/
import Derived.Test.YtcmahpddjggcaaaGreatDoorKEnt
namespace Go.Proofs.YtcmahpddjggcaaaGreatDoor
open Go Go.RowKit
set_option maxHeartbeats 4000000
set_option maxRecDepth 100000
def srchGo {α : Type} (p : α → Bool) (l : List α) : Nat → Nat → Nat → Nat
  | 0, low, _ => low
  | f + 1, low, size => if size = 0 then low else match l[low + size / 2]? with
    | some x => if p x then srchGo p l f low (size / 2) else srchGo p l f (low + (size / 2 + 1)) (size - (size / 2 + 1))
    | none => low
/-- The place that index.search tells. -/
def srch {α : Type} (p : α → Bool) (l : List α) : Nat := srchGo p l l.length 0 l.length
theorem srchGo_le {α : Type} (p : α → Bool) (l : List α) : ∀ f low size, low + size ≤ l.length → srchGo p l f low size ≤ l.length := by
  intro f
  induction f with
  | zero => intro low size h; simp only [srchGo]; omega
  | succ f ih =>
    intro low size h
    simp only [srchGo]
    split
    · omega
    · split
      · split
        · exact ih _ _ (by omega)
        · exact ih _ _ (by omega)
      · omega
theorem srch_le {α : Type} (p : α → Bool) (l : List α) : srch p l ≤ l.length := srchGo_le p l _ _ _ (by omega)
theorem search_ent (g : Nat) (cap : Array Value) (eg : ∀ args w, (callFunc g args).run Tryz.prog w = .ok (.enter g args) w) (p : EntD → Bool) (l : List EntD) (I : Nat → Prop) (A : Option Addr) (c : Nat) (w : World) (h : Row 7 (EntD.ty.rep I w) I w A l) (hs : l.length ≤ BIG)
    (hp : ∀ x, x ∈ l → ∀ W cs, Below w.heap.size w W → EntD.ty.rep (fun b => I b ∧ b < w.heap.size) W x cs → Calls Tryz.prog g (#[.agg cs.toArray] ++ cap) W fun e w' => e = .returned (.bool (p x)) ∧ Below W.heap.size W w') :
    Calls Tryz.prog 79 #[.slice A l.length c, .func (.func g) #[] cap] w fun e w' => e = .returned (.int .i64 (srch p l)) ∧ Below w.heap.size w w' := by
  have hlen : (l.length : Int) ≤ 1073741824 := by rw [BIG_eq] at hs; omega
  obtain ⟨r, HR⟩ : ∃ q, Hid (srch p l = q) := ⟨_, Lib.hid rfl⟩
  rw [HR.out]
  have HP := Lib.hid hp
  clear hp
  go_enter Tryz.func79, Tryz.ntmps79
  go_wp2_with fail
  go_loopw [5, 6] (fun i j wr => ∃ low size f : Nat, low + size ≤ l.length ∧ i = .int .i64 low ∧ j = .int .i64 size ∧ Hid (size ≤ f ∧ r = srchGo p l f low size) ∧ Below w.heap.size w wr) (fun _ j _ => (intOf j).toNat)
  case atStart => exact ⟨0, l.length, l.length, by omega, rfl, rfl, Lib.hid ⟨Nat.le_refl _, HR.out.symm⟩, Below.refl _ _⟩
  case round =>
    obtain ⟨low, size, f, hls, rfl, rfl, HF, hB⟩ := hrel
    by_cases hz : 0 < size
    · obtain ⟨half, hh, hh1⟩ : ∃ half : Nat, (size : Int) / 2 = (half : Int) ∧ half = size / 2 := ⟨size / 2, by omega, rfl⟩
      have hhs : half < size := by omega
      obtain ⟨x, hx, hxm⟩ := get_some (l := l) (k := low + half) (by omega)
      obtain ⟨b, off, cs, rfl, hIb, hbl, hcs, hat⟩ := h.get hx
      have hcs' := EntD.ty.belowB (fun b hb => hb.2) hB (EntD.ty.lt hcs)
      obtain ⟨A1, c1, A2, c2, rfl, _⟩ := EntD.rep_open hcs
      obtain ⟨g0, g1, g2, g3, g4, g5, g6⟩ := (hat.below hbl hB).seven
      have HC := Lib.hid (HP.out x hxm wr _ hB hcs')
      have HG := Lib.hid (show ∃ f', f = f' + 1 ∧ r = if p x then srchGo p l f' low half else srchGo p l f' (low + (half + 1)) (size - (half + 1)) from by
        obtain ⟨h1, h2⟩ := HF.out
        obtain ⟨f', rfl⟩ : ∃ f', f = f' + 1 := ⟨f - 1, by omega⟩
        refine ⟨f', rfl, ?_⟩
        rw [h2, srchGo, if_neg (by omega), ← hh1, hx])
      have HF1 := Lib.hid HF.out.1
      clear hat hcs hcs' hx HF hh1
      have hlh : low + half < l.length := by omega
      generalize p x = q at *
      cases q with
      | true =>
        go_wp2_with fail
        refine HC.out.mono ?_
        rintro e w1 ⟨rfl, hb1⟩
        have HG2 := Lib.hid (show ∃ f', half ≤ f' ∧ r = srchGo p l f' low half from by
          obtain ⟨f', h1, h2⟩ := HG.out
          have := HF1.out
          exact ⟨f', by omega, by rw [h2]; rfl⟩)
        go_wp2_with fail
        go_roundw
        case rel =>
          obtain ⟨f', h1, h2⟩ := HG2.out
          exact ⟨low, half, f', by omega, rfl, rfl, Lib.hid ⟨h1, h2⟩, below_call hB hB.size hb1⟩
        case measure => simp [intOf]; omega
      | false =>
        go_wp2_with fail
        refine HC.out.mono ?_
        rintro e w1 ⟨rfl, hb1⟩
        have HG2 := Lib.hid (show ∃ f', size - (half + 1) ≤ f' ∧ r = srchGo p l f' (low + (half + 1)) (size - (half + 1)) from by
          obtain ⟨f', h1, h2⟩ := HG.out
          have := HF1.out
          exact ⟨f', by omega, by rw [h2]; rfl⟩)
        go_wp2_with fail
        go_roundw
        case rel =>
          obtain ⟨f', h1, h2⟩ := HG2.out
          exact ⟨low + (half + 1), size - (half + 1), f', by omega, by go_num, by go_num, Lib.hid ⟨h1, h2⟩, below_call hB hB.size hb1⟩
        case measure => simp [intOf]; omega
    · have HT := Lib.hid (show r = low from by
        obtain ⟨h1, h2⟩ := HF.out
        rw [h2]
        cases f with
        | zero => rfl
        | succ f => rw [srchGo, if_pos (by omega)])
      go_wp2_with fail
      go_ret
      exact ⟨by rw [HT.out]; rfl, hB⟩
end Go.Proofs.YtcmahpddjggcaaaGreatDoor
