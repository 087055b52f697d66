/- index.put, whatever the node is. -/
import Derived.Test.YtcmahpddjggcaaaGreatDoorKIx7
namespace Go.Proofs.YtcmahpddjggcaaaGreatDoor
open Go Go.RowKit Go.Maps
set_option maxHeartbeats 4000000
theorem put_any (B N : Nat) (I J : Nat → Prop) (w : World) (p : Nat) (sl : Value) (mb : Nat) (x : IdxD) (n : NodeD) (ncs : List Value) (H : PutIn B N I J w p sl mb x n ncs) (hI : ∀ b, B ≤ b → I b) (hN : N < maxLen) :
    Calls Tryz.prog 90 #[.pointer (some ⟨p, 0, none⟩), .agg ncs.toArray] w (PutQ B (N + 1) I w p sl mb (x.put n)) := by
  cases hf : n.props.find? (fun p => decide (p.key = x.key)) with
  | none =>
    have hx : x.put n = x.drop n.id := by unfold IdxD.put; rw [hf]
    rw [hx]
    exact (put_no B N I J w p sl mb x n ncs H (-1) (idxOf_nofind hf) (.inl rfl)).mono fun e w' h => h.mono (by omega)
  | some pr =>
    obtain ⟨k, h1, h2, h3⟩ := idxOf_find hf
    cases hl : n.labels.any (fun s => decide (s = x.label)) with
    | false =>
      have hx : x.put n = x.drop n.id := by unfold IdxD.put; rw [hf]; simp only [hl]; rfl
      rw [hx]
      exact (put_no B N I J w p sl mb x n ncs H (k : Int) h1 (.inr ⟨by omega, hl⟩)).mono fun e w' h => h.mono (by omega)
    | true =>
      have hx : x.put n = (x.drop n.id).ins ⟨n.id, pr.val⟩ := by unfold IdxD.put; rw [hf]; simp only [hl]; rfl
      rw [hx]
      exact put_yes B N I J w p sl mb x n ncs H hI hN pr k h1 h2 hl
end Go.Proofs.YtcmahpddjggcaaaGreatDoor
