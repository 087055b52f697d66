/- value.Storable. -/
import Derived.Test.YtcmahpddjggcaaaGreatDoorKGra1
import Derived.Laws.EntriesVeiled
namespace Go.Proofs.YtcmahpddjggcaaaGreatDoor
open Go Go.RowKit
set_option maxHeartbeats 4000000
set_option maxRecDepth 100000

def vBad (k x : Int) : Bool := decide (x ≠ k) || decide (x < 1) || decide (3 < x)
/-- What Storable looks at. -/
def V.parts (v : V) : List V := if v.kind = 4 then v.list else [v]
def V.storable (v : V) : Bool := v.check == 0 && !(v.parts.any fun x => vBad ((v.parts.head?.map V.kind).getD 0) x.kind)
theorem storable1 (x : V) (I : Nat → Prop) (w : World) (cs : List Value) (n b off len c : Nat) (k : Int) (h : V.ty.rep I w x cs) (hn : w.cell? ⟨n, 0, none⟩ = some (.slice (some ⟨b, off, none⟩) len c)) (hb : w.cell? ⟨b, off, none⟩ = some (.int .i64 k)) (hl : 0 < len) :
    Calls Tryz.prog 272 #[.agg cs.toArray, .pointer (some ⟨n, 0, none⟩)] w fun e w' => e = .returned (.bool (vBad k x.kind)) ∧ Below w.heap.size w w' := by
  obtain ⟨A1, c1, A2, c2, rfl, h1, h2, h3, h4⟩ := V.rep_open h
  have hn1 : n < w.heap.size := World.block_lt_of_cell? w _ hn
  have hb1 : b < w.heap.size := World.block_lt_of_cell? w _ hb
  have hn2 := ((Below.refl w.heap.size w).alloc (Nat.le_refl _) (.cells #[.int .i64 x.kind, .bool x.bool, .int .i64 x.int, .string x.text, .slice A1 x.keys.length c1, .slice A2 x.list.length c2] 26)).cell (p := ⟨n, 0, none⟩) hn1 |>.trans hn
  have hb2 := ((Below.refl w.heap.size w).alloc (Nat.le_refl _) (.cells #[.int .i64 x.kind, .bool x.bool, .int .i64 x.int, .string x.text, .slice A1 x.keys.length c1, .slice A2 x.list.length c2] 26)).cell (p := ⟨b, off, none⟩) hb1 |>.trans hb
  have hl' : (0 : Int) < (len : Int) := by omega
  have HE := Lib.hid (show vBad k x.kind = (decide (x.kind ≠ k) || decide (x.kind < 1) || decide (3 < x.kind)) from rfl)
  generalize vBad k x.kind = r at *
  clear h h3 h4
  by_cases e1 : x.kind = k
  case neg =>
    have HT := Lib.hid (show r = true by rw [HE.out, decide_eq_true e1]; rfl)
    have q1 : (x.kind != k) = true := by simpa using e1
    have q2 : (x.kind == k) = false := by simpa using e1
    clear HE
    go_enter Tryz.func272, Tryz.ntmps272
    go_wp2_with fail
    go_quiet (fail)
    go_wp2_with fail
    go_ret
    exact ⟨by rw [HT.out]; rfl, below_drewN (below_alloc' (Below.refl _ _) (Nat.le_refl _) _) _⟩
  have q1 : (x.kind != k) = false := by simpa using e1
  have q2 : (x.kind == k) = true := by simpa using e1
  by_cases e2 : x.kind < 1
  · have HT := Lib.hid (show r = true by rw [HE.out, decide_eq_true e2]; simp)
    clear HE e1
    go_enter Tryz.func272, Tryz.ntmps272
    go_wp2_with fail
    go_quiet (fail)
    go_wp2_with fail
    go_ret
    exact ⟨by rw [HT.out]; rfl, below_drewN (below_alloc' (Below.refl _ _) (Nat.le_refl _) _) _⟩
  have q3 : decide (x.kind < 1) = false := decide_eq_false e2
  by_cases e3 : 3 < x.kind
  · have HT := Lib.hid (show r = true by rw [HE.out, decide_eq_true e3]; simp)
    clear HE e1
    go_enter Tryz.func272, Tryz.ntmps272
    go_wp2_with fail
    go_quiet (fail)
    go_wp2_with fail
    go_ret
    exact ⟨by rw [HT.out]; rfl, below_drewN (below_alloc' (Below.refl _ _) (Nat.le_refl _) _) _⟩
  · have q4 : decide (3 < x.kind) = false := decide_eq_false e3
    have HT := Lib.hid (show r = false by rw [HE.out, q4, q3, decide_eq_false (fun e => e e1)]; rfl)
    clear HE e1
    go_enter Tryz.func272, Tryz.ntmps272
    go_wp2_with fail
    go_quiet (fail)
    go_wp2_with fail
    go_ret
    exact ⟨by rw [HT.out]; rfl, below_drewN (below_alloc' (Below.refl _ _) (Nat.le_refl _) _) _⟩
theorem fine1 (a : V) (I : Nat → Prop) (W : World) (cs : List Value) (h : V.ty.rep I W a cs) (hs : a.size + 1 ≤ BIG) (hT : Tabs W) :
    Calls Tryz.prog 177 #[.slice (some ⟨W.heap.size, 0, none⟩) 1 1] (W.alloc (.cells cs.toArray 26)) fun e w' => e = .returned (.bool (a.check == 0)) ∧ Below W.heap.size W w' := by
  have hB := below_alloc' (Below.refl W.heap.size W) (Nat.le_refl _) (.cells cs.toArray 26)
  have hr : Row 6 (V.ty.rep (fun _ => True) (W.alloc (.cells cs.toArray 26))) (fun _ => True) (W.alloc (.cells cs.toArray 26)) (some ⟨W.heap.size, 0, none⟩) [a] := by
    obtain ⟨g, _⟩ := (Blk.new W cs 26).rd
    refine .inr ⟨W.heap.size, 0, rfl, trivial, by simp, ?_⟩
    have hcs : Reps (V.ty.rep (fun _ => True) (W.alloc (.cells cs.toArray 26))) [a] cs := ⟨cs, [], by simp, V.ty.mono (fun _ _ => trivial) (V.ty.below hB h), rfl⟩
    exact hcs.rowFrom (fun _ _ h => V.ty.len h) (fun j v hj => by rw [Nat.zero_add, g]; exact hj)
  have := fine_any [a] _ _ 1 _ hr (by show 1 ≤ BIG; decide) (fun v hv => by
    rcases List.mem_cons.1 hv with rfl | hv
    · exact hs
    · cases hv) (hT.below hB)
  refine this.mono ?_
  rintro e w' ⟨rfl, hb⟩
  exact ⟨by simp, below_call hB hB.size hb⟩
theorem row_one {W : World} {n : Nat} {cs : List Value} {T : TypeId} {a : V} {I : Nat → Prop} (hb : Blk W n cs T) (h : V.ty.rep I W a cs) : Row 6 (V.ty.rep (fun _ => True) W) (fun _ => True) W (some ⟨n, 0, none⟩) [a] := by
  obtain ⟨g, _, hl⟩ := hb.facts
  refine .inr ⟨n, 0, rfl, trivial, hl, ?_⟩
  have hcs : Reps (V.ty.rep (fun _ => True) W) [a] cs := ⟨cs, [], by simp, V.ty.mono (fun _ _ => trivial) h, rfl⟩
  exact hcs.rowFrom (fun _ _ h => V.ty.len h) (fun j v hj => by rw [Nat.zero_add, g]; exact hj)
theorem bad_any (l : List V) (I : Nat → Prop) (A : Option Addr) (c n : Nat) (W : World) (hrow : Row 6 (V.ty.rep I W) I W A l) (hl : l.length ≤ BIG) (hn : Blk W n [.slice A l.length c] 24) :
    Calls Tryz.prog 243 #[.slice A l.length c, .func (.func 272) #[] #[.pointer (some ⟨n, 0, none⟩)]] W fun e w' => e = .returned (.bool (l.any fun x => vBad ((l.head?.map V.kind).getD 0) x.kind)) ∧ Below W.heap.size W w' := by
  refine containsFunc_val 272 #[.pointer (some ⟨n, 0, none⟩)] (enters_of Tryz.func272 (by kernel_rfl) rfl) (fun x => vBad ((l.head?.map V.kind).getD 0) x.kind) l I A c W hrow hl (fun x hx W' cs hB hr => ?_)
  match l, hx, hrow, hn with
  | y :: ys, hx, hrow, hn =>
    obtain ⟨b, off, ds, rfl, hIb, hbl, hds, hat⟩ := hrow.get (i := 0) (x := y) rfl
    obtain ⟨B1, d1, B2, d2, rfl, _, _, _, _⟩ := V.rep_open hds
    have := (hat.below hbl hB).six.1
    simp only [Nat.zero_mul, Nat.add_zero] at this
    exact storable1 x _ W' cs n b off _ c y.kind hr ((hn.below hB).rd.1 0) this (by simp)
theorem storable_any (v : V) (I : Nat → Prop) (w : World) (cs : List Value) (h : V.ty.rep I w v cs) (hs : v.size + 1 ≤ BIG) (hT : Tabs w) :
    Calls Tryz.prog 219 #[.agg cs.toArray] w fun e w' => e = .returned (.bool v.storable) ∧ Below w.heap.size w w' := by
  have hr := V.ty.lt h
  obtain ⟨A1, c1, A2, c2, rfl, h1, h2, h3, h4⟩ := V.rep_open h
  have HE := Lib.hid (show v.storable = (v.check == 0 && !(v.parts.any fun x => vBad ((v.parts.head?.map V.kind).getD 0) x.kind)) from rfl)
  generalize v.storable = r at *
  have hF := fun (W : World) (hW : Below w.heap.size w W) => fine1 v _ W _ (V.ty.belowB (fun b hb => hb.2) hW hr) hs (hT.below hW)
  obtain ⟨ck, HCK⟩ : ∃ q, Hid ((v.check == 0) = q) := ⟨_, Lib.hid rfl⟩
  simp only [HCK.out] at hF HE
  by_cases hk : v.kind = 4
  · have hp : v.parts = v.list := by simp [V.parts, hk]
    have HF := Lib.hid (hF (((w.alloc (.cells #[.int .i64 v.kind, .bool v.bool, .int .i64 v.int, .string v.text, .slice A1 v.keys.length c1, .slice A2 v.list.length c2] 26)).alloc (.cells #[.int .i64 v.kind, .bool v.bool, .int .i64 v.int, .string v.text, .slice A1 v.keys.length c1, .slice A2 v.list.length c2] 26)).alloc (.cells #[.slice A2 v.list.length c2] 24)) (below_alloc' (below_alloc' (below_alloc' (Below.refl _ _) (Nat.le_refl _) _) (Nat.le_refl _) _) (Nat.le_refl _) _))
    have q1 : v.kind ≤ 4 := by omega
    have q2 : 4 ≤ v.kind := by omega
    rw [hp] at HE
    have b3 : Blk (((w.alloc (.cells #[.int .i64 v.kind, .bool v.bool, .int .i64 v.int, .string v.text, .slice A1 v.keys.length c1, .slice A2 v.list.length c2] 26)).alloc (.cells #[.int .i64 v.kind, .bool v.bool, .int .i64 v.int, .string v.text, .slice A1 v.keys.length c1, .slice A2 v.list.length c2] 26)).alloc (.cells #[.slice A2 v.list.length c2] 24)) (w.heap.size + 1 + 1) [.slice A2 v.list.length c2] 24 := by have := Blk.new ((w.alloc (.cells #[.int .i64 v.kind, .bool v.bool, .int .i64 v.int, .string v.text, .slice A1 v.keys.length c1, .slice A2 v.list.length c2] 26)).alloc (.cells #[.int .i64 v.kind, .bool v.bool, .int .i64 v.int, .string v.text, .slice A1 v.keys.length c1, .slice A2 v.list.length c2] 26)) [.slice A2 v.list.length c2] 24; simpa using this
    have hB3 : Below w.heap.size w (((w.alloc (.cells #[.int .i64 v.kind, .bool v.bool, .int .i64 v.int, .string v.text, .slice A1 v.keys.length c1, .slice A2 v.list.length c2] 26)).alloc (.cells #[.int .i64 v.kind, .bool v.bool, .int .i64 v.int, .string v.text, .slice A1 v.keys.length c1, .slice A2 v.list.length c2] 26)).alloc (.cells #[.slice A2 v.list.length c2] 24)) := (below_alloc' (below_alloc' (below_alloc' (Below.refl _ _) (Nat.le_refl _) _) (Nat.le_refl _) _) (Nat.le_refl _) _)
    have HL := Lib.hid (v.list_le (by omega))
    simp only [World.size_alloc] at HF
    clear h h3 h4 hF hk hT
    cases ck with
    | false =>
      have HT := Lib.hid (show r = false by rw [HE.out]; rfl)
      go_enter Tryz.func219, Tryz.ntmps219
      go_wp2_with fail
      refine HF.out.mono ?_
      rintro e w1 ⟨rfl, hb1⟩
      go_wp2_with fail
      go_ret
      exact ⟨by rw [HT.out]; rfl, hB3.trans (hb1.mono (by omega))⟩
    | true =>
      have HT := Lib.hid (show r = !(v.list.any fun x => vBad ((v.list.head?.map V.kind).getD 0) x.kind) by rw [HE.out]; rfl)
      go_enter Tryz.func219, Tryz.ntmps219
      go_wp2_with fail
      refine HF.out.mono ?_
      rintro e w1 ⟨rfl, hb1⟩
      have j3 := b3.belowB hb1 (by omega)
      obtain ⟨g3, f3, s3⟩ := j3.facts
      have hB4 := hB3.trans (hb1.mono (by omega))
      have HQ := Lib.hid (bad_any v.list _ _ c2 _ w1 (V.rep_rows (V.ty.belowB (fun b hb => hb.2) hB4 hr)).2 HL.out j3)
      clear b3 hB3 hb1
      generalize (v.list.any fun x => vBad ((v.list.head?.map V.kind).getD 0) x.kind) = bb at *
      go_wp2_with fail
      refine HQ.out.mono ?_
      rintro e w2 ⟨rfl, hb2⟩
      go_wp2_with fail
      go_ret
      exact ⟨by rw [HT.out]; rfl, below_call hB4 hB4.size hb2⟩
  · have hp : v.parts = [v] := by simp [V.parts, hk]
    have HF := Lib.hid (hF (((w.alloc (.cells #[.int .i64 v.kind, .bool v.bool, .int .i64 v.int, .string v.text, .slice A1 v.keys.length c1, .slice A2 v.list.length c2] 26)).alloc (.cells #[.int .i64 v.kind, .bool v.bool, .int .i64 v.int, .string v.text, .slice A1 v.keys.length c1, .slice A2 v.list.length c2] 26)).alloc (.cells #[.slice (some ⟨w.heap.size + 1, 0, none⟩) 1 1] 24)) (below_alloc' (below_alloc' (below_alloc' (Below.refl _ _) (Nat.le_refl _) _) (Nat.le_refl _) _) (Nat.le_refl _) _))
    rw [hp] at HE
    have b3 : Blk (((w.alloc (.cells #[.int .i64 v.kind, .bool v.bool, .int .i64 v.int, .string v.text, .slice A1 v.keys.length c1, .slice A2 v.list.length c2] 26)).alloc (.cells #[.int .i64 v.kind, .bool v.bool, .int .i64 v.int, .string v.text, .slice A1 v.keys.length c1, .slice A2 v.list.length c2] 26)).alloc (.cells #[.slice (some ⟨w.heap.size + 1, 0, none⟩) 1 1] 24)) (w.heap.size + 1 + 1) [.slice (some ⟨w.heap.size + 1, 0, none⟩) 1 1] 24 := by have := Blk.new ((w.alloc (.cells #[.int .i64 v.kind, .bool v.bool, .int .i64 v.int, .string v.text, .slice A1 v.keys.length c1, .slice A2 v.list.length c2] 26)).alloc (.cells #[.int .i64 v.kind, .bool v.bool, .int .i64 v.int, .string v.text, .slice A1 v.keys.length c1, .slice A2 v.list.length c2] 26)) [.slice (some ⟨w.heap.size + 1, 0, none⟩) 1 1] 24; simpa using this
    have b2 : Blk (((w.alloc (.cells #[.int .i64 v.kind, .bool v.bool, .int .i64 v.int, .string v.text, .slice A1 v.keys.length c1, .slice A2 v.list.length c2] 26)).alloc (.cells #[.int .i64 v.kind, .bool v.bool, .int .i64 v.int, .string v.text, .slice A1 v.keys.length c1, .slice A2 v.list.length c2] 26)).alloc (.cells #[.slice (some ⟨w.heap.size + 1, 0, none⟩) 1 1] 24)) (w.heap.size + 1) [.int .i64 v.kind, .bool v.bool, .int .i64 v.int, .string v.text, .slice A1 v.keys.length c1, .slice A2 v.list.length c2] 26 := by have := (Blk.new (w.alloc (.cells #[.int .i64 v.kind, .bool v.bool, .int .i64 v.int, .string v.text, .slice A1 v.keys.length c1, .slice A2 v.list.length c2] 26)) [.int .i64 v.kind, .bool v.bool, .int .i64 v.int, .string v.text, .slice A1 v.keys.length c1, .slice A2 v.list.length c2] 26).alloc (.cells #[.slice (some ⟨w.heap.size + 1, 0, none⟩) 1 1] 24); simpa using this
    have hB3 : Below w.heap.size w (((w.alloc (.cells #[.int .i64 v.kind, .bool v.bool, .int .i64 v.int, .string v.text, .slice A1 v.keys.length c1, .slice A2 v.list.length c2] 26)).alloc (.cells #[.int .i64 v.kind, .bool v.bool, .int .i64 v.int, .string v.text, .slice A1 v.keys.length c1, .slice A2 v.list.length c2] 26)).alloc (.cells #[.slice (some ⟨w.heap.size + 1, 0, none⟩) 1 1] 24)) := (below_alloc' (below_alloc' (below_alloc' (Below.refl _ _) (Nat.le_refl _) _) (Nat.le_refl _) _) (Nat.le_refl _) _)
    simp only [World.size_alloc] at HF
    clear h h3 h4 hF hT
    cases ck with
    | false =>
      have HT := Lib.hid (show r = false by rw [HE.out]; rfl)
      go_enter Tryz.func219, Tryz.ntmps219
      go_wp2_with fail
      refine HF.out.mono ?_
      rintro e w1 ⟨rfl, hb1⟩
      go_wp2_with fail
      go_ret
      exact ⟨by rw [HT.out]; rfl, hB3.trans (hb1.mono (by omega))⟩
    | true =>
      have HT := Lib.hid (show r = !([v].any fun x => vBad (([v].head?.map V.kind).getD 0) x.kind) by rw [HE.out]; rfl)
      go_enter Tryz.func219, Tryz.ntmps219
      go_wp2_with fail
      refine HF.out.mono ?_
      rintro e w1 ⟨rfl, hb1⟩
      have j3 := b3.belowB hb1 (by omega)
      have j2 := b2.belowB hb1 (by omega)
      obtain ⟨g3, f3, s3⟩ := j3.facts
      have hB4 := hB3.trans (hb1.mono (by omega))
      have HQ := Lib.hid (bad_any [v] _ _ 1 _ w1 (row_one j2 (V.ty.belowB (fun b hb => hb.2) hB4 hr)) (by show 1 ≤ BIG; decide) j3)
      clear b3 hB3 hb1
      generalize ([v].any fun x => vBad (([v].head?.map V.kind).getD 0) x.kind) = bb at *
      go_wp2_with fail
      refine HQ.out.mono ?_
      rintro e w2 ⟨rfl, hb2⟩
      go_wp2_with fail
      go_ret
      exact ⟨by rw [HT.out]; rfl, below_call hB4 hB4.size hb2⟩
end Go.Proofs.YtcmahpddjggcaaaGreatDoor
