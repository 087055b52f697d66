/- A value that is handed in: what its reading says of its cells. -/
import Derived.Test.YtcmahpddjggcaaaGreatDoorKWk3
import Derived.Carry
import Derived.ChangeShapes
import Derived.ChangeArms
import Derived.OpenShut
import Derived.RangeFuncBound
import Derived.RangeFuncCalls
import Derived.RangeFuncNested
import Derived.RangeFuncLeaves
import Derived.RangeFuncFrom
import Derived.OwnWalkIn
import Derived.TacticsInMore
import Derived.LoopNIn
import Derived.LoopIn
namespace Go.Proofs.YtcmahpddjggcaaaGreatDoor
open Go Go.RowKit
set_option maxHeartbeats 1000000
set_option maxRecDepth 100000
/-- Lists in a value are no longer than lists are. -/
def V.Lens (v : V) : Prop := ∀ d p, p ∈ v.pre d → p.2.keys.length ≤ 9223372036854775807 ∧ p.2.list.length ≤ 9223372036854775807
theorem V.Lens.self {v : V} (h : v.Lens) : v.keys.length ≤ 9223372036854775807 ∧ v.list.length ≤ 9223372036854775807 := h 0 (0, v) (by rw [V.pre_eq]; simp)
theorem V.Lens.sub {v x : V} (h : v.Lens) (hx : x ∈ v.list) : x.Lens := fun d p hp => by
  refine h (d - 1) p ?_
  rw [V.pre_eq, V.pres_eq]
  refine List.mem_cons_of_mem _ (List.mem_flatMap.2 ⟨x, hx, ?_⟩)
  rwa [show d - 1 + 1 = d by omega]
theorem V.Lens.mk {v : V} (hk : v.keys.length ≤ 9223372036854775807) (hl : v.list.length ≤ 9223372036854775807) (h : ∀ x, x ∈ v.list → x.Lens) : v.Lens := fun d p hp => by
  rw [V.pre_eq, V.pres_eq] at hp
  rcases List.mem_cons.1 hp with rfl | hp
  · exact ⟨hk, hl⟩
  · obtain ⟨x, hx, hp⟩ := List.mem_flatMap.1 hp
    exact h x hx _ p hp
theorem rowFrom_of {α : Type} {sz : Nat} {R : α → List Value → Prop} {Q : α → Prop} {w : World} {b : Nat} : ∀ (n off : Nat), (∀ i, i < n → ∃ x cs, R x cs ∧ Q x ∧ At w b (off + i * sz) cs) → ∃ xs : List α, xs.length = n ∧ RowFrom sz R w b off xs ∧ ∀ x, x ∈ xs → Q x
  | 0, _, _ => ⟨[], rfl, trivial, fun x hx => by cases hx⟩
  | n + 1, off, h => by
    obtain ⟨x, cs, h1, h2, h3⟩ := h 0 (by omega)
    obtain ⟨xs, h4, h5, h6⟩ := rowFrom_of n (off + sz) (fun i hi => by
      obtain ⟨y, ds, g1, g2, g3⟩ := h (i + 1) (by omega)
      exact ⟨y, ds, g1, g2, by rwa [Nat.add_mul, Nat.one_mul, Nat.add_comm (i * sz), ← Nat.add_assoc] at g3⟩)
    refine ⟨x :: xs, by simp [h4], ⟨⟨cs, h1, by simpa using h3⟩, h5⟩, fun y hy => ?_⟩
    rcases List.mem_cons.1 hy with rfl | hy
    · exact h2
    · exact h6 y hy
section
variable {H : Type} {enc : TypeId × Value → H} {w : World} {held : Bool}
/-- What a slice's reading says, of whatever elements. -/
theorem open_row {α : Type} {R : α → List Value → Prop} {Q : α → Prop} {e t : TypeId} {sz : Nat} (ht : Tryz.prog.underlying t = some (.slice e)) (hc : Tryz.prog.cellsOf e = sz) (hsz : 0 < sz) {fuel : Nat} {cs : List Value} {x : DataW H × List MemPlace}
    (h : DataW.trod enc Tryz.prog w 0 (fun _ => true) held fuel t cs = some x)
    (hel : ∀ n ds y, n < fuel → ds.length = sz → DataW.trod enc Tryz.prog w 0 (fun _ => true) held n e ds = some y → ∃ z : α, R z ds ∧ Q z) :
    ∃ A len cap, ∃ xs : List α, cs = [.slice A len cap] ∧ xs.length = len ∧ len ≤ cap ∧ len ≤ 9223372036854775807 ∧ Row sz R (fun _ => True) w A xs ∧ ∀ x, x ∈ xs → Q x := by
  rcases DataW.trod_slice ht h with ⟨rfl, _⟩ | ⟨a, len, cap, elems, rest, n, rfl, rfl, _, _, hlc, hcm, hel1, hel2, _, _⟩
  · exact ⟨none, 0, 0, [], rfl, rfl, Nat.le_refl _, by omega, .inl rfl, fun x hx => by cases hx⟩
  · rw [hc] at hel2
    have hat : ∀ i, i < len → ∃ ds y, w.cells? 0 (a.add (i * sz)) sz = some ds ∧ DataW.trod enc Tryz.prog w 0 (fun _ => true) held n e ds = some y := fun i hi => by
      have h1 := hel2 i hi
      rw [List.getElem?_eq_getElem (by omega)] at h1
      obtain ⟨ds, h2, h3⟩ := Option.bind_eq_some_iff.1 h1
      exact ⟨ds, _, h2, h3⟩
    have hle : len ≤ 9223372036854775807 := by simp only [maxLen] at hcm; omega
    by_cases h0 : len = 0
    · subst h0
      exact ⟨some a, 0, cap, [], rfl, rfl, Nat.zero_le _, by omega, .inl rfl, fun x hx => by cases hx⟩
    · have hsp : a.spot = none := by
        obtain ⟨ds, y, h1, _⟩ := hat 0 (by omega)
        obtain ⟨_, h2, h3⟩ := World.cells?_some h1
        have h4 := h3 0 hsz
        have e0 : (a.add (0 * sz)).add 0 = a := by simp [Addr.add]
        rw [e0, List.getElem?_eq_getElem (by omega)] at h4
        unfold World.cell? at h4
        split at h4
        · split at h4
          · cases h4
          · rename_i hs; cases hsp : a.spot with
            | none => rfl
            | some _ => rw [hsp] at hs; exact absurd rfl hs
        · cases h4
      obtain ⟨b, off, spot⟩ := a
      obtain rfl : spot = none := hsp
      have hlt : b < w.heap.size := by
        obtain ⟨ds, y, h1, _⟩ := hat 0 (by omega)
        have := World.cells?_block h1 hsz
        unfold Addr.add at this
        split at this <;> exact this
      obtain ⟨xs, g1, g2, g3⟩ := rowFrom_of (R := R) (Q := Q) (w := w) (b := b) len off (fun i hi => by
        obtain ⟨ds, y, h1, h2⟩ := hat i hi
        obtain ⟨_, h3, h4⟩ := World.cells?_some h1
        obtain ⟨z, h5, h6⟩ := hel n ds y (by omega) h3 h2
        refine ⟨z, ds, h5, h6, fun j u hj => ?_⟩
        have hjl := (List.getElem?_eq_some_iff.1 hj).1
        have h7 := h4 j (by omega)
        rw [hj] at h7
        have e1 : ((⟨b, off, none⟩ : Addr).add (i * sz)).add j = ⟨b, off + i * sz + j, none⟩ := by
          rw [Addr.add_lit, Addr.add_lit]
        rw [e1] at h7
        exact h7)
      exact ⟨some ⟨b, off, none⟩, len, cap, xs, rfl, g1, hlc, hle, .inr ⟨b, off, rfl, trivial, hlt, g2⟩, g3⟩
theorem cellsOf_str : Tryz.prog.cellsOf 9 = 1 := by kernel_rfl
theorem cellsOf_val : Tryz.prog.cellsOf 26 = 6 := by kernel_rfl
theorem under_strs : Tryz.prog.underlying 23 = some (.slice 9) := Tryz.underlying23
theorem under_vals : Tryz.prog.underlying 24 = some (.slice 26) := Tryz.underlying24
theorem open_V : ∀ (fuel : Nat) (cs : List Value) (x : DataW H × List MemPlace), DataW.trod enc Tryz.prog w 0 (fun _ => true) held fuel 26 cs = some x → ∃ v : V, V.ty.rep (fun _ => True) w v cs ∧ v.Lens := by
  intro fuel
  induction fuel using Nat.strongRecOn with
  | ind fuel ih =>
    intro cs x h
    obtain ⟨xs, n, rfl, rfl, hcl, hxl, hf⟩ := DataW.trod_struct Tryz.underlying26 h
    rw [cellsOf_val] at hcl
    obtain ⟨c0, c1, c2, c3, c4, c5, rfl⟩ : ∃ c0 c1 c2 c3 c4 c5, cs = [c0, c1, c2, c3, c4, c5] := by
      match cs, hcl with
      | [c0, c1, c2, c3, c4, c5], _ => exact ⟨c0, c1, c2, c3, c4, c5, rfl⟩
    have hxl6 : xs.length = 6 := hxl
    have g := fun i (hi : i < 6) => (List.getElem?_eq_getElem (l := xs) (i := i) (by omega))
    have f0 := hf 0 _ rfl
    have f1 := hf 1 _ rfl
    have f2 := hf 2 _ rfl
    have f3 := hf 3 _ rfl
    have f4 := hf 4 _ rfl
    have f5 := hf 5 _ rfl
    rw [g 0 (by omega)] at f0
    rw [g 1 (by omega)] at f1
    rw [g 2 (by omega)] at f2
    rw [g 3 (by omega)] at f3
    rw [g 4 (by omega)] at f4
    rw [g 5 (by omega)] at f5
    obtain ⟨k, e0, _, _⟩ := DataW.trod_int (k := .i64) (by kernel_rfl) f0
    obtain ⟨bo, e1, _⟩ := DataW.trod_bool (by kernel_rfl) f1
    obtain ⟨m, e2, _, _⟩ := DataW.trod_int (k := .i64) (by kernel_rfl) f2
    obtain ⟨t, e3, _, _⟩ := DataW.trod_string (by kernel_rfl) f3
    obtain ⟨A1, l1, k1, ks, e4, q1, q2, q3, q4, _⟩ := open_row (R := Ty.str.rep (fun _ => True) w) (Q := fun _ => True) under_strs cellsOf_str (by decide) f4 (fun n' ds y _ _ hy => by
      obtain ⟨s, hs, _, _⟩ := DataW.trod_string (by kernel_rfl) hy
      exact ⟨s, hs, trivial⟩)
    obtain ⟨A2, l2, k2, l, e5, r1, r2, r3, r4, r5⟩ := open_row (R := V.ty.rep (fun _ => True) w) (Q := V.Lens) under_vals cellsOf_val (by decide) f5 (fun n' ds y hn _ hy => ih n' (by omega) ds y hy)
    have z0 : Tryz.prog.cellsOf 22 = 1 := by kernel_rfl
    have z1 : Tryz.prog.cellsOf 4 = 1 := by kernel_rfl
    have z2 : Tryz.prog.cellsOf 2 = 1 := by kernel_rfl
    have z4 : Tryz.prog.cellsOf 23 = 1 := by kernel_rfl
    have z5 : Tryz.prog.cellsOf 24 = 1 := by kernel_rfl
    simp [z0] at e0
    simp [z1] at e1
    simp [z2] at e2
    simp [cellsOf_str] at e3
    simp [z4] at e4
    simp [z5] at e5
    subst e0 e1 e2 e3 e4 e5
    subst q1 r1
    exact ⟨.mk k bo m t ks l, V.rep_mk q2 r2 q4 r4, V.Lens.mk q3 r3 r5⟩
end
end Go.Proofs.YtcmahpddjggcaaaGreatDoor
/- latticelaw12.valueSize ends and hands back a number, whatever the value is. -/
namespace Go.Proofs.YtcmahpddjggcaaaGreatDoor
open Go Go.RowKit
set_option maxHeartbeats 4000000
set_option maxRecDepth 100000
def SizeOut (w : World) (e : Ending) (w' : World) : Prop := (∃ n, e = .returned (.int .i64 n)) ∧ Below w.heap.size w w'
def SizeP (v : V) : Prop := ∀ (left : Int) (I : Nat → Prop) (w : World) (cs : List Value), V.ty.rep I w v cs → v.Lens → Calls Tryz.prog 15 #[.agg cs.toArray, .int .i64 left] w (SizeOut w)
theorem valueSize_step (v : V) (hI : Hid (∀ x, x ∈ v.list → SizeP x)) : SizeP v := by
  intro left I w cs h hL
  have HL := Lib.hid hL
  obtain ⟨hk, hl⟩ := hL.self
  have hv := V.ty.lt h
  obtain ⟨A1, c1, A2, c2, rfl, k1, k2, hr1, hr2⟩ := V.rep_open h
  have hB0 := below_alloc' (Below.refl w.heap.size w) (Nat.le_refl _) (.cells #[.int .i64 v.kind, .bool v.bool, .int .i64 v.int, .string v.text, .slice A1 v.keys.length c1, .slice A2 v.list.length c2] 26)
  have hb0 := Blk.new w [.int .i64 v.kind, .bool v.bool, .int .i64 v.int, .string v.text, .slice A1 v.keys.length c1, .slice A2 v.list.length c2] 26
  have hr1' := Row.imp (R' := Ty.str.rep I w) (fun _ _ h => h) (fun b hb hl => ⟨hb, Nat.lt_of_lt_of_le hl hB0.size⟩) (fun b _ hl => hB0.block b hl) hr1
  have hr2' := Row.at V.ty hr2 hB0
  have HB0 := Lib.hid hB0
  have HBL := Lib.hid hb0
  have hkI : (v.keys.length : Int) ≤ 9223372036854775807 := by omega
  have hlI : (v.list.length : Int) ≤ 9223372036854775807 := by omega
  clear h hv hr1 hr2 hL hk hl hb0 hB0
  go_enter Tryz.func15, Tryz.ntmps15
  go_wp2_with fail
  generalize w.alloc (.cells #[.int .i64 v.kind, .bool v.bool, .int .i64 v.int, .string v.text, .slice A1 v.keys.length c1, .slice A2 v.list.length c2] 26) = W0 at *
  obtain ⟨y0, z0, l0⟩ := HBL.out.facts
  go_loop [5, 6] (fun s i => ∃ (k : Nat) (n : Int), k ≤ v.keys.length ∧ i = .int .i64 k ∧ s = .int .i64 n) (fun _ i => v.keys.length - (intOf i).toNat)
  case atStart => exact ⟨0, _, Nat.zero_le _, rfl, rfl⟩
  case round =>
    obtain ⟨k, n, hk, rfl, rfl⟩ := hrel
    have hex : ∀ s : Int, True := fun _ => trivial
    by_cases hlt : k < v.keys.length
    · obtain ⟨s, hs, _⟩ := get_some hlt
      obtain ⟨b, off, scs, rfl, _, hbl, hcs, hat⟩ := hr1'.get hs
      obtain rfl := hcs
      have g0 := hat.one
      simp only [Nat.mul_one] at g0
      clear hat hs
      by_cases hn : n ≤ left
      · go_wp2_with fail
        go_round
        case rel => exact ⟨k + 1, _, by omega, by go_num, rfl⟩
        case measure => simp [intOf]; omega
      · have hn1 : decide (n ≤ left) = false := decide_eq_false hn
        clear g0
        go_wp2_with fail
        go_loopw [5, 7] (fun s i wr => ∃ (k : Nat) (n : Int), k ≤ v.list.length ∧ i = .int .i64 k ∧ s = .int .i64 n ∧ Below W0.heap.size W0 wr) (fun _ i _ => v.list.length - (intOf i).toNat)
        case atStart => exact ⟨0, _, Nat.zero_le _, rfl, rfl, Below.refl _ _⟩
        case round =>
          obtain ⟨j, m, hj, rfl, rfl, hB⟩ := hrel
          obtain ⟨yr, zr, lr⟩ := (HBL.out.below hB).facts
          by_cases hjl : j < v.list.length
          · obtain ⟨x, hx, hxm⟩ := get_some hjl
            obtain ⟨xb, xoff, xcs, rfl, _, hxbl, hxcs, hxat⟩ := hr2'.get hx
            have hxr := V.ty.belowB (fun b hb => hb.2) hB (V.ty.lt hxcs)
            obtain ⟨X1, x1, X2, x2, rfl, _⟩ := V.rep_open hxr
            obtain ⟨g0, g1, g2, g3, g4, g5⟩ := (hxat.below hxbl hB).six
            have HC := Lib.hid (fun q : Int => hI.out x hxm q _ wr _ hxr (HL.out.sub hxm))
            clear hxat hx hxcs hxr
            by_cases hm : m ≤ left
            · go_wp2_with fail
              refine (HC.out _).mono ?_
              rintro e w2 ⟨⟨q, rfl⟩, hb2⟩
              go_wp2_with fail
              go_roundw
              case rel => exact ⟨j + 1, _, by omega, by go_num, rfl, below_call hB hB.size hb2⟩
              case measure => simp [intOf]; omega
            · have hm1 : decide (m ≤ left) = false := decide_eq_false hm
              clear HC
              go_wp2_with fail
              go_ret
              exact ⟨⟨_, rfl⟩, below_call HB0.out HB0.out.size hB⟩
          · go_wp2_with fail
            go_ret
            exact ⟨⟨_, rfl⟩, below_call HB0.out HB0.out.size hB⟩
    · go_wp2_with fail
      go_loopw [5, 7] (fun s i wr => ∃ (k : Nat) (n : Int), k ≤ v.list.length ∧ i = .int .i64 k ∧ s = .int .i64 n ∧ Below W0.heap.size W0 wr) (fun _ i _ => v.list.length - (intOf i).toNat)
      case atStart => exact ⟨0, _, Nat.zero_le _, rfl, rfl, Below.refl _ _⟩
      case round =>
        obtain ⟨j, m, hj, rfl, rfl, hB⟩ := hrel
        obtain ⟨yr, zr, lr⟩ := (HBL.out.below hB).facts
        by_cases hjl : j < v.list.length
        · obtain ⟨x, hx, hxm⟩ := get_some hjl
          obtain ⟨xb, xoff, xcs, rfl, _, hxbl, hxcs, hxat⟩ := hr2'.get hx
          have hxr := V.ty.belowB (fun b hb => hb.2) hB (V.ty.lt hxcs)
          obtain ⟨X1, x1, X2, x2, rfl, _⟩ := V.rep_open hxr
          obtain ⟨g0, g1, g2, g3, g4, g5⟩ := (hxat.below hxbl hB).six
          have HC := Lib.hid (fun q : Int => hI.out x hxm q _ wr _ hxr (HL.out.sub hxm))
          clear hxat hx hxcs hxr
          by_cases hm : m ≤ left
          · go_wp2_with fail
            refine (HC.out _).mono ?_
            rintro e w2 ⟨⟨q, rfl⟩, hb2⟩
            go_wp2_with fail
            go_roundw
            case rel => exact ⟨j + 1, _, by omega, by go_num, rfl, below_call hB hB.size hb2⟩
            case measure => simp [intOf]; omega
          · have hm1 : decide (m ≤ left) = false := decide_eq_false hm
            clear HC
            go_wp2_with fail
            go_ret
            exact ⟨⟨_, rfl⟩, below_call HB0.out HB0.out.size hB⟩
        · go_wp2_with fail
          go_ret
          exact ⟨⟨_, rfl⟩, below_call HB0.out HB0.out.size hB⟩
theorem valueSize_any (v : V) : SizeP v := by
  induction v using V.ind with
  | h k b n t ks l ih => exact valueSize_step _ (Lib.hid ih)
end Go.Proofs.YtcmahpddjggcaaaGreatDoor
/- latticelaw12.goes over no entries. -/
namespace Go.Proofs.YtcmahpddjggcaaaGreatDoor
open Go Go.RowKit
attribute [local go_sem] Oper.semAt_some
set_option maxHeartbeats 4000000
set_option maxRecDepth 100000
theorem eql_nilfunc (b : Nat) (w : World) : (binOp .eql 50 (.func (.func 95) #[] #[.pointer (some ⟨b, 0, none⟩)]) .nilFunc).run Tryz.prog w = .ok (.bool false) w := by kernel_rfl
theorem entries1_nil (n b : Nat) (w : World) (hb : Blk w b [.slice none 0 0] 30) (encs : Empty → Array Value) :
    SeqStopsK Fence.wide n Tryz.prog 95 #[.pointer (some ⟨b, 0, none⟩)] encs (fun _ _ => True) (fun _ => True) (fun _ => False) 0 w := by
  intro l J Jx W hwW hJ hJx hY hJ0
  obtain ⟨y, z, lt⟩ := (hb.below hwW).facts
  have HJ := Lib.hid hJ0
  clear hY hJ hJx hJ0
  refine callsIn_of_wp Tryz.func95 rfl trivial ?_ rfl
  simp only [Tryz.ntmps95, List.size_toArray, List.length_cons, List.length_nil, Nat.reduceAdd, Nat.reduceSub, Array.replicate_succ, Array.replicate_zero, List.push_toArray, List.append_toArray, List.nil_append, List.cons_append]
  gi_wp2_with fail
  gi_loop [7] (fun i => i = .int .i64 0) (fun _ => 0)
  case atStart => rfl
  case round =>
    obtain rfl := hrel
    gi_wp2_with fail
    go_end0
    exact ⟨⟨_, rfl⟩, [], HJ.out⟩
theorem goes_nil (b : Nat) (w : World) (hb : Blk w b [.slice none 0 0] 30) :
    Calls Tryz.prog 27 #[.func (.func 95) #[] #[.pointer (some ⟨b, 0, none⟩)], .slice none 0 0, .int .i64 0] w fun e w' => e = .returned (.bool true) ∧ Below w.heap.size w w' := by
  have hq := eql_nilfunc b
  refine (callsIn_wide (n := 5)).1 ?_
  refine callsIn_of_wp_marks Tryz.func27 rfl trivial ?_ rfl
  simp only [Tryz.ntmps27, List.size_toArray, List.length_cons, List.length_nil, Nat.reduceAdd, Nat.reduceSub, Array.replicate_succ, Array.replicate_zero, List.push_toArray, List.append_toArray, List.nil_append, List.cons_append]
  gi_wp2_with fail
  have b4 : Blk ((((w.alloc (.cells #[.slice none 0 0] 164)).alloc (.cells #[.int .i64 0] 3)).alloc (.cells #[.bool false] 4)).alloc (.cells #[.int .i64 0] 3)) w.heap.size [.slice none 0 0] 164 := (((Blk.new w [.slice none 0 0] 164).alloc _).alloc _).alloc _
  have b6 : Blk ((((w.alloc (.cells #[.slice none 0 0] 164)).alloc (.cells #[.int .i64 0] 3)).alloc (.cells #[.bool false] 4)).alloc (.cells #[.int .i64 0] 3)) (w.heap.size + 1 + 1) [.bool false] 4 := by
    have := (Blk.new ((w.alloc (.cells #[.slice none 0 0] 164)).alloc (.cells #[.int .i64 0] 3)) [.bool false] 4).alloc (.cells #[.int .i64 0] 3)
    rwa [show ((w.alloc (.cells #[.slice none 0 0] 164)).alloc (.cells #[.int .i64 0] 3)).heap.size = w.heap.size + 1 + 1 by simp] at this
  have b7 : Blk ((((w.alloc (.cells #[.slice none 0 0] 164)).alloc (.cells #[.int .i64 0] 3)).alloc (.cells #[.bool false] 4)).alloc (.cells #[.int .i64 0] 3)) (w.heap.size + 1 + 1 + 1) [.int .i64 0] 3 := by
    have := Blk.new (((w.alloc (.cells #[.slice none 0 0] 164)).alloc (.cells #[.int .i64 0] 3)).alloc (.cells #[.bool false] 4)) [.int .i64 0] 3
    rwa [show (((w.alloc (.cells #[.slice none 0 0] 164)).alloc (.cells #[.int .i64 0] 3)).alloc (.cells #[.bool false] 4)).heap.size = w.heap.size + 1 + 1 + 1 by simp] at this
  have hB : Below w.heap.size w ((((w.alloc (.cells #[.slice none 0 0] 164)).alloc (.cells #[.int .i64 0] 3)).alloc (.cells #[.bool false] 4)).alloc (.cells #[.int .i64 0] 3)) := below_alloc' (below_alloc' (below_alloc' (below_alloc' (Below.refl _ _) (Nat.le_refl _) _) (Nat.le_refl _) _) (Nat.le_refl _) _) (Nat.le_refl _) _
  have hsz : ((((w.alloc (.cells #[.slice none 0 0] 164)).alloc (.cells #[.int .i64 0] 3)).alloc (.cells #[.bool false] 4)).alloc (.cells #[.int .i64 0] 3)).heap.size = w.heap.size + 1 + 1 + 1 + 1 := by simp
  have hb0 := hb.below hB
  generalize ((((w.alloc (.cells #[.slice none 0 0] 164)).alloc (.cells #[.int .i64 0] 3)).alloc (.cells #[.bool false] 4)).alloc (.cells #[.int .i64 0] 3)) = W4 at *
  refine wpIn_rangeFunc_ownF (α := Empty) rfl (by omega) (gf := 95) (lb := #[.pointer (some ⟨b, 0, none⟩)]) rfl trivial (enters_of Tryz.func95 (by kernel_rfl) rfl)
    (entries1_nil 4 b W4 hb0 (fun x => x.elim)) (fun _ _ => trivial) (fun _ _ _ _ _ _ _ _ => trivial) (Below.refl _ _) (fun x => x.elim)
    (fun _ W => Blk W w.heap.size [.slice none 0 0] 164 ∧ Blk W (w.heap.size + 1 + 1) [.bool false] 4 ∧ Blk W (w.heap.size + 1 + 1 + 1) [.int .i64 0] 3 ∧ Below w.heap.size w W) (fun _ _ _ => False) ?hI (fun _ _ _ _ _ h _ _ => h) ⟨b4, b6, b7, hB⟩ (fun x => x.elim) (fun _ x => x.elim) (fun _ _ x => x.elim) ?done (fun _ _ _ _ _ h => h.elim)
  case hI =>
    rintro s W W' row ⟨k1, k2, k3, k4⟩ hg hr
    exact ⟨k1.own hg hr, k2.own hg hr, k3.own hg hr, below_own k4 (by omega) (Nat.le_refl _) hg hr⟩
  case done =>
    rintro D xs W hD _ ⟨k1, k2, k3, k4⟩ hK
    obtain ⟨y1, z1, l1⟩ := k1.facts
    obtain ⟨y2, z2, l2⟩ := k2.facts
    obtain ⟨y3, z3, l3⟩ := k3.facts
    have HK := Lib.hid hK
    clear hK hb hb0 b4 b6 b7 hB
    gi_wp2_with fail
    have hK' : (W.setCell ⟨w.heap.size + 1 + 1, 0, none⟩ (.bool true)).heap[D]? = some (.deferred (some [])) := (heap_set (by omega : D ≠ w.heap.size + 1 + 1) W 0 _).trans HK.out
    have hb6 := putObj_blk (k2.set 0 (.bool true)) (.deferred none) (by omega : w.heap.size + 1 + 1 ≠ D)
    have hbe := below_putObj (below_set k4 (by omega : w.heap.size ≤ w.heap.size + 1 + 1) 0 (.bool true)) (by omega : w.heap.size ≤ D) (.deferred none)
    obtain ⟨yf, _⟩ := hb6.rd
    refine ⟨by simp, .inl ⟨D, _, rfl, run_takeDeferred hK', ?_⟩⟩
    refine ⟨_, ?_, rfl, hbe⟩
    simp [results, Tryz.results27, go_sem, yf]
end Go.Proofs.YtcmahpddjggcaaaGreatDoor
