/- value.all: a range over a value and all in it: the iterator's contract. -/
import Derived.Test.YtcmahpddjggcaaaGreatDoorKVal3
import Derived.RangeFuncNested
import Derived.RangeFuncBound
import Derived.RangeFuncCalls
import Derived.RangeFuncLeaves
import Derived.OwnWalkIn
import Derived.TacticsInMore
import Derived.LoopNIn
import Derived.LoopIn
import Derived.Laws.EntriesVeiled
namespace Go.Proofs.YtcmahpddjggcaaaGreatDoor
open Go Go.RowKit
set_option maxHeartbeats 1000000
set_option maxRecDepth 100000
attribute [local go_sem] Oper.semAt_some

mutual
/-- A value and all in it, with how deep each lies. -/
def V.pre : V → Int → List (Int × V)
  | .mk k b n t ks l, d => (d, .mk k b n t ks l) :: V.pres l (d + 1)
def V.pres : List V → Int → List (Int × V)
  | [], _ => []
  | x :: xs, d => V.pre x d ++ V.pres xs d
end
theorem V.pre_eq (v : V) (d : Int) : v.pre d = (d, v) :: V.pres v.list (d + 1) := by cases v; simp only [V.pre, V.list]
theorem V.pres_eq (l : List V) (d : Int) : V.pres l d = l.flatMap fun x => x.pre d := by
  induction l with
  | nil => rfl
  | cons x xs ih => simp only [V.pres, ih, List.flatMap_cons]
theorem V.pres_snoc {l : List V} {k : Nat} {x : V} (h : l[k]? = some x) (d : Int) : V.pres (l.take (k + 1)) d = V.pres (l.take k) d ++ x.pre d := by
  rw [take_snoc' h, V.pres_eq, V.pres_eq, List.flatMap_append]; simp

theorem V.pres_split {l : List V} {k : Nat} {x : V} (h : l[k]? = some x) (d : Int) : V.pres l d = V.pres (l.take k) d ++ x.pre d ++ V.pres (l.drop (k + 1)) d := by
  rw [← V.pres_snoc h, V.pres_eq, V.pres_eq, V.pres_eq, ← List.flatMap_append, List.take_append_drop]
theorem V.pres_prefix {l : List V} {k : Nat} {x : V} (h : l[k]? = some x) (d : Int) {q : List (Int × V)} (hq : q <+: x.pre d) : V.pres (l.take k) d ++ q <+: V.pres l d := by
  rw [V.pres_split h]
  exact (List.prefix_append_right_inj _ |>.2 hq).trans (List.prefix_append _ _)
theorem V.pres_len {l : List V} {k : Nat} {x : V} (h : l[k]? = some x) (d : Int) : (V.pres (l.take k) d).length + (x.pre d).length ≤ (V.pres l d).length := by
  rw [V.pres_split h, List.length_append, List.length_append]; omega

/-- What a round is handed: how deep, the value, its cells, in a world that stays below B. -/
def Item (B : Nat) (w0 : World) : Type := { p : (Int × V) × List Value // V.ty.rep (fun b => b < B) w0 p.1.2 p.2 ∧ p.1.2.size ≤ BIG ∧ 1 ≤ p.1.1 ∧ p.1.1 ≤ BIG }
def Item.enc {B : Nat} {w0 : World} (x : Item B w0) : Array Value := #[.int .i64 x.1.1.1, .agg x.1.2.toArray]
def Item.pr {B : Nat} {w0 : World} (x : Item B w0) : Int × V := x.1.1

/-- What a round that goes on keeps: what lay below B, and all cells from M on. -/
structure Kept (B M : Nat) (W W' : World) : Prop where
  below : Below B W W'
  cells : ∀ b o, M ≤ b → W.heap[b]? = some o → o.isCells = true → W'.heap[b]? = some o
theorem Kept.trans {B M : Nat} {X Y Z : World} (h : Kept B M X Y) (k : Kept B M Y Z) : Kept B M X Z := ⟨h.below.trans k.below, fun b _ hb ho hc => k.cells b _ hb (h.cells b _ hb ho hc) hc⟩
theorem Kept.refl (B M : Nat) (W : World) : Kept B M W W := ⟨Below.refl _ _, fun _ _ _ h _ => h⟩
theorem Kept.of_below {B M : Nat} {W W' : World} (hB : B ≤ W.heap.size) (h : Below W.heap.size W W') : Kept B M W W' := ⟨h.mono hB, fun b _ _ ho _ => (h.block b (Array.getElem?_eq_some_iff.1 ho).1).trans ho⟩
theorem Kept.blk {B M : Nat} {W W' : World} {n : Nat} {cs : List Value} {T : TypeId} (h : Kept B M W W') (hn : M ≤ n) (hb : Blk W n cs T) : Blk W' n cs T := h.cells n _ hn hb rfl
theorem Kept.putObj {B M : Nat} (W : World) (l : Nat) (o o' : Obj) (hB : B ≤ l) (hl : W.heap[l]? = some o) (ho : o.isCells = false) : Kept B M W (W.putObj l o') := by
  refine ⟨⟨rfl, rfl, rfl, by simp, fun k hk => World.putObj_heap_other (by omega)⟩, fun b o2 _ h2 hc => ?_⟩
  rw [World.putObj_heap_other (fun e => by subst e; rw [hl] at h2; cases h2; rw [ho] at hc; cases hc)]
  exact h2

theorem grown_none {W W' : World} (h : Below W.heap.size W W') : W.grownBy W' none := grownBy_of_below h

def GoesPost {B M : Nat} {w0 : World} (J Jx : List (Item B w0) → World → Prop) (pre : List (Item B w0)) (it : List (Int × V)) (W : World) (e : Ending) (W' : World) : Prop :=
  (e = .returned (.bool true) ∧ (∃ ys : List (Item B w0), ys.map Item.pr = it ∧ J (pre ++ ys) W') ∧ Kept B M W W') ∨ (e = .returned (.bool false) ∧ ∃ ys : List (Item B w0), ys.map Item.pr <+: it ∧ Jx (pre ++ ys) W')

theorem goes_in (B M : Nat) (w0 : World) (l by_ bg N Wb : Nat) (J Jx : List (Item B w0) → World → Prop) (hJ : AbidesFrom Wb J) (hMy : M ≤ by_) (hMg : M ≤ bg) (hB0 : B ≤ w0.heap.size)
    (hY : ∀ m pre x W, J pre W → pre.length < N → YieldAt Fence.wide m Tryz.prog l (Item.enc x) W fun e W' => (e = .returned (.bool true) ∧ J (pre ++ [x]) W' ∧ Kept B M W W') ∨ (e = .returned (.bool false) ∧ Jx (pre ++ [x]) W')) :
    ∀ (v : V) (n : Nat) (d : Int) (cs : List Value) (pre : List (Item B w0)) (W : World), V.ty.rep (fun b => b < B) w0 v cs → v.size ≤ BIG → 1 ≤ d → d + v.size ≤ BIG → Below B w0 W →
      Blk W by_ [.func (.yield l) #[] #[]] 311 → Blk W bg [.func (.func 254) #[] #[.pointer (some ⟨by_, 0, none⟩), .pointer (some ⟨bg, 0, none⟩)]] 312 → J pre W → pre.length + (v.pre d).length ≤ N →
      CallsIn Fence.wide n Tryz.prog 254 #[.agg cs.toArray, .int .i64 d, .pointer (some ⟨by_, 0, none⟩), .pointer (some ⟨bg, 0, none⟩)] W (GoesPost (M := M) J Jx pre (v.pre d) W) := by
  intro v
  induction v using V.ind with
  | h k bo nn t ks vs ih =>
    intro n d cs pre W hrep hs hd1 hd hBW hby hbg hJ0 hN
    obtain ⟨A1, c1, A2, c2, rfl, h1, h2, h3, h4⟩ := V.rep_open hrep
    simp only [V.kind, V.bool, V.int, V.text, V.keys, V.list] at h1 h2 h3 h4 ⊢
    obtain ⟨x, hyx, hxp⟩ : ∃ x : Item B w0, Item.enc x = #[.int .i64 d, .agg #[.int .i64 k, .bool bo, .int .i64 nn, .string t, .slice A1 ks.length c1, .slice A2 vs.length c2]] ∧ Item.pr x = (d, .mk k bo nn t ks vs) :=
      ⟨⟨((d, .mk k bo nn t ks vs), [.int .i64 k, .bool bo, .int .i64 nn, .string t, .slice A1 ks.length c1, .slice A2 vs.length c2]), hrep, hs, hd1, by show d ≤ _; omega⟩, rfl, rfl⟩
    have HXP := Lib.hid hxp
    clear hxp
    have hBl : Below W.heap.size W (W.alloc (.cells #[.int .i64 k, .bool bo, .int .i64 nn, .string t, .slice A1 ks.length c1, .slice A2 vs.length c2] 26)) := below_alloc' (Below.refl _ _) (Nat.le_refl _) _
    have hJ1 : J pre (W.alloc (.cells #[.int .i64 k, .bool bo, .int .i64 nn, .string t, .slice A1 ks.length c1, .slice A2 vs.length c2] 26)) := hJ _ _ _ none hJ0 (grown_none hBl) (fun r e => by cases e)
    have hy0 := hY (n - 1) pre x _ hJ1 (by rw [V.pre_eq] at hN; simp at hN; omega)
    have hBW0 : B ≤ W.heap.size := Nat.le_trans hB0 hBW.size
    rw [hyx] at hy0
    obtain ⟨fn, tmps, assign, body, hy, hR⟩ := hy0
    have x1 := (hby.below hBl)
    have x2 := (hbg.below hBl)
    obtain ⟨y1, _⟩ := x1.rd
    obtain ⟨y2, _⟩ := x2.rd
    have HR := Lib.hid hR
    clear hR hyx
    have hdd : ∀ k : Nat, (Fence.wide.depth.isSome = true → 1 ≤ k) := fun k h => by cases h
    refine callsIn_of_wp Tryz.func254 rfl trivial ?_ rfl
    simp only [Tryz.ntmps254, List.size_toArray, List.length_cons, List.length_nil, Nat.reduceAdd, Nat.reduceSub, Array.replicate_succ, Array.replicate_zero, List.push_toArray, List.append_toArray, List.nil_append, List.cons_append]
    gi_wp2_with fail
    refine ⟨hdd _, ?_⟩
    refine HR.out.mono ?_
    clear HR
    rintro e W2 (⟨rfl, hJ2, hk2⟩ | ⟨rfl, hx2⟩)
    · have hMW : M ≤ W.heap.size := by have := hbg.lt; omega
      have hk1 := (Kept.of_below (M := M) hBW0 hBl).trans hk2
      have b1 := hk1.blk hMy hby
      have b2 := hk1.blk hMg hbg
      have b3 := hk2.blk hMW (Blk.new W [.int .i64 k, .bool bo, .int .i64 nn, .string t, .slice A1 ks.length c1, .slice A2 vs.length c2] 26)
      obtain ⟨z3, _⟩ := b3.rd
      have hJ2' : ∃ ys : List (Item B w0), ys.map Item.pr = V.pres (vs.take 0) (d + 1) ∧ J (pre ++ x :: ys) W2 := ⟨[], by simp [V.pres], hJ2⟩
      have HJ2 := Lib.hid hJ2'
      clear hJ2 hJ2' y1 y2 x1 x2 hJ0 hJ1 hk2 hby hbg
      have hsz := V.size_eq k bo nn t ks vs
      have hvl := V.sumBy_len (f := V.size) V.size_pos vs
      have hlen : (vs.length : Int) ≤ 9223372036854775807 := by rw [BIG_eq] at hs; omega
      have HN := Lib.hid hN
      have HS := Lib.hid hsz
      have HD := Lib.hid hd
      clear hN hsz hd
      have hdb : d ≤ 1073741824 := by have := HD.out; rw [BIG_eq] at this; omega
      have hB2 : Below B w0 W2 := hBW.trans hk1.below
      have hih := Lib.hid ih
      have hMs : M ≤ W2.heap.size := Nat.le_trans hMW hk1.below.size
      clear ih
      gi_wp2_with fail
      gi_loopw [17] (fun i wr => ∃ j : Nat, j ≤ vs.length ∧ i = .int .i64 j ∧ Hid (∃ ys : List (Item B w0), ys.map Item.pr = V.pres (vs.take j) (d + 1) ∧ J (pre ++ x :: ys) wr) ∧ Kept B M W2 wr) (fun i _ => vs.length - (intOf i).toNat)
      case atStart => exact ⟨0, Nat.zero_le _, rfl, HJ2, Kept.refl _ _ _⟩
      case round =>
        obtain ⟨j, hj, rfl, HJ, hkr⟩ := hrel
        have e1 := hkr.blk hMy b1
        have e2 := hkr.blk hMg b2
        have e3 := hkr.blk hMW b3
        have hBr : Below B w0 wr := hB2.trans hkr.below
        have hBs : B ≤ wr.heap.size := Nat.le_trans hB0 hBr.size
        by_cases hlt : j < vs.length
        · obtain ⟨u, hu, hum⟩ := get_some hlt
          obtain ⟨b, off, cs, rfl, hIb, hbl, hcs, hat⟩ := h4.get hu
          have hcs0 := hcs
          obtain ⟨D1, d1, D2, d2, rfl, _, _, _, _⟩ := V.rep_open hcs
          obtain ⟨g0, g1, g2, g3, g4, g5⟩ := (hat.below hIb hBr).six
          obtain ⟨f2, _, l2⟩ := e2.facts
          have hus : u.size ≤ V.sumBy V.size vs := V.sumBy_mem hum
          have HP := Lib.hid (V.pres_snoc hu (d + 1))
          have HPL := Lib.hid (V.pres_len hu (d + 1))
          have HPX := Lib.hid (fun q => V.pres_prefix (q := q) hu (d + 1))
          have hBa : Below wr.heap.size wr (wr.alloc (.cells #[.int .i64 u.kind, .bool u.bool, .int .i64 u.int, .string u.text, .slice D1 u.keys.length d1, .slice D2 u.list.length d2] 26)) := below_alloc' (Below.refl _ _) (Nat.le_refl _) _
          clear hat hu hcs
          gi_wp2_with fail
          obtain ⟨ys, hys, hJy⟩ := HJ.out
          refine ⟨trivial, hdd _, ?_⟩
          refine (hih.out u hum _ _ _ (pre ++ x :: ys) _ hcs0 (by have := HS.out; omega) (by omega) (by have := HS.out; have := HD.out; omega) (hBr.trans (hBa.mono hBs)) (e1.below hBa) (e2.below hBa) (hJ _ _ _ none hJy (grown_none hBa) (fun r e => by cases e)) ?_).mono ?_
          · have h1 := HN.out
            have h2 := HPL.out
            have h3 : ys.length = (V.pres (vs.take j) (d + 1)).length := by rw [← hys, List.length_map]
            rw [V.pre_eq] at h1
            simp only [List.length_append, List.length_cons, V.list] at h1 ⊢
            omega
          rintro e W4 (⟨rfl, ⟨zs, hzs, hJz⟩, hk4⟩ | ⟨rfl, zs, hzs, hxz⟩)
          · have hJz' : ∃ ys : List (Item B w0), ys.map Item.pr = V.pres (vs.take (j + 1)) (d + 1) ∧ J (pre ++ x :: ys) W4 := ⟨ys ++ zs, by rw [List.map_append, hys, hzs, HP.out], by simpa using hJz⟩
            have HJz := Lib.hid hJz'
            have hk5 := hkr.trans ((Kept.of_below (M := M) hBs hBa).trans hk4)
            clear hJz hJz' hys hzs hJy
            gi_wp2_with fail
            go_roundw
            case rel => exact ⟨j + 1, by omega, by go_num, HJz, hk5⟩
            case measure => simp [intOf]; omega
          · have hfin : ∃ qs : List (Item B w0), qs.map Item.pr <+: (V.mk k bo nn t ks vs).pre d ∧ Jx (pre ++ qs) W4 := by
              refine ⟨x :: (ys ++ zs), ?_, by simpa using hxz⟩
              rw [V.pre_eq, List.map_cons, List.map_append, hys, HXP.out]
              exact List.cons_prefix_cons.2 ⟨rfl, HPX.out _ hzs⟩
            have HF := Lib.hid hfin
            clear hfin hys hzs hJy hxz
            gi_wp2_with fail
            go_ret
            exact .inr ⟨rfl, HF.out⟩
        · have hjl : j = vs.length := by omega
          have HT := Lib.hid (show vs.take j = vs by rw [hjl, List.take_length])
          clear hjl
          gi_wp2_with fail
          go_ret
          obtain ⟨ys, hys, hJy⟩ := HJ.out
          exact .inl ⟨rfl, ⟨x :: ys, by rw [List.map_cons, hys, HXP.out, HT.out, V.pre_eq]; rfl, hJy⟩, hk1.trans hkr⟩
    · have hfin : ∃ qs : List (Item B w0), qs.map Item.pr <+: (V.mk k bo nn t ks vs).pre d ∧ Jx (pre ++ qs) W2 :=
        ⟨[x], by rw [V.pre_eq, List.map_cons, HXP.out]; exact List.cons_prefix_cons.2 ⟨rfl, List.nil_prefix⟩, hx2⟩
      have HF := Lib.hid hfin
      clear hfin hx2
      gi_wp2_with fail
      go_ret
      exact .inr ⟨rfl, HF.out⟩
theorem all1_stops (B M : Nat) (w0 w : World) (n bv : Nat) (v : V) (cs : List Value) (hrep : V.ty.rep (fun b => b < B) w0 v cs) (hs : v.size + 1 ≤ BIG) (hB0 : B ≤ w0.heap.size) (hBw : Below B w0 w) (hbv : Blk w bv cs 26) (hM : M ≤ w.heap.size) :
    SeqStopsK Fence.wide n Tryz.prog 253 #[.pointer (some ⟨bv, 0, none⟩)] (Item.enc (B := B) (w0 := w0)) (Kept B M) (fun ys => ys.map Item.pr = v.pre 1) (fun ys => ys.map Item.pr <+: v.pre 1) (v.pre 1).length w := by
  intro l J Jx W hwW hJ hJx hY hJ0
  have hBs : B ≤ W.heap.size := Nat.le_trans (Nat.le_trans hB0 hBw.size) hwW.size
  have hB1 : Below B w0 W := hBw.trans (hwW.mono (Nat.le_trans hB0 hBw.size))
  have hb1 := hbv.below hwW
  obtain ⟨A1, c1, A2, c2, rfl, h1, h2, h3, h4⟩ := V.rep_open hrep
  obtain ⟨y1, _, l1⟩ := hb1.facts
  have hdd : ∀ k : Nat, (Fence.wide.depth.isSome = true → 1 ≤ k) := fun k h => by cases h
  have hg : Below W.heap.size W ((W.alloc (.cells #[.func (.yield l) #[] #[]] 311)).alloc (.cells #[.func (.func 254) #[] #[.pointer (some ⟨W.heap.size, 0, none⟩), .pointer (some ⟨W.heap.size + 1, 0, none⟩)]] 312)) :=
    ((Below.refl _ W).alloc (Nat.le_refl _) _).alloc (by simp) _
  have k1 : Blk ((W.alloc (.cells #[.func (.yield l) #[] #[]] 311)).alloc (.cells #[.func (.func 254) #[] #[.pointer (some ⟨W.heap.size, 0, none⟩), .pointer (some ⟨W.heap.size + 1, 0, none⟩)]] 312)) W.heap.size [.func (.yield l) #[] #[]] 311 :=
    (Blk.new W [.func (.yield l) #[] #[]] _).alloc _
  have k2 : Blk ((W.alloc (.cells #[.func (.yield l) #[] #[]] 311)).alloc (.cells #[.func (.func 254) #[] #[.pointer (some ⟨W.heap.size, 0, none⟩), .pointer (some ⟨W.heap.size + 1, 0, none⟩)]] 312)) (W.heap.size + 1) [.func (.func 254) #[] #[.pointer (some ⟨W.heap.size, 0, none⟩), .pointer (some ⟨W.heap.size + 1, 0, none⟩)]] 312 := by
    have := Blk.new (W.alloc (.cells #[.func (.yield l) #[] #[]] 311)) [.func (.func 254) #[] #[.pointer (some ⟨W.heap.size, 0, none⟩), .pointer (some ⟨W.heap.size + 1, 0, none⟩)]] 312
    rw [World.size_alloc] at this
    exact this
  have hcall := goes_in B M w0 l W.heap.size (W.heap.size + 1) (v.pre 1).length W.heap.size J Jx hJ (Nat.le_trans hM hwW.size) (by have := hwW.size; omega) hB0
    (fun m pre x W1 hj hl => by obtain ⟨fn, tmps, assign, body, hy, hR⟩ := hY pre x W1 hj hl; exact ⟨fn, tmps, assign, body, hy, ⟨hR.1, fun c cs _ => hR.2 c cs (fun d h => by cases h)⟩⟩)
    v (n - 1) 1 _ [] _ hrep (by omega) (by omega) (by omega) (hB1.trans (hg.mono hBs)) k1 k2 (hJ _ _ _ none hJ0 (grown_none hg) (fun r e => by cases e)) (by simp)
  clear hY hg k1 k2 hrep h3 h4 hJ0
  have HC := Lib.hid hcall
  clear hcall
  refine callsIn_of_wp Tryz.func253 rfl trivial ?_ rfl
  simp only [Tryz.ntmps253, List.size_toArray, List.length_cons, List.length_nil, Nat.reduceAdd, Nat.reduceSub, Array.replicate_succ, Array.replicate_zero, List.push_toArray, List.append_toArray, List.nil_append, List.cons_append]
  gi_wp2_with fail
  refine ⟨trivial, hdd _, ?_⟩
  refine HC.out.mono ?_
  clear HC
  rintro e W4 (⟨rfl, ⟨zs, hzs, hJz⟩, hk4⟩ | ⟨rfl, zs, hzs, hxz⟩)
  · have HZ := Lib.hid hzs
    clear hzs
    gi_wp2_with fail
    go_end0
    exact ⟨⟨_, rfl⟩, .inl ⟨zs, HZ.out, by simpa using hJz⟩⟩
  · have HZ := Lib.hid hzs
    clear hzs
    gi_wp2_with fail
    go_end0
    exact ⟨⟨_, rfl⟩, .inr ⟨zs, HZ.out, by simpa using hxz⟩⟩

theorem all_any (cs : List Value) (A1 A2 A3 A4 A5 A6 : Value) (w : World) (hcs : cs = [A1, A2, A3, A4, A5, A6]) :
    Calls Tryz.prog 181 #[.agg cs.toArray] w fun e w' => e = .returned (.func (.func 253) #[] #[.pointer (some ⟨w.heap.size, 0, none⟩)]) ∧ w' = w.alloc (.cells cs.toArray 26) := by
  subst hcs
  go_enter Tryz.func181, Tryz.ntmps181
  go_wp2_with fail
  go_ret
  exact ⟨rfl, rfl⟩
end Go.Proofs.YtcmahpddjggcaaaGreatDoor
