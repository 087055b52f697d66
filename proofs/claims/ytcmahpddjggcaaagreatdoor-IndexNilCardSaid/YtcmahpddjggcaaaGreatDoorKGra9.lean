/- graph: sizes. -/
import Derived.Test.YtcmahpddjggcaaaGreatDoorKGra6
import Derived.Test.YtcmahpddjggcaaaGreatDoorKGra7
namespace Go.Proofs.YtcmahpddjggcaaaGreatDoor
open Go Go.RowKit
set_option maxHeartbeats 4000000
set_option maxRecDepth 100000
def sizesOk (g : GraphD) : Bool := decide ((g.nodes.length : Int) + g.rels.length ≤ 65536) && decide (0 ≤ g.nextNode) && decide (g.nextNode ≤ 4611686018427387904) && decide (0 ≤ g.nextRel) && decide (g.nextRel ≤ 4611686018427387904)
theorem sizes_any (g : GraphD) (I : Nat → Prop) (w : World) (cs : List Value) (h : GraphD.ty.rep I w g cs) (hln : g.nodes.length ≤ BIG) (hl : g.rels.length ≤ BIG) :
    Calls Tryz.prog 160 #[.agg cs.toArray] w fun e w' => e = .returned (.bool (sizesOk g)) ∧ Below w.heap.size w w' := by
  obtain ⟨A1, c1, A2, c2, rfl, k1, k2, h2, h1⟩ := GraphD.rep_open h
  have HX := Lib.hid (show sizesOk g = (decide ((g.nodes.length : Int) + g.rels.length ≤ 65536) && decide (0 ≤ g.nextNode) && decide (g.nextNode ≤ 4611686018427387904) && decide (0 ≤ g.nextRel) && decide (g.nextRel ≤ 4611686018427387904)) from rfl)
  generalize sizesOk g = r at *
  have hl1 : (g.nodes.length : Int) ≤ 1073741824 := by rw [BIG_eq] at hln; omega
  have hl2 : (g.rels.length : Int) ≤ 1073741824 := by rw [BIG_eq] at hl; omega
  have hB0 := below_alloc' (Below.refl w.heap.size w) (Nat.le_refl _) (.cells #[.slice A1 g.nodes.length c1, .slice A2 g.rels.length c2, .int .i64 g.nextNode, .int .i64 g.nextRel] 56)
  clear h h1 h2
  by_cases p1 : (g.nodes.length : Int) + g.rels.length ≤ 65536
  case neg =>
    have HT := Lib.hid (show r = false by rw [HX.out, decide_eq_false p1]; rfl)
    have q1 : decide ((g.nodes.length : Int) + g.rels.length ≤ 65536) = false := decide_eq_false p1
    go_enter Tryz.func160, Tryz.ntmps160
    go_wp2_with fail
    go_ret
    exact ⟨by rw [HT.out]; rfl, hB0⟩
  have q1 : decide ((g.nodes.length : Int) + g.rels.length ≤ 65536) = true := decide_eq_true p1
  by_cases p2 : 0 ≤ g.nextNode
  case neg =>
    have q2 : decide (0 ≤ g.nextNode) = false := decide_eq_false p2
    have HT := Lib.hid (show r = false by rw [HX.out, q1, q2]; rfl)
    go_enter Tryz.func160, Tryz.ntmps160
    go_wp2_with fail
    go_ret
    exact ⟨by rw [HT.out]; rfl, hB0⟩
  have q2 : decide (0 ≤ g.nextNode) = true := decide_eq_true p2
  by_cases p3 : g.nextNode ≤ 4611686018427387904
  case neg =>
    have q3 : decide (g.nextNode ≤ 4611686018427387904) = false := decide_eq_false p3
    have HT := Lib.hid (show r = false by rw [HX.out, q1, q2, q3]; rfl)
    go_enter Tryz.func160, Tryz.ntmps160
    go_wp2_with fail
    go_ret
    exact ⟨by rw [HT.out]; rfl, hB0⟩
  have q3 : decide (g.nextNode ≤ 4611686018427387904) = true := decide_eq_true p3
  by_cases p4 : 0 ≤ g.nextRel
  case neg =>
    have q4 : decide (0 ≤ g.nextRel) = false := decide_eq_false p4
    have HT := Lib.hid (show r = false by rw [HX.out, q1, q2, q3, q4]; rfl)
    go_enter Tryz.func160, Tryz.ntmps160
    go_wp2_with fail
    go_ret
    exact ⟨by rw [HT.out]; rfl, hB0⟩
  have q4 : decide (0 ≤ g.nextRel) = true := decide_eq_true p4
  by_cases p5 : g.nextRel ≤ 4611686018427387904
  · have q5 : decide (g.nextRel ≤ 4611686018427387904) = true := decide_eq_true p5
    have HT := Lib.hid (show r = true by rw [HX.out, q1, q2, q3, q4, q5]; rfl)
    go_enter Tryz.func160, Tryz.ntmps160
    go_wp2_with fail
    go_ret
    exact ⟨by rw [HT.out]; rfl, hB0⟩
  · have q5 : decide (g.nextRel ≤ 4611686018427387904) = false := decide_eq_false p5
    have HT := Lib.hid (show r = false by rw [HX.out, q1, q2, q3, q4, q5]; rfl)
    go_enter Tryz.func160, Tryz.ntmps160
    go_wp2_with fail
    go_ret
    exact ⟨by rw [HT.out]; rfl, hB0⟩
end Go.Proofs.YtcmahpddjggcaaaGreatDoor
/- graph.Check. -/
namespace Go.Proofs.YtcmahpddjggcaaaGreatDoor
open Go Go.RowKit
set_option maxHeartbeats 4000000
set_option maxRecDepth 100000
def GraphD.check (g : GraphD) : Int := if sizesOk g && nodesOk g.nodes g.nextNode && relsOk g.nodes g.rels g.nextRel then 0 else 2
theorem rising_of {l : List NodeD} {next : Int} (h : nodesOk l next = true) : Rising l := by
  have h1 : ∀ k, k < l.length → nodeIn l next k = true := fun k hk => by
    simp only [nodesOk, List.all_eq_true, List.mem_range] at h; exact h k hk
  have h2 : ∀ k, k + 1 < l.length → (nAt l k).id < (nAt l (k + 1)).id := fun k hk => by
    have := h1 (k + 1) hk
    simp only [nodeIn, Bool.and_eq_true, Bool.or_eq_true, decide_eq_true_eq, Nat.add_sub_cancel] at this
    rcases this.2 with h | h
    · simp at h
    · exact h
  intro i j hij hj
  induction j with
  | zero => omega
  | succ j ih =>
    rcases Nat.lt_or_ge i j with h3 | h3
    · exact Int.lt_trans (ih h3 (by omega)) (h2 j hj)
    · obtain rfl : i = j := by omega
      exact h2 i hj
theorem gcheck_any (g : GraphD) (I : Nat → Prop) (w : World) (cs : List Value) (h : GraphD.ty.rep I w g cs) (hln : g.nodes.length ≤ BIG) (hlr : g.rels.length ≤ BIG) (hsn : ∀ n, n ∈ g.nodes → n.size ≤ BIG) (hsr : ∀ n, n ∈ g.rels → n.size ≤ BIG) (hT : Tabs w) :
    Calls Tryz.prog 67 #[.agg cs.toArray] w fun e w' => e = .returned (.int .i64 g.check) ∧ Below w.heap.size w w' := by
  have hrg := GraphD.ty.lt h
  obtain ⟨A1, c1, A2, c2, rfl, k1, k2, h1, h2⟩ := GraphD.rep_open h
  have es := enters_of Tryz.func160 (by kernel_rfl) rfl
  have en := enters_of Tryz.func161 (by kernel_rfl) rfl
  have er := enters_of Tryz.func162 (by kernel_rfl) rfl
  have HS := Lib.hid (fun (W : World) (hW : Below w.heap.size w W) => sizes_any g _ W _ (GraphD.ty.belowB (fun _ hb => hb.2) hW hrg) hln hlr)
  have HN := Lib.hid (fun (W : World) (hW : Below w.heap.size w W) => nodes_any g _ W _ (GraphD.ty.belowB (fun _ hb => hb.2) hW hrg) hln hsn (hT.below hW))
  have HR := Lib.hid (fun (W : World) (hW : Below w.heap.size w W) (hr : nodesOk g.nodes g.nextNode = true) => rels_any g _ W _ (GraphD.ty.belowB (fun _ hb => hb.2) hW hrg) hln hlr hsr (rising_of hr) (hT.below hW))
  have HE := Lib.hid (show g.check = if sizesOk g && nodesOk g.nodes g.nextNode && relsOk g.nodes g.rels g.nextRel then 0 else 2 from rfl)
  generalize g.check = r at *
  have hB2 : Below w.heap.size w ((w.alloc (.cells #[.slice A1 g.nodes.length c1, .slice A2 g.rels.length c2, .int .i64 g.nextNode, .int .i64 g.nextRel] 56)).alloc (.cells #[.func (.func 160) #[] #[], .func (.func 161) #[] #[], .func (.func 162) #[] #[]] 60)) := below_alloc' (below_alloc' (Below.refl _ _) (Nat.le_refl _) _) (Nat.le_refl _) _
  have b0 : Blk ((w.alloc (.cells #[.slice A1 g.nodes.length c1, .slice A2 g.rels.length c2, .int .i64 g.nextNode, .int .i64 g.nextRel] 56)).alloc (.cells #[.func (.func 160) #[] #[], .func (.func 161) #[] #[], .func (.func 162) #[] #[]] 60)) w.heap.size [.slice A1 g.nodes.length c1, .slice A2 g.rels.length c2, .int .i64 g.nextNode, .int .i64 g.nextRel] 56 := (Blk.new w [.slice A1 g.nodes.length c1, .slice A2 g.rels.length c2, .int .i64 g.nextNode, .int .i64 g.nextRel] 56).alloc _
  have b1 : Blk ((w.alloc (.cells #[.slice A1 g.nodes.length c1, .slice A2 g.rels.length c2, .int .i64 g.nextNode, .int .i64 g.nextRel] 56)).alloc (.cells #[.func (.func 160) #[] #[], .func (.func 161) #[] #[], .func (.func 162) #[] #[]] 60)) (w.heap.size + 1) [.func (.func 160) #[] #[], .func (.func 161) #[] #[], .func (.func 162) #[] #[]] 60 := by have := Blk.new (w.alloc (.cells #[.slice A1 g.nodes.length c1, .slice A2 g.rels.length c2, .int .i64 g.nextNode, .int .i64 g.nextRel] 56)) [.func (.func 160) #[] #[], .func (.func 161) #[] #[], .func (.func 162) #[] #[]] 60; simpa using this
  clear h h1 h2 hrg
  go_enter Tryz.func67, Tryz.ntmps67
  go_wp2_with fail
  generalize (w.alloc (.cells #[.slice A1 g.nodes.length c1, .slice A2 g.rels.length c2, .int .i64 g.nextNode, .int .i64 g.nextRel] 56)).alloc (.cells #[.func (.func 160) #[] #[], .func (.func 161) #[] #[], .func (.func 162) #[] #[]] 60) = W0 at *
  go_loopw [7] (fun i wr => ∃ k : Nat, k ≤ 3 ∧ i = .int .i64 k ∧ Hid ((1 ≤ k → sizesOk g = true) ∧ (2 ≤ k → nodesOk g.nodes g.nextNode = true) ∧ (3 ≤ k → relsOk g.nodes g.rels g.nextRel = true)) ∧ Below W0.heap.size W0 wr) (fun i _ => 3 - (intOf i).toNat)
  case atStart => exact ⟨0, by omega, rfl, Lib.hid ⟨fun h => by omega, fun h => by omega, fun h => by omega⟩, Below.refl _ _⟩
  case round =>
    obtain ⟨k, hk, rfl, HK, hB⟩ := hrel
    obtain ⟨y0, z0, l0⟩ := (b0.below hB).facts
    obtain ⟨y1, z1, l1⟩ := (b1.below hB).facts
    have hBw := below_call hB2 hB2.size hB
    have hk3 : k = 0 ∨ k = 1 ∨ k = 2 ∨ k = 3 := by omega
    rcases hk3 with rfl | rfl | rfl | rfl
    · have HC := Lib.hid (HS.out wr hBw)
      obtain ⟨q, HQ⟩ : ∃ q, Hid (sizesOk g = q) := ⟨_, Lib.hid rfl⟩
      rw [HQ.out] at HC
      cases q with
      | true =>
        go_wp2_with fail
        refine HC.out.mono ?_
        rintro e w1 ⟨rfl, hb1⟩
        go_wp2_with fail
        go_roundw
        case rel => exact ⟨1, by omega, by go_num, Lib.hid ⟨fun _ => HQ.out, fun h => by omega, fun h => by omega⟩, below_call hB hB.size hb1⟩
        case measure => simp [intOf]
      | false =>
        have HT := Lib.hid (show r = 2 by rw [HE.out, HQ.out]; rfl)
        go_wp2_with fail
        refine HC.out.mono ?_
        rintro e w1 ⟨rfl, hb1⟩
        go_wp2_with fail
        go_ret
        exact ⟨by rw [HT.out]; rfl, below_call hBw hBw.size hb1⟩
    · have HC := Lib.hid (HN.out wr hBw)
      obtain ⟨q, HQ⟩ : ∃ q, Hid (nodesOk g.nodes g.nextNode = q) := ⟨_, Lib.hid rfl⟩
      rw [HQ.out] at HC
      cases q with
      | true =>
        go_wp2_with fail
        refine HC.out.mono ?_
        rintro e w1 ⟨rfl, hb1⟩
        go_wp2_with fail
        go_roundw
        case rel => exact ⟨2, by omega, by go_num, Lib.hid ⟨fun _ => HK.out.1 (by omega), fun _ => HQ.out, fun h => by omega⟩, below_call hB hB.size hb1⟩
        case measure => simp [intOf]
      | false =>
        have HT := Lib.hid (show r = 2 by rw [HE.out, HQ.out]; simp)
        go_wp2_with fail
        refine HC.out.mono ?_
        rintro e w1 ⟨rfl, hb1⟩
        go_wp2_with fail
        go_ret
        exact ⟨by rw [HT.out]; rfl, below_call hBw hBw.size hb1⟩
    · have HC := Lib.hid (HR.out wr hBw (HK.out.2.1 (by omega)))
      obtain ⟨q, HQ⟩ : ∃ q, Hid (relsOk g.nodes g.rels g.nextRel = q) := ⟨_, Lib.hid rfl⟩
      rw [HQ.out] at HC
      cases q with
      | true =>
        go_wp2_with fail
        refine HC.out.mono ?_
        rintro e w1 ⟨rfl, hb1⟩
        go_wp2_with fail
        go_roundw
        case rel => exact ⟨3, by omega, by go_num, Lib.hid ⟨fun _ => HK.out.1 (by omega), fun _ => HK.out.2.1 (by omega), fun _ => HQ.out⟩, below_call hB hB.size hb1⟩
        case measure => simp [intOf]
      | false =>
        have HT := Lib.hid (show r = 2 by rw [HE.out, HQ.out]; simp)
        go_wp2_with fail
        refine HC.out.mono ?_
        rintro e w1 ⟨rfl, hb1⟩
        go_wp2_with fail
        go_ret
        exact ⟨by rw [HT.out]; rfl, below_call hBw hBw.size hb1⟩
    · have HT := Lib.hid (show r = 0 by rw [HE.out, HK.out.1 (by omega), HK.out.2.1 (by omega), HK.out.2.2 (by omega)]; rfl)
      go_wp2_with fail
      go_ret
      exact ⟨by rw [HT.out]; rfl, hBw⟩
end Go.Proofs.YtcmahpddjggcaaaGreatDoor
