/- graph: props, node, rel. -/
import Derived.Test.YtcmahpddjggcaaaGreatDoorKGra3
namespace Go.Proofs.YtcmahpddjggcaaaGreatDoor
open Go Go.RowKit
set_option maxHeartbeats 4000000
set_option maxRecDepth 100000

def propOk (p : PropD) : Bool := wName p.key && p.val.storable
def propsOk (l : List PropD) : Bool := l.all propOk && rises (l.map PropD.key)
theorem all_of {α : Type} {p : α → Bool} {l : List α} {k : Nat} (h : ∀ j x, j < k → l[j]? = some x → p x = true) (hk : l.length ≤ k) : l.all p = true := by
  rw [List.all_eq_true]
  intro x hx
  obtain ⟨j, hj, he⟩ := List.getElem_of_mem hx
  exact h j x (by omega) (by rw [List.getElem?_eq_getElem hj, he])
theorem all_not {α : Type} {p : α → Bool} {l : List α} {x : α} (hx : x ∈ l) (h : p x = false) : l.all p = false := by
  rw [List.all_eq_false]
  exact ⟨x, hx, by rw [h]; simp⟩
theorem upto_step {α : Type} {p : α → Bool} {l : List α} {k : Nat} {x : α} (h : ∀ j x, j < k → l[j]? = some x → p x = true) (hx : l[k]? = some x) (hp : p x = true) : ∀ j y, j < k + 1 → l[j]? = some y → p y = true := by
  intro j y hj hy
  rcases Nat.lt_or_ge j k with hh | hh
  · exact h j y hh hy
  · obtain rfl : j = k := by omega
    rw [hx] at hy; injection hy with hy; rw [← hy]; exact hp
theorem props_any (l : List PropD) (I : Nat → Prop) (A : Option Addr) (c : Nat) (w : World) (h : Row 7 (PropD.ty.rep I w) I w A l) (hl : l.length ≤ BIG) (hs : ∀ p, p ∈ l → p.val.size + 1 ≤ BIG) (hT : Tabs w) :
    Calls Tryz.prog 297 #[.slice A l.length c] w fun e w' => e = .returned (.bool (propsOk l)) ∧ Below w.heap.size w w' := by
  have hlen : (l.length : Int) ≤ 9223372036854775807 := by rw [BIG_eq] at hl; omega
  obtain ⟨r, HR⟩ : ∃ q, Hid (propsOk l = q) := ⟨_, Lib.hid rfl⟩
  rw [HR.out]
  have hK : ∀ W, Below w.heap.size w W → Calls Tryz.prog 340 #[.slice A l.length c] W (RetS Ty.str (Fresh W) W (l.map PropD.key)) := fun W hW =>
    keys_any l (fun b => I b ∧ b < w.heap.size) A c W (h.imp (fun _ _ hs => PropD.ty.belowB (fun _ hb => hb.2) hW (PropD.ty.lt hs)) (fun b hb hl => ⟨⟨hb, hl⟩, Nat.lt_of_lt_of_le hl hW.size⟩) (fun b _ hl => hW.block b hl)) hl
  have HK := Lib.hid hK
  have HS := Lib.hid hs
  clear hK hs
  go_enter Tryz.func297, Tryz.ntmps297
  go_wp2_with fail
  go_loopw [7] (fun i wr => ∃ k : Nat, k ≤ l.length ∧ i = .int .i64 k ∧ Hid (∀ j x, j < k → l[j]? = some x → propOk x = true) ∧ Below w.heap.size w wr) (fun i _ => l.length - (intOf i).toNat)
  case atStart => exact ⟨0, Nat.zero_le _, rfl, Lib.hid (fun j x hj => by omega), Below.refl _ _⟩
  case round =>
    obtain ⟨k, hk, rfl, HN, hB⟩ := hrel
    by_cases hlt : k < l.length
    · obtain ⟨x, hx, hxm⟩ := get_some hlt
      obtain ⟨b, off, cs, rfl, hIb, hbl, hcs, hat⟩ := h.get hx
      obtain ⟨A1, c1, A2, c2, rfl, hv⟩ := PropD.rep_open hcs
      obtain ⟨g0, g1, g2, g3, g4, g5, g6⟩ := (hat.below hbl hB).seven
      have hB1 := below_alloc' hB (Nat.le_refl _) (.cells #[.string x.key, .int .i64 x.val.kind, .bool x.val.bool, .int .i64 x.val.int, .string x.val.text, .slice A1 x.val.keys.length c1, .slice A2 x.val.list.length c2] 124)
      have hW1 := (below_alloc' (Below.refl wr.heap.size wr) (Nat.le_refl _) (.cells #[.string x.key, .int .i64 x.val.kind, .bool x.val.bool, .int .i64 x.val.int, .string x.val.text, .slice A1 x.val.keys.length c1, .slice A2 x.val.list.length c2] 124))
      have bx := Blk.new wr [.string x.key, .int .i64 x.val.kind, .bool x.val.bool, .int .i64 x.val.int, .string x.val.text, .slice A1 x.val.keys.length c1, .slice A2 x.val.list.length c2] 124
      have HNM := Lib.hid (fun W (hW : Below w.heap.size w W) => name_any x.key W (hT.below hW))
      have HSt := Lib.hid (fun W (hW : Below w.heap.size w W) => storable_any x.val _ W _ (V.ty.belowB (fun _ hb => hb.2) hW (V.ty.lt hv)) (HS.out x hxm) (hT.below hW))
      have HX := Lib.hid (show propOk x = (wName x.key && x.val.storable) from rfl)
      have HGX := Lib.hid hx
      generalize wName x.key = nm at *
      generalize x.val.storable = st at *
      clear hat hcs hx hv
      cases nm with
      | false =>
        have HF := Lib.hid (show propsOk l = false by rw [propsOk, all_not hxm (by rw [HX.out]; rfl)]; rfl)
        go_wp2_with fail
        refine (HNM.out _ hB1).mono ?_
        rintro e w1 ⟨rfl, hb1⟩
        go_wp2_with fail
        go_ret
        exact ⟨by rw [← HR.out, HF.out]; rfl, below_call hB1 hB1.size hb1⟩
      | true =>
        go_wp2_with fail
        refine (HNM.out _ hB1).mono ?_
        rintro e w1 ⟨rfl, hb1⟩
        have hB2 := below_call hB1 hB1.size hb1
        obtain ⟨q1, q2, q3⟩ := (bx.below hb1).facts
        cases st with
        | false =>
          have HF := Lib.hid (show propsOk l = false by rw [propsOk, all_not hxm (by rw [HX.out]; rfl)]; rfl)
          go_wp2_with fail
          refine (HSt.out _ hB2).mono ?_
          rintro e w2 ⟨rfl, hb2⟩
          go_wp2_with fail
          go_ret
          exact ⟨by rw [← HR.out, HF.out]; rfl, below_call hB2 hB2.size hb2⟩
        | true =>
          have HF := Lib.hid (upto_step HN.out HGX.out (by rw [HX.out]; rfl))
          go_wp2_with fail
          refine (HSt.out _ hB2).mono ?_
          rintro e w2 ⟨rfl, hb2⟩
          go_wp2_with fail
          go_roundw
          case rel => exact ⟨k + 1, by omega, by go_num, HF, below_call hB2 hB2.size hb2⟩
          case measure => simp [intOf]; omega
    · have HF := Lib.hid (show propsOk l = rises (l.map PropD.key) by rw [propsOk, all_of HN.out (by omega)]; rfl)
      have hlk : (l.map PropD.key).length ≤ BIG := by rw [List.length_map]; exact hl
      have HKK := Lib.hid (HK.out _ hB)
      generalize l.map PropD.key = ks at *
      go_wp2_with fail
      refine HKK.out.mono ?_
      rintro e w1 ⟨v1, rfl, ⟨A1, d1, hv1, hd1, hq1⟩, hb1⟩
      obtain rfl : v1 = _ := by injection hv1
      have hB2 := below_call hB hB.size hb1
      have HRI := Lib.hid (rises_str ks _ A1 d1 w1 hq1 hlk)
      clear hv1 hq1
      go_wp2_with fail
      refine HRI.out.mono ?_
      rintro e w2 ⟨rfl, n2, rfl⟩
      go_wp2_with fail
      go_ret
      exact ⟨by rw [← HR.out, HF.out]; rfl, below_drewN hB2 _⟩
theorem NodeD.le {n : NodeD} (h : n.size ≤ BIG) : n.labels.length ≤ BIG ∧ n.props.length ≤ BIG ∧ ∀ p, p ∈ n.props → p.val.size + 1 ≤ BIG := by
  unfold NodeD.size at h
  have h1 := V.sumBy_len (f := fun s : ByteArray => 1 + s.size) (by intro x; omega) n.labels
  have h2 := V.sumBy_len (f := PropD.size) (by intro x; unfold PropD.size; omega) n.props
  refine ⟨by omega, by omega, fun p hp => ?_⟩
  have h3 := V.sumBy_mem (f := PropD.size) hp
  have h4 : p.size = 1 + p.key.size + p.val.size := rfl
  omega
theorem RelD.le {r : RelD} (h : r.size ≤ BIG) : r.props.length ≤ BIG ∧ ∀ p, p ∈ r.props → p.val.size + 1 ≤ BIG := by
  unfold RelD.size at h
  have h2 := V.sumBy_len (f := PropD.size) (by intro x; unfold PropD.size; omega) r.props
  refine ⟨by omega, fun p hp => ?_⟩
  have h3 := V.sumBy_mem (f := PropD.size) hp
  have h4 : p.size = 1 + p.key.size + p.val.size := rfl
  omega
def nodeOk (n : NodeD) : Bool := decide (0 ≤ n.id) && rises n.labels && propsOk n.props && !(n.labels.any fun s => !wName s)
def relOk (r : RelD) : Bool := decide (0 ≤ r.id) && wName r.type && propsOk r.props
theorem node1_any (s : ByteArray) (w : World) (hT : Tabs w) : Calls Tryz.prog 298 #[.string s] w fun e w' => e = .returned (.bool (!wName s)) ∧ Below w.heap.size w w' := by
  have HC := Lib.hid (name_any s w hT)
  generalize wName s = r at *
  go_enter Tryz.func298, Tryz.ntmps298
  go_wp2_with fail
  refine HC.out.mono ?_
  rintro e w1 ⟨rfl, hb1⟩
  go_wp2_with fail
  go_ret
  exact ⟨rfl, hb1⟩
theorem Row.at {α : Type} (d : Ty α) {I : Nat → Prop} {w W : World} {A : Option Addr} {xs : List α} {sz : Nat} (h : Row sz (d.rep I w) I w A xs) (hW : Below w.heap.size w W) : Row sz (d.rep (fun b => I b ∧ b < w.heap.size) W) (fun b => I b ∧ b < w.heap.size) W A xs :=
  h.imp (fun _ _ hs => d.belowB (fun _ hb => hb.2) hW (d.lt hs)) (fun _b hb hl => ⟨⟨hb, hl⟩, Nat.lt_of_lt_of_le hl hW.size⟩) (fun b _ hl => hW.block b hl)
theorem node_any (n : NodeD) (I : Nat → Prop) (w : World) (cs : List Value) (h : NodeD.ty.rep I w n cs) (hs : n.size ≤ BIG) (hT : Tabs w) :
    Calls Tryz.prog 236 #[.agg cs.toArray] w fun e w' => e = .returned (.bool (nodeOk n)) ∧ Below w.heap.size w w' := by
  obtain ⟨A1, c1, A2, c2, rfl, k1, k2, h1, h2⟩ := NodeD.rep_open h
  obtain ⟨s1, s2, s3⟩ := NodeD.le hs
  have HX := Lib.hid (show nodeOk n = (decide (0 ≤ n.id) && rises n.labels && propsOk n.props && !(n.labels.any fun s => !wName s)) from rfl)
  have HRI := Lib.hid (fun W (hW : Below w.heap.size w W) => rises_str n.labels _ A1 c1 W (Row.at Ty.str h1 hW) s1)
  have HPR := Lib.hid (fun W (hW : Below w.heap.size w W) => props_any n.props _ A2 c2 W (Row.at PropD.ty h2 hW) s2 s3 (hT.below hW))
  have HCF := Lib.hid (fun W (hW : Below w.heap.size w W) => containsFunc_str 298 #[] (enters_of Tryz.func298 (by kernel_rfl) rfl) (fun s => !wName s) n.labels _ A1 c1 W (Row.at Ty.str h1 hW) s1
    (fun x _ W' cs hB hr => by obtain rfl := hr; exact node1_any x W' (hT.below (below_call hW hW.size hB))))
  have hB0 := below_alloc' (Below.refl w.heap.size w) (Nat.le_refl _) (.cells #[.int .i64 n.id, .slice A1 n.labels.length c1, .slice A2 n.props.length c2] 65)
  have b0 := Blk.new w [.int .i64 n.id, .slice A1 n.labels.length c1, .slice A2 n.props.length c2] 65
  generalize nodeOk n = r at *
  generalize rises n.labels = ri at *
  generalize propsOk n.props = pr at *
  generalize (n.labels.any fun s => !wName s) = an at *
  clear h h1 h2
  by_cases hid : 0 ≤ n.id
  case neg =>
    have HT := Lib.hid (show r = false by rw [HX.out, decide_eq_false hid]; rfl)
    have q1 : decide (0 ≤ n.id) = false := decide_eq_false hid
    go_enter Tryz.func236, Tryz.ntmps236
    go_wp2_with fail
    go_ret
    exact ⟨by rw [HT.out]; rfl, hB0⟩
  have q1 : decide (0 ≤ n.id) = true := decide_eq_true hid
  cases ri with
  | false =>
    have HT := Lib.hid (show r = false by rw [HX.out, q1]; rfl)
    go_enter Tryz.func236, Tryz.ntmps236
    go_wp2_with fail
    refine (HRI.out _ hB0).mono ?_
    rintro e w1 ⟨rfl, n1, rfl⟩
    go_wp2_with fail
    go_ret
    exact ⟨by rw [HT.out]; rfl, below_drewN hB0 _⟩
  | true =>
    cases pr with
    | false =>
      have HT := Lib.hid (show r = false by rw [HX.out, q1]; rfl)
      go_enter Tryz.func236, Tryz.ntmps236
      go_wp2_with fail
      refine (HRI.out _ hB0).mono ?_
      rintro e w1 ⟨rfl, n1, rfl⟩
      obtain ⟨y1, y2, y3⟩ := (b0.drewN n1).facts
      have hB1 := below_drewN hB0 n1
      go_wp2_with fail
      refine (HPR.out _ hB1).mono ?_
      rintro e w2 ⟨rfl, hb2⟩
      go_wp2_with fail
      go_ret
      exact ⟨by rw [HT.out]; rfl, below_call hB1 hB1.size hb2⟩
    | true =>
      have HT := Lib.hid (show r = !an by rw [HX.out, q1]; rfl)
      go_enter Tryz.func236, Tryz.ntmps236
      go_wp2_with fail
      refine (HRI.out _ hB0).mono ?_
      rintro e w1 ⟨rfl, n1, rfl⟩
      obtain ⟨y1, y2, y3⟩ := (b0.drewN n1).facts
      have hB1 := below_drewN hB0 n1
      go_wp2_with fail
      refine (HPR.out _ hB1).mono ?_
      rintro e w2 ⟨rfl, hb2⟩
      have hB2 := below_call hB1 hB1.size hb2
      obtain ⟨z1, z2, z3⟩ := ((b0.drewN n1).below hb2).facts
      go_wp2_with fail
      refine (HCF.out _ hB2).mono ?_
      rintro e w3 ⟨rfl, hb3⟩
      go_wp2_with fail
      go_ret
      exact ⟨by rw [HT.out]; rfl, below_call hB2 hB2.size hb3⟩
theorem rel_any (n : RelD) (I : Nat → Prop) (w : World) (cs : List Value) (h : RelD.ty.rep I w n cs) (hs : n.size ≤ BIG) (hT : Tabs w) :
    Calls Tryz.prog 237 #[.agg cs.toArray] w fun e w' => e = .returned (.bool (relOk n)) ∧ Below w.heap.size w w' := by
  obtain ⟨A2, c2, rfl, k2, h2⟩ := RelD.rep_open h
  obtain ⟨s2, s3⟩ := RelD.le hs
  have HX := Lib.hid (show relOk n = (decide (0 ≤ n.id) && wName n.type && propsOk n.props) from rfl)
  have HNM := Lib.hid (fun W (hW : Below w.heap.size w W) => name_any n.type W (hT.below hW))
  have HPR := Lib.hid (fun W (hW : Below w.heap.size w W) => props_any n.props _ A2 c2 W (Row.at PropD.ty h2 hW) s2 s3 (hT.below hW))
  have hB0 := below_alloc' (Below.refl w.heap.size w) (Nat.le_refl _) (.cells #[.int .i64 n.id, .int .i64 n.src, .int .i64 n.dst, .string n.type, .slice A2 n.props.length c2] 67)
  have b0 := Blk.new w [.int .i64 n.id, .int .i64 n.src, .int .i64 n.dst, .string n.type, .slice A2 n.props.length c2] 67
  generalize relOk n = r at *
  generalize wName n.type = nm at *
  generalize propsOk n.props = pr at *
  clear h h2
  by_cases hid : 0 ≤ n.id
  case neg =>
    have HT := Lib.hid (show r = false by rw [HX.out, decide_eq_false hid]; rfl)
    have q1 : decide (0 ≤ n.id) = false := decide_eq_false hid
    go_enter Tryz.func237, Tryz.ntmps237
    go_wp2_with fail
    go_ret
    exact ⟨by rw [HT.out]; rfl, hB0⟩
  have q1 : decide (0 ≤ n.id) = true := decide_eq_true hid
  cases nm with
  | false =>
    have HT := Lib.hid (show r = false by rw [HX.out, q1]; rfl)
    go_enter Tryz.func237, Tryz.ntmps237
    go_wp2_with fail
    refine (HNM.out _ hB0).mono ?_
    rintro e w1 ⟨rfl, hb1⟩
    go_wp2_with fail
    go_ret
    exact ⟨by rw [HT.out]; rfl, below_call hB0 hB0.size hb1⟩
  | true =>
    have HT := Lib.hid (show r = pr by rw [HX.out, q1]; rfl)
    go_enter Tryz.func237, Tryz.ntmps237
    go_wp2_with fail
    refine (HNM.out _ hB0).mono ?_
    rintro e w1 ⟨rfl, hb1⟩
    obtain ⟨y1, y2, y3⟩ := (b0.below hb1).facts
    have hB1 := below_call hB0 hB0.size hb1
    go_wp2_with fail
    refine (HPR.out _ hB1).mono ?_
    rintro e w2 ⟨rfl, hb2⟩
    go_wp2_with fail
    go_ret
    exact ⟨by rw [HT.out]; rfl, below_call hB1 hB1.size hb2⟩
end Go.Proofs.YtcmahpddjggcaaaGreatDoor
