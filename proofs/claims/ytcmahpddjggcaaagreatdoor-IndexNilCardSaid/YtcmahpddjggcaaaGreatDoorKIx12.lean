/- index.Make. -/
import Derived.Test.YtcmahpddjggcaaaGreatDoorKIx8
import Derived.Test.YtcmahpddjggcaaaGreatDoorKGra9
namespace Go.Proofs.YtcmahpddjggcaaaGreatDoor
open Go Go.RowKit Go.Maps
set_option maxHeartbeats 4000000
set_option maxRecDepth 100000
/-- The index of the nodes. -/
def makeD (label key : ByteArray) (l : List NodeD) : IdxD := l.foldl IdxD.put ⟨label, key, []⟩
theorem IdxD.ins_names (x : IdxD) (e : EntD) : (x.ins e).label = x.label ∧ (x.ins e).key = x.key := ⟨rfl, rfl⟩
theorem IdxD.put_mem {x : IdxD} {n : NodeD} {e : EntD} (h : e ∈ (x.put n).l) : e ∈ x.l ∨ (e.id = n.id ∧ ∃ p, p ∈ n.props ∧ e.val = p.val) := by
  unfold IdxD.put at h
  split at h
  · rename_i p hp
    split at h
    · unfold IdxD.ins at h
      rcases List.mem_append.1 h with h | h
      · exact .inl (IdxD.drop_mem (List.mem_of_mem_take h))
      · rcases List.mem_cons.1 h with h | h
        · subst h; exact .inr ⟨rfl, p, List.mem_of_find?_eq_some hp, rfl⟩
        · exact .inl (IdxD.drop_mem (List.mem_of_mem_drop h))
    · exact .inl (IdxD.drop_mem h)
  · exact .inl (IdxD.drop_mem h)
theorem IdxD.put_len (x : IdxD) (n : NodeD) : (x.put n).l.length ≤ x.l.length + 1 := by
  have := x.drop_len n.id
  unfold IdxD.put
  split
  · split
    · unfold IdxD.ins
      simp only [List.length_append, List.length_take, List.length_cons, List.length_drop]; omega
    · omega
  · omega
/-- All that stands in an index made of nodes comes of one of them. -/
theorem makeD_mem : ∀ (l : List NodeD) (x : IdxD) (e : EntD), e ∈ (l.foldl IdxD.put x).l → e ∈ x.l ∨ ∃ n, n ∈ l ∧ e.id = n.id ∧ ∃ p, p ∈ n.props ∧ e.val = p.val := by
  intro l
  induction l with
  | nil => exact fun x e h => .inl h
  | cons n ns ih =>
    intro x e h
    rcases ih (x.put n) e h with h | ⟨m, hm, h⟩
    · rcases IdxD.put_mem h with h | h
      · exact .inl h
      · exact .inr ⟨n, by simp, h⟩
    · exact .inr ⟨m, by simp [hm], h⟩
theorem makeD_len : ∀ (l : List NodeD) (x : IdxD), (l.foldl IdxD.put x).l.length ≤ x.l.length + l.length := by
  intro l
  induction l with
  | nil => intro x; simp
  | cons n ns ih => intro x; have := ih (x.put n); have := x.put_len n; simp only [List.foldl_cons, List.length_cons]; omega
theorem makeD_snoc (label key : ByteArray) {l : List NodeD} {k : Nat} {n : NodeD} (h : l[k]? = some n) : makeD label key (l.take (k + 1)) = (makeD label key (l.take k)).put n := by
  unfold makeD
  rw [take_snoc' h, List.foldl_append]; rfl
theorem wf_big {n : Int} (h1 : -9223372036854775808 ≤ n) (h2 : n ≤ 9223372036854775807) : (Lit.int .i64 n).wf = true := by
  have e1 : IntKind.min .i64 = -9223372036854775808 := by decide
  have e2 : IntKind.max .i64 = 9223372036854775807 := by decide
  simp only [Lit.wf, e1, e2, Bool.and_eq_true, decide_eq_true_eq]
  exact ⟨h1, h2⟩
theorem nodesOk_at {l : List NodeD} {next : Int} (h : nodesOk l next = true) {k : Nat} {n : NodeD} (hk : l[k]? = some n) : 0 ≤ n.id ∧ n.id < next ∧ ∀ m, m ∈ l.take k → m.id < n.id := by
  have hlt := (List.getElem?_eq_some_iff.1 hk).1
  have hr := rising_of h
  have hn : nAt l k = n := by unfold nAt; rw [List.getD_eq_getElem?_getD, hk]; rfl
  have h1 : nodeIn l next k = true := by
    simp only [nodesOk, List.all_eq_true, List.mem_range] at h; exact h k hlt
  simp only [nodeIn, Bool.and_eq_true, decide_eq_true_eq, hn] at h1
  have h2 : 0 ≤ n.id := by
    have := h1.1.1
    simp only [nodeOk, Bool.and_eq_true, decide_eq_true_eq] at this
    exact this.1.1.1
  refine ⟨h2, h1.1.2, fun m hm => ?_⟩
  obtain ⟨j, hj, hjm⟩ := List.mem_iff_getElem.1 hm
  rw [List.length_take] at hj
  have hj2 : nAt l j = m := by
    unfold nAt
    rw [List.getD_eq_getElem?_getD, List.getElem?_eq_getElem (by omega)]
    rw [List.getElem_take] at hjm
    exact hjm
  rw [← hj2, ← hn]
  exact hr j k (by omega) hlt
def MakeOk (w : World) (x : IdxD) (e : Ending) (w' : World) : Prop :=
  ∃ p B N sl mb, e = .returned (.tuple #[.pointer (some ⟨p, 0, none⟩), .int .i64 0]) ∧ w.heap.size ≤ B ∧ N ≤ BIG ∧ IdxIn B N (fun _ => True) w' p sl mb x ∧ Below w.heap.size w w'
theorem make_any (g : GraphD) (label key : ByteArray) (J : Nat → Prop) (w : World) (gcs : List Value) (h : GraphD.ty.rep J w g gcs) (hln : g.nodes.length + 1 ≤ BIG) (hlr : g.rels.length ≤ BIG) (hsn : ∀ n, n ∈ g.nodes → n.size ≤ BIG) (hsr : ∀ n, n ∈ g.rels → n.size ≤ BIG) (hT : Tabs w)
    (h1 : wName label = true) (h2 : wName key = true) (hc : g.check = 0) :
    Calls Tryz.prog 31 #[.agg gcs.toArray, .string label, .string key] w (MakeOk w (makeD label key g.nodes)) := by
  have hlt := GraphD.ty.lt h
  obtain ⟨A1, c1, A2, c2, rfl, k1, k2, hr1, hr2⟩ := GraphD.rep_open h
  have hB0 := below_alloc' (Below.refl w.heap.size w) (Nat.le_refl _) (.cells #[.slice A1 g.nodes.length c1, .slice A2 g.rels.length c2, .int .i64 g.nextNode, .int .i64 g.nextRel] 56)
  have hb0 := Blk.new w [.slice A1 g.nodes.length c1, .slice A2 g.rels.length c2, .int .i64 g.nextNode, .int .i64 g.nextRel] 56
  have HN := Lib.hid (fun s W (hW : Below w.heap.size w W) => name_any s W (hT.below hW))
  have HC := Lib.hid (fun W (hW : Below w.heap.size w W) => gcheck_any g _ W _ (GraphD.ty.below hW hlt) (by omega) hlr hsn hsr (hT.below hW))
  have HB0 := Lib.hid hB0
  have HBL := Lib.hid hb0
  have hnI : (g.nodes.length : Int) ≤ 1073741824 := by rw [BIG_eq] at hln; omega
  have HG := Lib.hid hlt
  clear h hr1 hr2 hb0 hB0 hlt
  have hmm := @run_makeMap Tryz.prog
  go_enter Tryz.func31, Tryz.ntmps31
  go_wp2_with fail
  generalize w.alloc (.cells #[.slice A1 g.nodes.length c1, .slice A2 g.rels.length c2, .int .i64 g.nextNode, .int .i64 g.nextRel] 56) = W0 at *
  refine (HN.out label _ HB0.out).mono ?_
  rw [h1]
  rintro e w1 ⟨rfl, hb1⟩
  have hw1 := below_call HB0.out HB0.out.size hb1
  go_wp2_with fail
  refine (HN.out key _ hw1).mono ?_
  rw [h2]
  rintro e w2 ⟨rfl, hb2⟩
  have hw2 := below_call hw1 hw1.size hb2
  obtain ⟨y2, z2, l2⟩ := ((HBL.out.below hb1).below hb2).facts
  go_wp2_with fail
  refine (HC.out _ hw2).mono ?_
  rw [hc]
  rintro e w3 ⟨rfl, hb3⟩
  have hw3 := below_call hw2 hw2.size hb3
  obtain ⟨y3, z3, l3⟩ := (((HBL.out.below hb1).below hb2).below hb3).facts
  clear y2 z2 l2
  go_wp2_with fail
  have hst : IdxIn w3.heap.size 0 (fun _ => True) ((w3.alloc (.map #[] 0)).alloc (.cells #[.string label, .string key, .slice none 0 0, .map (some w3.heap.size)] 33)) (w3.heap.size + 1) (.slice none 0 0) w3.heap.size ⟨label, key, []⟩ := by
    have hb := Blk.new (w3.alloc (.map #[] 0)) [.string label, .string key, .slice none 0 0, .map (some w3.heap.size)] 33
    refine ⟨by simpa using hb, by omega, by omega, by omega, by simp [Value.ownBlock], by simp [Value.ownBlock], Own.nil _ _ _ _ _, .map [], (World.ownsMap_made w3 Tryz.prog 2 rawR).alloc _, ?_⟩
    intro id _
    rfl
  have hB2 := below_alloc' (below_alloc' (Below.refl w3.heap.size w3) (Nat.le_refl _) (.map #[] 0)) (Nat.le_refl _) (.cells #[.string label, .string key, .slice none 0 0, .map (some w3.heap.size)] 33)
  have HST := Lib.hid hst
  have HB2 := Lib.hid hB2
  have hz2 : w3.heap.size + 1 < ((w3.alloc (.map #[] 0)).alloc (.cells #[.string label, .string key, .slice none 0 0, .map (some w3.heap.size)] 33)).heap.size := by simp
  clear hst hB2 y3 z3 l3
  generalize (w3.alloc (.map #[] 0)).alloc (.cells #[.string label, .string key, .slice none 0 0, .map (some w3.heap.size)] 33) = W2 at *
  have hck : sizesOk g = true ∧ nodesOk g.nodes g.nextNode = true := by
    unfold GraphD.check at hc
    split at hc
    · rename_i hh; simp only [Bool.and_eq_true] at hh; exact hh.1
    · cases hc
  have hnx : g.nextNode ≤ 4611686018427387904 := by
    have := hck.1
    simp only [sizesOk, Bool.and_eq_true, decide_eq_true_eq] at this
    exact this.1.1.2
  have HCK := Lib.hid hck.2
  obtain ⟨ar1, cr1, ar2, cr2, hgc, _, _, hrow, _⟩ := GraphD.rep_open (GraphD.ty.below hw3 HG.out)
  obtain ⟨q1, q2⟩ : A1 = ar1 ∧ c1 = cr1 := by injection hgc with q; injection q with q q' q''; exact ⟨q, q''⟩
  subst q1 q2
  have HTB := Lib.hid (show ∀ W W', Below w3.heap.size W2 W → Below w3.heap.size W W' → Tabs W' from fun W W' hW hW' => hT.below (hw3.trans ((HB2.out.trans (hW.trans hW')).mono hw3.size)))
  clear hck hgc hc HN HC
  go_loopw [32] (fun i wr => ∃ k : Nat, k ≤ g.nodes.length ∧ i = .int .i64 k ∧ Hid (∃ sl, IdxIn w3.heap.size k (fun _ => True) wr (w3.heap.size + 1) sl w3.heap.size (makeD label key (g.nodes.take k))) ∧ Below w3.heap.size W2 wr) (fun i _ => g.nodes.length - (intOf i).toNat)
  case atStart => exact ⟨0, Nat.zero_le _, rfl, Lib.hid ⟨_, HST.out⟩, Below.refl _ _⟩
  case round =>
    obtain ⟨k, hk, rfl, HI, hB⟩ := hrel
    obtain ⟨sl, hI⟩ := HI.out
    have hBr := HB2.out.trans hB
    by_cases hlt : k < g.nodes.length
    · obtain ⟨n, hn, hnm⟩ := get_some hlt
      obtain ⟨nb, noff, ncs, rfl, hJb, hbl, hns, hat⟩ := hrow.get hn
      have hns' := NodeD.ty.belowB (fun b hb => hb.2) hBr (NodeD.ty.lt hns)
      obtain ⟨L1, l1, L2, l2, rfl, _⟩ := NodeD.rep_open hns'
      obtain ⟨g0, g1, g2⟩ := (hat.below hbl hBr).three
      obtain ⟨n1, n2, n3⟩ := nodesOk_at HCK.out hn
      have hsz := hsn n hnm
      have hle := NodeD.le hsz
      have hbn := below_alloc' (Below.refl wr.heap.size wr) (Nat.le_refl _) (.cells #[.int .i64 n.id, .slice L1 n.labels.length l1, .slice L2 n.props.length l2] 65)
      have hlow : w3.heap.size ≤ wr.heap.size := by have := hB.size; omega
      have hids : ∀ e, e ∈ (makeD label key (g.nodes.take k)).l → e.id < n.id ∧ e.val.size + 1 ≤ BIG := fun e he => by
        rcases makeD_mem _ _ e he with h | ⟨m, hm, hid, q, hq, hv⟩
        · cases h
        · exact ⟨by rw [hid]; exact n3 m hm, by rw [hv]; exact (NodeD.le (hsn m (List.mem_of_mem_take hm))).2.2 q hq⟩
      have hlen := makeD_len (g.nodes.take k) ⟨label, key, []⟩
      rw [List.length_take] at hlen
      simp only [List.length_nil] at hlen
      have HP := Lib.hid (put_any w3.heap.size k (fun _ => True) (fun b => (J b ∧ b < w.heap.size) ∧ b < w3.heap.size) (wr.alloc (.cells #[.int .i64 n.id, .slice L1 n.labels.length l1, .slice L2 n.props.length l2] 65)) (w3.heap.size + 1) sl w3.heap.size (makeD label key (g.nodes.take k)) n [.int .i64 n.id, .slice L1 n.labels.length l1, .slice L2 n.props.length l2]
        { idx := hI.below hbn, rep := NodeD.ty.below hbn hns', out := fun b hb => hb.2,
          wf := wf_big (by omega) (by omega)
          size := hsz
          dok := fun e he => by
            have h1 := (hids e (List.mem_of_find?_eq_some he)).1
            have h2 := List.find?_some he
            simp only [beq_iff_eq] at h2
            omega
          ok := ⟨by show (makeD label key (g.nodes.take k)).l.length + 1 ≤ BIG; unfold makeD; omega, fun e he => (hids e he).2⟩
          tabs := HTB.out _ _ hB (hbn.mono hlow)
          low := Nat.le_trans hlow hbn.size
          tabsB := fun w' hb => HTB.out _ _ (hB.trans (hbn.mono hlow)) hb } (fun _ _ => trivial) (by rw [BIG_eq] at hln; simp only [maxLen]; omega))
      have HMK := Lib.hid (makeD_snoc label key hn)
      have HBN := Lib.hid (hbn.mono hlow)
      clear hat hns hns' hn hI HI hids hbn
      go_wp2_with fail
      refine HP.out.mono ?_
      rintro e w5 ⟨rfl, hb5, hk5, sl5, hi5, _⟩
      have HI5 := Lib.hid (show ∃ sl, IdxIn w3.heap.size (k + 1) (fun _ => True) w5 (w3.heap.size + 1) sl w3.heap.size (makeD label key (g.nodes.take (k + 1))) from by rw [HMK.out]; exact ⟨sl5, hi5⟩)
      clear hk5 hi5 HMK
      go_wp2_with fail
      go_roundw
      case rel => exact ⟨k + 1, by omega, by go_num, HI5, hB.trans (HBN.out.trans hb5)⟩
      case measure => simp [intOf]; omega
    · obtain rfl : k = g.nodes.length := by omega
      have fin := Lib.hid (show MakeOk w (makeD label key g.nodes) (.returned (.tuple #[.pointer (some ⟨w3.heap.size + 1, 0, none⟩), .int .i64 0])) wr from
        ⟨_, w3.heap.size, g.nodes.length, sl, _, rfl, hw3.size, by omega, by rw [List.take_length] at hI; exact hI, hw3.trans (hBr.mono hw3.size)⟩)
      clear hI HI
      go_wp2_with fail
      refine bodyPost_ret (v := .tuple #[.pointer (some ⟨w3.heap.size + 1, 0, none⟩), .int .i64 0]) (by simp [results, Tryz.results31, go_sem]) rfl fin.out
end Go.Proofs.YtcmahpddjggcaaaGreatDoor
