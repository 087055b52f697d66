/- The moves in a region that draws its order, one premise for the kit's three. -/
import Derived.Test.YtcmahpddjggcaaaGreatDoorKWalk
import Derived.Deep.RegionHeld3
namespace Go
section
variable {P : Program} {ops : Array Oper} {Q : Exit → Act → World → Prop} {md : Region.Mode} {S : World → Prop}
/-- Number i is taken first, and yields v. -/
theorem own_take (i : Nat) (d : Option Tmp) {oi : Oper} {v : Value} {fuel : Nat} {listed : Array Bool} {a : Act} {w : World} (hi : ops[i]? = some oi) (hd : oi.dst = d)
    (hb : (Region.noSelect ops && Region.free md ops listed i && (Region.ready md ops listed).contains i) = true) (hQ : ∀ c a w, Q (.panic c) (a.put d v) w → Q (.panic c) a w) (hw : Region.wanted oi (yielded ops a.tmps) = true)
    (hS : S w) (hy : ∀ w, S w → (execOp a.eval oi).run P w = .ok (.value v) w) (h : wpAnyH P md ops Q S fuel (listed.setIfInBounds i true) (a.put d v) w) : wpAnyH P md ops Q S (fuel + 1) listed a w := by
  subst hd
  simp only [Bool.and_eq_true] at hb
  exact wpAnyH_take hi hb.1.1 hb.1.2 hb.2 hQ (.inl ⟨hw, hy⟩) hS h
/-- Number i is not asked for. -/
theorem own_skip (i : Nat) (d : Option Tmp) {oi : Oper} {fuel : Nat} {listed : Array Bool} {a : Act} {w : World} (hi : ops[i]? = some oi) (hd : oi.dst = d)
    (hb : (Region.noSelect ops && Region.free md ops listed i && (Region.ready md ops listed).contains i) = true) (hQ : ∀ c a w, Q (.panic c) (a.put d undef) w → Q (.panic c) a w) (hw : Region.wanted oi (yielded ops a.tmps) = false)
    (hS : S w) (h : wpAnyH P md ops Q S fuel (listed.setIfInBounds i true) (a.put d undef) w) : wpAnyH P md ops Q S (fuel + 1) listed a w := by
  subst hd
  simp only [Bool.and_eq_true] at hb
  exact wpAnyH_take hi hb.1.1 hb.1.2 hb.2 hQ (.inr ⟨hw, rfl⟩) hS h
/-- Number i alone may come up. -/
theorem own_step (i : Nat) {oi : Oper} {fuel : Nat} {listed : Array Bool} {a : Act} {w : World} (hr : Region.ready md ops listed = [i]) (hi : ops[i]? = some oi)
    (h : ∀ K' : Act → World → Prop, Shut (∀ a w, S w → (S w → wpAnyH P md ops Q S fuel (listed.setIfInBounds i true) a w) → K' a w) → if Region.wanted oi (yielded ops a.tmps) = true then Oper.wp P oi a w K' Q else K' (a.put oi.dst undef) w) :
    wpAnyH P md ops Q S (fuel + 1) listed a w := wpAnyH_ready hr (by simp) (AllReadyH.cons hi h AllReadyH.nil)
/-- Number i or number j comes up. -/
theorem own_step2 (i j : Nat) {oi oj : Oper} {fuel : Nat} {listed : Array Bool} {a : Act} {w : World} (hr : Region.ready md ops listed = [i, j]) (hi : ops[i]? = some oi) (hj : ops[j]? = some oj)
    (h : ∀ K' : Act → World → Prop, Shut (∀ a w, S w → (S w → wpAnyH P md ops Q S fuel (listed.setIfInBounds i true) a w) → K' a w) → if Region.wanted oi (yielded ops a.tmps) = true then Oper.wp P oi a w K' Q else K' (a.put oi.dst undef) w)
    (h' : ∀ K' : Act → World → Prop, Shut (∀ a w, S w → (S w → wpAnyH P md ops Q S fuel (listed.setIfInBounds j true) a w) → K' a w) → if Region.wanted oj (yielded ops a.tmps) = true then Oper.wp P oj a w K' Q else K' (a.put oj.dst undef) w) :
    wpAnyH P md ops Q S (fuel + 1) listed a w := wpAnyH_ready hr (by simp) (AllReadyH.cons hi h (AllReadyH.cons hj h' AllReadyH.nil))
end
end Go
/- Moves in a region that draws its order whose last operation waits for all others: behind that one the condition on the world need not hold any more (x.f = g(x.f)). -/
namespace Go
section
variable {P : Program} {ops : Array Oper} {Q : Exit → Act → World → Prop} {md : Region.Mode} {S : World → Prop} {L : Nat}
/-- Whatever order is picked from here on; S holds behind each operation but number L. -/
def endAny (P : Program) (md : Region.Mode) (ops : Array Oper) (Q : Exit → Act → World → Prop) (S : World → Prop) (L : Nat) : Nat → Array Bool → Act → World → Prop
  | 0, done, a, w => Region.ready md ops done = [] ∧ Q .normal a w
  | k + 1, done, a, w => (Region.ready md ops done = [] → Q .normal a w) ∧
      ∀ i ∈ Region.ready md ops done, wpOp P ops Q i (fun b v => (i = L ∨ S v) ∧ endAny P md ops Q S L k (done.setIfInBounds i true) b v) a w
theorem endAny.plain : ∀ (k : Nat) (done : Array Bool) (a : Act) (w : World), endAny P md ops Q S L k done a w → wpAny P md ops Q k done a w := by
  intro k
  induction k with
  | zero => exact fun _ _ _ h => h
  | succ k ih => exact fun _ _ _ h => ⟨h.1, fun i hi => wpOp_mono (fun b v hv => ih _ b v hv.2) (h.2 i hi)⟩
/-- Number L waits for number i. -/
def waitsFor (md : Region.Mode) (ops : Array Oper) (L i : Nat) : Bool := match ops[L]? with
  | some o => o.after.any fun e => Region.binds md e && e.on == i
  | none => true
theorem endAny.first {i : Nat} {oi : Oper} {v : Value} (hi : ops[i]? = some oi) (hsel : ∀ (j : Nat) (o : Oper) cs b, ops[j]? = some o → o.op ≠ .select cs b)
    (hQ : ∀ c a w, Q (.panic c) (a.put oi.dst v) w → Q (.panic c) a w) (hL : waitsFor md ops L i = true) : ∀ (k : Nat) (done : Array Bool) (a : Act) (w : World),
      (∀ j oj, ops[j]? = some oj → j ≠ i → done.getD j true = false → (∀ e ∈ oj.after, Region.binds md e = true → e.on ≠ i) → oi.apart ops oj = true) →
      i ∈ Region.ready md ops done → YieldsIf P ops S oi v a → S w → endAny P md ops Q S L k (done.setIfInBounds i true) (a.put oi.dst v) w → endAny P md ops Q S L (k + 1) done a w := by
  have key : ∀ (done : Array Bool), i ∈ Region.ready md ops done → ∀ j, j ∈ Region.ready md ops done → j ≠ i → done.getD j true = false ∧ ∃ oj, ops[j]? = some oj ∧ (∀ e ∈ oj.after, Region.binds md e = true → e.on ≠ i) ∧ j ≠ L := by
    intro done hr j hj hji
    obtain ⟨hun, oj, hoj, hall⟩ := mem_ready.1 hj
    have hno : ∀ e ∈ oj.after, Region.binds md e = true → e.on ≠ i := by
      intro e he hb heq
      have q := hall e he hb
      have q0 := (mem_ready.1 hr).1
      rw [heq] at q
      rcases Nat.lt_or_ge i done.size with hlt | hge
      · simp [hlt] at q q0
        rw [q0] at q
        cases q
      · simp [Array.getElem?_eq_none hge] at q
    refine ⟨hun, oj, hoj, hno, ?_⟩
    rintro rfl
    unfold waitsFor at hL
    rw [hoj] at hL
    simp only [Array.any_eq_true', Bool.and_eq_true, beq_iff_eq] at hL
    obtain ⟨e, he, hb, heq⟩ := hL
    exact hno e he hb heq
  intro k
  induction k with
  | zero =>
    intro done a w _ hr hy hS H
    refine ⟨fun h0 => (by rw [h0] at hr; cases hr), fun j hj => ?_⟩
    by_cases hji : j = i
    · subst hji
      exact hy.wpOp hi hS ⟨.inr hS, H⟩
    · have := ready_mono hj hji
      rw [H.1] at this
      cases this
  | succ k ih =>
    intro done a w hfree hr hy hS H
    refine ⟨fun h0 => (by rw [h0] at hr; cases hr), fun j hj => ?_⟩
    by_cases hji : j = i
    · subst hji
      exact hy.wpOp hi hS ⟨.inr hS, H⟩
    · obtain ⟨hun, oj, hoj, hno, hjL⟩ := key done hr j hj hji
      have q1 := wpOp_putIf hoj (hfree j oj hoj hji hun hno) (fun cs b => hsel i oi cs b hi) (fun cs b => hsel j oj cs b hoj) hQ hy (H.2 j (ready_mono hj hji))
      refine wpOp_mono (fun b v ⟨y1, y2, y3⟩ => ?_) q1
      have hSv : S v := y2.resolve_left hjL
      refine ⟨.inr hSv, ih _ b v ?_ (ready_mono hr (Ne.symm hji)) y1 hSv (by rw [Array.setIfInBounds_comm _ _ hji]; exact y3)⟩
      intro m om hm hmi hum hmo
      refine hfree m om hm hmi ?_ hmo
      by_cases hjm : j = m
      · subst hjm; exact hun
      · rwa [getD_set_ne true hjm] at hum
theorem end_region {id : Nat} {a : Act} {w : World} (L : Nat) (hm : P.follows .mixedOrders = true) (hS : S w.drew) (h : S w.drew → endAny P .any ops Q S L ops.size (Array.replicate ops.size false) a w.drew) : (Code.region id ops true).wp P Q a w :=
  wp_region_any hm (endAny.plain _ _ _ _ (h hS))
/-- Number i is taken first, and yields v. -/
theorem end_take (i : Nat) (d : Option Tmp) {oi : Oper} {v : Value} {k : Nat} {done : Array Bool} {a : Act} {w : World} (hi : ops[i]? = some oi) (hd : oi.dst = d)
    (hb : (Region.noSelect ops && Region.free md ops done i && (Region.ready md ops done).contains i && waitsFor md ops L i) = true) (hQ : ∀ c a w, Q (.panic c) (a.put d v) w → Q (.panic c) a w) (hw : Region.wanted oi (yielded ops a.tmps) = true)
    (hS : S w) (hy : ∀ w, S w → (execOp a.eval oi).run P w = .ok (.value v) w) (h : endAny P md ops Q S L k (done.setIfInBounds i true) (a.put d v) w) : endAny P md ops Q S L (k + 1) done a w := by
  subst hd
  simp only [Bool.and_eq_true] at hb
  exact endAny.first hi (Region.noSelect_spec hb.1.1.1) hQ hb.2 k done a w (Region.free_spec hi hb.1.1.2) (by simpa using hb.1.2) (.inl ⟨hw, hy⟩) hS h
theorem end_all {rs : List Nat} {k : Nat} {done : Array Bool} {a : Act} {w : World} (hr : Region.ready md ops done = rs) (hne : rs ≠ [])
    (h : ∀ i ∈ rs, wpOp P ops Q i (fun b v => (i = L ∨ S v) ∧ endAny P md ops Q S L k (done.setIfInBounds i true) b v) a w) : endAny P md ops Q S L (k + 1) done a w :=
  ⟨fun h0 => absurd (hr ▸ h0) hne, hr ▸ h⟩
theorem end_op {i : Nat} {k : Nat} {done : Array Bool} {oi : Oper} {a : Act} {w : World} (hi : ops[i]? = some oi)
    (h : ∀ K' : Act → World → Prop, Shut (∀ a w, S w → (S w → endAny P md ops Q S L k (done.setIfInBounds i true) a w) → K' a w) → if Region.wanted oi (yielded ops a.tmps) = true then Oper.wp P oi a w K' Q else K' (a.put oi.dst undef) w) :
    wpOp P ops Q i (fun b v => (i = L ∨ S v) ∧ endAny P md ops Q S L k (done.setIfInBounds i true) b v) a w :=
  wpOp_step hi (fun K' hK => h K' (fun a w hS hW => hK a w ⟨.inr hS, hW hS⟩))
/-- Number i alone may come up. -/
theorem end_step (i : Nat) {oi : Oper} {k : Nat} {done : Array Bool} {a : Act} {w : World} (hr : Region.ready md ops done = [i]) (hi : ops[i]? = some oi)
    (h : ∀ K' : Act → World → Prop, Shut (∀ a w, S w → (S w → endAny P md ops Q S L k (done.setIfInBounds i true) a w) → K' a w) → if Region.wanted oi (yielded ops a.tmps) = true then Oper.wp P oi a w K' Q else K' (a.put oi.dst undef) w) :
    endAny P md ops Q S L (k + 1) done a w := end_all hr (by simp) (fun j hj => by obtain rfl := List.mem_singleton.1 hj; exact end_op hi h)
/-- Number i or number j comes up. -/
theorem end_step2 (i j : Nat) {oi oj : Oper} {k : Nat} {done : Array Bool} {a : Act} {w : World} (hr : Region.ready md ops done = [i, j]) (hi : ops[i]? = some oi) (hj : ops[j]? = some oj)
    (h : ∀ K' : Act → World → Prop, Shut (∀ a w, S w → (S w → endAny P md ops Q S L k (done.setIfInBounds i true) a w) → K' a w) → if Region.wanted oi (yielded ops a.tmps) = true then Oper.wp P oi a w K' Q else K' (a.put oi.dst undef) w)
    (h' : ∀ K' : Act → World → Prop, Shut (∀ a w, S w → (S w → endAny P md ops Q S L k (done.setIfInBounds j true) a w) → K' a w) → if Region.wanted oj (yielded ops a.tmps) = true then Oper.wp P oj a w K' Q else K' (a.put oj.dst undef) w) :
    endAny P md ops Q S L (k + 1) done a w := end_all hr (by simp) (fun m hm => by
      rcases List.mem_cons.1 hm with rfl | hm
      · exact end_op hi h
      · obtain rfl := List.mem_singleton.1 hm
        exact end_op hj h')
/-- The last one: nothing is asked behind it. -/
theorem end_last {oi : Oper} {k : Nat} {done : Array Bool} {a : Act} {w : World} (hr : Region.ready md ops done = [L]) (hi : ops[L]? = some oi) (hd : Region.ready md ops (done.setIfInBounds L true) = [])
    (h : ∀ K' : Act → World → Prop, Shut (∀ a w, Q .normal a w → K' a w) → if Region.wanted oi (yielded ops a.tmps) = true then Oper.wp P oi a w K' Q else K' (a.put oi.dst undef) w) :
    endAny P md ops Q S L (k + 1) done a w := end_all hr (by simp) (fun j hj => by
      obtain rfl := List.mem_singleton.1 hj
      refine wpOp_step hi (fun K' hK => h K' (fun b v hv => hK b v ⟨.inl rfl, ?_⟩))
      cases k with
      | zero => exact ⟨hd, hv⟩
      | succ k => exact ⟨fun _ => hv, by rw [hd]; simp⟩)
end
end Go
