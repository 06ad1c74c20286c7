/-
  A region that draws its order, in two phases: operations that are quiet in a class of worlds; behind them, and waiting for the last of them, the rest, in whatever order.
-/
import Derived.Test.YtccopcbemflemaaFam
import Derived.Orders
namespace Go.Proofs.Ytccopcbemflemaa
open Go Go.RowKit

/-- The operation waits for number i. -/
def backs (o : Oper) (i : Nat) : Bool := o.after.any fun e => Region.binds .any e && e.on == i
def guardUnder (o : Oper) (n : Nat) : Bool := match o.guard with | none => true | some (j, _) => decide (j < n)
def opBacks (l : List Oper) (j i : Nat) : Bool := match l[j]? with | some o => backs o i | none => false
def opEarly (l : List Oper) (i : Nat) : Bool := match l[i]? with | some o => (o.after.all fun e => decide (e.on < i)) && guardUnder o l.length | none => false
def twoB (l1 l2 : List Oper) : Bool :=
  (List.range l1.length).all (fun i => opEarly l1 i) && (List.range (l1.length - 1)).all (fun i => (List.range l1.length).any fun j => decide (i < j) && opBacks l1 j i) && l2.all (fun o => backs o (l1.length - 1)) && decide (0 < l1.length)

theorem backs_spec {o : Oper} {i : Nat} (h : backs o i = true) : ∃ e ∈ o.after, Region.binds .any e = true ∧ e.on = i := by
  unfold backs at h
  rw [Array.any_eq_true'] at h
  obtain ⟨e, he, h2⟩ := h
  simp only [Bool.and_eq_true, beq_iff_eq] at h2
  exact ⟨e, he, h2.1, h2.2⟩

/-- What has been listed waits for nothing that has not. -/
def Down (l : List Oper) (b : Array Bool) : Prop := ∀ i o, l[i]? = some o → b.getD i false = true → ∀ e ∈ o.after, Region.binds .any e = true → b.getD e.on false = true

theorem getD_some {b : Array Bool} {i : Nat} {d : Bool} : b.getD i d = b[i]?.getD d := by
  simp [Array.getD_eq_getD_getElem?]

section
variable {l1 l2 : List Oper}
structure Two (l1 l2 : List Oper) : Prop where
  early : ∀ i o, l1[i]? = some o → (∀ e ∈ o.after, e.on < i) ∧ guardUnder o l1.length = true
  chain : ∀ i, i < l1.length - 1 → ∃ j o, i < j ∧ l1[j]? = some o ∧ backs o i = true
  waits : ∀ o ∈ l2, backs o (l1.length - 1) = true
  pos : 0 < l1.length
theorem two_of (h : twoB l1 l2 = true) : Two l1 l2 := by
  unfold twoB at h
  simp only [Bool.and_eq_true, decide_eq_true_eq] at h
  obtain ⟨⟨⟨h1, h2⟩, h3⟩, h4⟩ := h
  refine ⟨fun i o ho => ?_, fun i hi => ?_, fun o ho => ?_, h4⟩
  · have hi : i < l1.length := (List.getElem?_eq_some_iff.1 ho).1
    have := List.all_eq_true.1 h1 i (List.mem_range.2 hi)
    unfold opEarly at this
    rw [ho] at this
    simp only [Bool.and_eq_true] at this
    refine ⟨fun e he => ?_, this.2⟩
    have h5 := Array.all_eq_true'.1 this.1 e he
    simpa using h5
  · have := List.all_eq_true.1 h2 i (List.mem_range.2 hi)
    obtain ⟨j, hj, h5⟩ := List.any_eq_true.1 this
    simp only [Bool.and_eq_true, decide_eq_true_eq] at h5
    unfold opBacks at h5
    cases hjo : l1[j]? with
    | none => rw [hjo] at h5; exact absurd h5.2 (by simp)
    | some o => rw [hjo] at h5; exact ⟨j, o, h5.1, hjo, h5.2⟩
  · exact List.all_eq_true.1 h3 o ho

theorem all_of_last (T : Two l1 l2) {b : Array Bool} (hd : Down l1 b) (hl : b.getD (l1.length - 1) false = true) : ∀ n i, i + n = l1.length - 1 → b.getD i false = true := by
  intro n
  induction n using Nat.strongRecOn with
  | ind n ih =>
    intro i hi
    by_cases h0 : n = 0
    · subst h0; obtain rfl : i = l1.length - 1 := by omega
      exact hl
    · obtain ⟨j, o, hij, hj, hb⟩ := T.chain i (by omega)
      have hjl : j < l1.length := (List.getElem?_eq_some_iff.1 hj).1
      have hbj := ih (l1.length - 1 - j) (by omega) j (by omega)
      obtain ⟨e, he, h1, h2⟩ := backs_spec hb
      have := hd j o hj hbj e he h1
      rwa [h2] at this

theorem all_of_none (T : Two l1 l2) {b : Array Bool} (hs : b.size = l1.length) (hr : Region.ready .any l1.toArray b = []) : ∀ i, i < l1.length → b.getD i false = true := by
  intro i
  induction i using Nat.strongRecOn with
  | ind i ih =>
    intro hi
    cases hb : b.getD i false with
    | true => rfl
    | false =>
      have hb' : b.getD i true = false := by
        rw [getD_some] at hb ⊢
        rw [Array.getElem?_eq_getElem (by omega)] at hb ⊢
        exact hb
      have ho : l1[i]? = some l1[i] := List.getElem?_eq_getElem hi
      have : i ∈ Region.ready .any l1.toArray b := mem_ready.2 ⟨hb', l1[i], by simp, fun e he _ => by
        have h1 := (T.early i _ ho).1 e he
        exact ih e.on h1 (by omega)⟩
      rw [hr] at this
      cases this

structure Ext (n1 n2 : Nat) (l L : Array Bool) : Prop where
  sz : L.size = n1 + n2
  sz1 : l.size = n1
  low : ∀ i, i < n1 → L[i]? = l[i]?
  high : ∀ i, n1 ≤ i → i < n1 + n2 → L[i]? = some false
theorem Ext.set {n1 n2 : Nat} {l L : Array Bool} (h : Ext n1 n2 l L) (i : Nat) (hi : i < n1) : Ext n1 n2 (l.setIfInBounds i true) (L.setIfInBounds i true) := by
  refine ⟨by simp [h.sz], by simp [h.sz1], fun j hj => ?_, fun j h1 h2 => ?_⟩
  · rw [Array.getElem?_setIfInBounds, Array.getElem?_setIfInBounds]
    by_cases e : i = j
    · subst e; simp [h.sz, h.sz1, hi, show i < n1 + n2 by omega]
    · rw [if_neg e, if_neg e]; exact h.low j hj
  · rw [Array.getElem?_setIfInBounds, if_neg (by omega)]
    exact h.high j h1 h2
theorem Ext.getD {n1 n2 : Nat} {l L : Array Bool} (h : Ext n1 n2 l L) (i : Nat) (hi : i < n1) (d : Bool) : L.getD i d = l.getD i d := by
  rw [getD_some, getD_some, h.low i hi]

theorem Ext.done {n1 n2 : Nat} {l L : Array Bool} (h : Ext n1 n2 l L) (ha : ∀ i, i < n1 → l.getD i false = true) : L = Array.replicate n1 true ++ Array.replicate n2 false := by
  apply Array.ext_getElem?
  intro i
  by_cases h1 : i < n1
  · rw [h.low i h1, Array.getElem?_append_left (by simpa using h1)]
    have := ha i h1
    rw [getD_some, Array.getElem?_eq_getElem (by have := h.sz1; omega)] at this
    rw [Array.getElem?_eq_getElem (by have := h.sz1; omega)]
    simp only [Option.getD_some] at this
    rw [this]
    simp [h1]
  · rw [Array.getElem?_append_right (by simpa using h1)]
    by_cases h2 : i < n1 + n2
    · rw [h.high i (by omega) h2, Array.getElem?_eq_getElem (by simp; omega)]
      simp
    · rw [Array.getElem?_eq_none (by rw [h.sz]; omega), Array.getElem?_eq_none (by simp; omega)]

theorem Down.set {b : Array Bool} (h : Down l1 b) {i : Nat} (hi : i ∈ Region.ready .any l1.toArray b) : Down l1 (b.setIfInBounds i true) := by
  intro j o hj hb e he h1
  obtain ⟨_, oi, hoi, hall⟩ := mem_ready.1 hi
  by_cases hij : i = j
  · subst hij
    have : oi = o := by
      have : l1[i]? = some oi := by simpa using hoi
      rw [hj] at this
      exact (Option.some.inj this).symm
    subst this
    exact getD_set_true (hall e he h1)
  · rw [getD_set_ne false hij] at hb
    exact getD_set_true (h j o hj hb e he h1)

theorem wpAny_more {P : Program} {md : Region.Mode} {ops : Array Oper} {Q : Exit → Act → World → Prop} : ∀ (n : Nat) (b : Array Bool) (a : Act) (w : World), wpAny P md ops Q n b a w → wpAny P md ops Q (n + 1) b a w
  | 0, _, _, _, h => ⟨fun _ => h.2, fun i hi => by rw [h.1] at hi; cases hi⟩
  | n + 1, _, _, _, h => ⟨h.1, fun i hi => wpOp_mono (fun a w hh => wpAny_more n _ a w hh) (h.2 i hi)⟩
theorem wpAny_plus {P : Program} {md : Region.Mode} {ops : Array Oper} {Q : Exit → Act → World → Prop} (n k : Nat) (b : Array Bool) (a : Act) (w : World) (h : wpAny P md ops Q n b a w) : wpAny P md ops Q (k + n) b a w := by
  induction k with
  | zero => simpa using h
  | succ k ih =>
    rw [show k + 1 + n = k + n + 1 by omega]
    exact wpAny_more _ _ _ _ ih

theorem wanted_two (o : Oper) (h : guardUnder o l1.length = true) (tmps : Array Value) : Region.wanted o (yielded (l1 ++ l2).toArray tmps) = Region.wanted o (yielded l1.toArray tmps) := by
  unfold guardUnder at h
  unfold Region.wanted
  cases hg : o.guard with
  | none => rfl
  | some g =>
    rw [hg] at h
    have hj : g.1 < l1.length := by simpa using h
    have : yielded (l1 ++ l2).toArray tmps g.1 = yielded l1.toArray tmps g.1 := by
      unfold yielded
      have e : (l1 ++ l2).toArray[g.1]? = l1.toArray[g.1]? := by
        simp [List.getElem?_append_left hj]
      rw [e]
    obtain ⟨j, b⟩ := g
    simp only at this ⊢
    rw [this]

theorem wpAny_two {P : Program} {C : World → Prop} {F : Act → Prop} {Q : Exit → Act → World → Prop} (T : Two l1 l2)
    (hF : ∀ a w, C w → F a → wpAny P .any (l1 ++ l2).toArray Q l2.length (Array.replicate l1.length true ++ Array.replicate l2.length false) a w) :
    ∀ (fuel : Nat) (b B : Array Bool) (a : Act) (w : World), C w → Ext l1.length l2.length b B → Down l1 b → wpAnyQ P .any l1.toArray C F fuel b a → wpAny P .any (l1 ++ l2).toArray Q (fuel + l2.length) B a w := by
  intro fuel
  induction fuel with
  | zero =>
    intro b B a w hC hE _ h
    rw [hE.done (all_of_none T hE.sz1 h.1)]
    simpa using hF a w hC h.2
  | succ fuel ih =>
    intro b B a w hC hE hD h
    by_cases hr : Region.ready .any l1.toArray b = []
    · rw [hE.done (all_of_none T hE.sz1 hr)]
      exact wpAny_plus _ _ _ _ _ (hF a w hC (h.1 hr))
    · have up : ∀ i, i ∈ Region.ready .any l1.toArray b → i ∈ Region.ready .any (l1 ++ l2).toArray B := by
        intro i hi
        obtain ⟨h1, o, ho, hall⟩ := mem_ready.1 hi
        have ho1 : l1[i]? = some o := by simpa using ho
        have hil : i < l1.length := (List.getElem?_eq_some_iff.1 ho1).1
        refine mem_ready.2 ⟨by rw [hE.getD i hil]; exact h1, o, by simp [List.getElem?_append_left hil, ho1], fun e he hb => ?_⟩
        have := (T.early i o ho1).1 e he
        rw [hE.getD e.on (by omega)]
        exact hall e he hb
      have down : ∀ i, i ∈ Region.ready .any (l1 ++ l2).toArray B → i < l1.length ∧ i ∈ Region.ready .any l1.toArray b := by
        intro i hi
        obtain ⟨h1, o, ho, hall⟩ := mem_ready.1 hi
        have ho1 : (l1 ++ l2)[i]? = some o := by simpa using ho
        by_cases hil : i < l1.length
        · refine ⟨hil, ?_⟩
          rw [List.getElem?_append_left hil] at ho1
          refine mem_ready.2 ⟨by rw [← hE.getD i hil]; exact h1, o, by simpa using ho1, fun e he hb => ?_⟩
          have := (T.early i o ho1).1 e he
          rw [← hE.getD e.on (by omega)]
          exact hall e he hb
        · exfalso
          rw [List.getElem?_append_right (by omega)] at ho1
          have hm : o ∈ l2 := List.mem_of_getElem? ho1
          obtain ⟨e, he, hb, hon⟩ := backs_spec (T.waits o hm)
          have hl := hall e he hb
          rw [hon, hE.getD _ (by have := T.pos; omega)] at hl
          apply hr
          have ha := all_of_last T hD hl
          cases hrr : Region.ready .any l1.toArray b with
          | nil => rfl
          | cons x xs =>
            have hx : x ∈ Region.ready .any l1.toArray b := by rw [hrr]; exact List.mem_cons_self
            obtain ⟨h2, ox, hox, _⟩ := mem_ready.1 hx
            have hox1 : l1[x]? = some ox := by simpa using hox
            have hxl : x < l1.length := (List.getElem?_eq_some_iff.1 hox1).1
            have h3 := ha (l1.length - 1 - x) x (by omega)
            rw [getD_some] at h2 h3
            rw [Array.getElem?_eq_getElem (by rw [hE.sz1]; exact hxl)] at h2 h3
            simp only [Option.getD_some] at h2 h3
            rw [h2] at h3
            cases h3
      rw [show fuel + 1 + l2.length = (fuel + l2.length) + 1 by omega]
      refine ⟨fun h0 => ?_, fun i hi => ?_⟩
      · exfalso
        cases hrr : Region.ready .any l1.toArray b with
        | nil => exact hr hrr
        | cons x xs =>
          have := up x (by rw [hrr]; exact List.mem_cons_self)
          rw [h0] at this
          cases this
      · obtain ⟨hil, hi1⟩ := down i hi
        have hq := h.2 i hi1
        have hop : wpOp P (l1 ++ l2).toArray Q i (fun a' w' => C w' ∧ wpAnyQ P .any l1.toArray C F fuel (b.setIfInBounds i true) a') a w := by
          have ho : l1[i]? = some l1[i] := List.getElem?_eq_getElem hil
          have ho2 : (l1 ++ l2).toArray[i]? = some l1[i] := by simp [List.getElem?_append_left hil, ho]
          have ho1 : l1.toArray[i]? = some l1[i] := by simp
          have hw := wanted_two (l1 := l1) (l2 := l2) l1[i] (T.early i _ ho).2 a.tmps
          unfold qOp at hq
          unfold wpOp
          simp only [ho1] at hq
          simp only [ho2]
          rw [hw]
          split
          · rename_i h5; simp only [h5, if_true] at hq
            exact .inl (Oper.wp_of_quiet hC (fun a' w' hw' hk => ⟨hw', hk⟩) hq)
          · rename_i h5; simp only [h5] at hq; exact ⟨hC, hq⟩
        exact wpOp_mono (fun a' w' hh => ih _ _ a' w' hh.1 (hE.set i hil) (hD.set hi1) hh.2) hop

/-- TWO PHASES: quiet in the class of worlds that are as 'w' was below B; then the rest, from any world of the class. -/
theorem wp_region_two {P : Program} {id : Nat} {Q : Exit → Act → World → Prop} {a : Act} {w : World} (B : Nat) (hm : P.follows .mixedOrders = true) (hB : Region.lexB .any l1.toArray = true) (hT : twoB l1 l2 = true)
    (h : wpQuiet P l1.toArray (fun w' => ∃ t : Fam B w, w' = t.at) (fun a' => ∀ t : Fam B w, wpAny P .any (l1 ++ l2).toArray Q l2.length (Array.replicate l1.length true ++ Array.replicate l2.length false) a' t.at) l1 a) : (Code.region id (l1 ++ l2).toArray true).wp P Q a w := by
  refine wp_region_any hm ?_
  have T := two_of hT
  simp only [Region.lexB, Bool.and_eq_true] at hB
  have hlex := wpAnyQ_lex (C := fun w' => ∃ t : Fam B w, w' = t.at) (md := .any) hB.1 l1 0 (Array.replicate l1.length false) a (by simp) (by simpa using hB.2) h
  have hE : Ext l1.length l2.length (Array.replicate l1.length false) (Array.replicate (l1 ++ l2).toArray.size false) := by
    refine ⟨by simp, by simp, fun i hi => ?_, fun i h1 h2 => ?_⟩
    · rw [Array.getElem?_eq_getElem (by simp; omega), Array.getElem?_eq_getElem (by simpa using hi)]; simp
    · rw [Array.getElem?_eq_getElem (by simpa using h2)]; simp
  have hD : Down l1 (Array.replicate l1.length false) := by
    intro i o hi hb
    rw [getD_some] at hb
    have : i < l1.length := (List.getElem?_eq_some_iff.1 hi).1
    rw [Array.getElem?_eq_getElem (by simpa using this)] at hb
    simp at hb
  have := wpAny_two (P := P) (Q := Q) (C := fun w' => ∃ t : Fam B w, w' = t.at) T (fun a w' hw' hf => by obtain ⟨t, rfl⟩ := hw'; exact hf t) l1.length _ _ a { w with drawn := w.drawn + 1 } ⟨⟨w.drew, (Below.refl _ _).drew⟩, rfl⟩ hE hD hlex
  simpa using this
end

/-- The same, the list given whole. -/
theorem wp_region_cut {P : Program} {id : Nat} {Q : Exit → Act → World → Prop} {a : Act} {w : World} {l : List Oper} (B k N1 N2 : Nat) (hm : P.follows .mixedOrders = true) (hB : Region.lexB .any (l.take k).toArray = true) (hT : twoB (l.take k) (l.drop k) = true)
    (h1 : (l.take k).length = N1) (h2 : (l.drop k).length = N2)
    (h : wpQuiet P (l.take k).toArray (fun w' => ∃ t : Fam B w, w' = t.at) (fun a' => ∀ t : Fam B w, wpAny P .any l.toArray Q N2 (Array.replicate N1 true ++ Array.replicate N2 false) a' t.at) (l.take k) a) : (Code.region id l.toArray true).wp P Q a w := by
  have := wp_region_two (id := id) (Q := Q) (a := a) (w := w) (l1 := l.take k) (l2 := l.drop k) B hm hB hT (by rw [List.take_append_drop, h1, h2]; exact h)
  rwa [List.take_append_drop] at this

/-- What the frame holds at the end is known but for one value. -/
theorem wp_two_ex {P : Program} {c : Code} {Q : Exit → Act → World → Prop} {a : Act} {w : World} (Mem : World → Prop)
    (h : ∃ X : Value → Act, c.wp P (fun e a' w' => e = .normal ∧ Mem w' ∧ ∃ v, a' = X v) a w ∧ ∀ v w', Mem w' → Q .normal (X v) w') : c.wp P Q a w := by
  obtain ⟨X, h1, h2⟩ := h
  refine Code.wp_mono (fun e a' w' hh => ?_) h1
  obtain ⟨rfl, hM, v, rfl⟩ := hh
  exact h2 v w' hM
end Go.Proofs.Ytccopcbemflemaa
