/-
  Chains of wrapped errors in memory; errors.Is and errors.As at them.
-/
import Derived.Test.YtccopcbemflemaaDoorFacts
import Derived.Deep.Cut
import Derived.Below
namespace Go.Proofs.YtccopcbemflemaaDoor
open Go Go.RowKit Go.Extern.Stop Go.Stop Go.Extern

theorem lhid {p : Prop} (h : p) : Hid p := h
theorem wp_named {P : Program} {c : Code} {Q : Exit → Act → World → Prop} {a : Act} {w : World} (F : World → Prop) (hF : F w) (h : ∀ w', F w' → c.wp P Q a w') : c.wp P Q a w := h w hF

theorem d_mKind (h : Value) (w : World) : (Go.method 207 63 (.agg #[h]) "Kind").run Tryd.prog w = .ok (42, h) w := by kernel_rfl
theorem d_mElem (h : Value) (w : World) : (Go.method 207 63 (.agg #[h]) "Elem").run Tryd.prog w = .ok (54, .agg #[h]) w := by kernel_rfl
theorem d_mImplements (h : Value) (w : World) : (Go.method 207 63 (.agg #[h]) "Implements").run Tryd.prog w = .ok (55, .agg #[h]) w := by kernel_rfl
theorem d_mAssignableTo (h : Value) (w : World) : (Go.method 207 63 (.agg #[h]) "AssignableTo").run Tryd.prog w = .ok (52, .agg #[h]) w := by kernel_rfl
theorem d_mComparable (v : Value) (w : World) : (Go.method 207 63 v "Comparable").run Tryd.prog w = .ok (53, v) w := by kernel_rfl
theorem d_mUnwrap (v : Value) (w : World) : (Go.method 207 59 v "Unwrap").run Tryd.prog w = .ok (50, v) w := by kernel_rfl
theorem d_mError59 (v : Value) (w : World) : (Go.method 207 59 v "Error").run Tryd.prog w = .ok (49, v) w := by kernel_rfl
theorem d_mError29 (v : Value) (w : World) : (Go.method 207 29 v "Error").run Tryd.prog w = .ok (9, v) w := by kernel_rfl
theorem d_mError41 (v : Value) (w : World) : (Go.method 207 41 v "Error").run Tryd.prog w = .ok (45, v) w := by kernel_rfl

/-- The model's entry of (rtype).Comparable. -/
def cmpEntry : Array Value → Sem Value := ReflectliteType.method fun t => do Rtype.noPackHeld "Comparable" t; pure (.bool (← typeInfo t).comparable)
theorem d_cmp29 (w : World) : (cmpEntry #[.agg #[.pointer (some ⟨1, 29, none⟩)]]).run Tryd.prog w = .ok (.bool true) w := by kernel_rfl

/-- An error around which words lie: the words, from without to within; innermost: inn. -/
inductive Chain (W : World) (inn : Value) : Value → List ByteArray → Prop
  | leaf : Chain W inn inn []
  | wrap (b : Nat) (s : ByteArray) (E : Value) (l : List ByteArray) : W.cell? ⟨b, 0, none⟩ = some (.string s) → W.cell? ⟨b, 1, none⟩ = some E → Chain W inn E l → Chain W inn (.iface 59 (.pointer (some ⟨b, 0, none⟩))) (s :: l)

theorem block_lt_of_cell' {w : World} {a : Addr} {v : Value} (h : w.cell? a = some v) : a.block < w.heap.size := by
  rcases Nat.lt_or_ge a.block w.heap.size with h1 | h1
  · exact h1
  · simp [World.cell?, Array.getElem?_eq_none h1] at h
theorem Chain.kept {W W' : World} {inn E : Value} {l : List ByteArray} (h : Chain W inn E l) (hb : Below W.heap.size W W') : Chain W' inn E l := by
  induction h with
  | leaf => exact .leaf
  | wrap b s E l h0 h1 _ ih => exact .wrap b s E l ((hb.cell (block_lt_of_cell' h0)).trans h0) ((hb.cell (block_lt_of_cell' h1)).trans h1) ih
theorem Chain.iface {W : World} {inn E : Value} {l : List ByteArray} (h : Chain W inn E l) (hi : ∃ u v, inn = .iface u v) : ∃ u v, E = .iface u v := by
  cases h with
  | leaf => exact hi
  | wrap b s E l _ _ _ => exact ⟨_, _, rfl⟩
theorem Chain.unique {W : World} {inn E : Value} {l l' : List ByteArray} (hi : ∀ v, inn ≠ .iface 59 v) (h : Chain W inn E l) (h' : Chain W inn E l') : l = l' := by
  induction h generalizing l' with
  | leaf =>
    generalize hE : inn = E at h'
    cases h' with
    | leaf => rfl
    | wrap b s E l _ _ _ => exact absurd hE (hi _)
  | wrap b s E l h0 h1 hc ih =>
    generalize hE : Value.iface 59 (.pointer (some ⟨b, 0, none⟩)) = E2 at h'
    cases h' with
    | leaf => exact absurd hE.symm (hi _)
    | wrap b2 s2 E2 l2 k0 k1 kc =>
      cases hE
      rw [h0] at k0
      rw [h1] at k1
      cases k0
      cases k1
      rw [ih kc]

open Classical in
/-- How many words are left: the loop's measure. -/
noncomputable def chainLen (W : World) (inn E : Value) : Nat := if h : ∃ l, Chain W inn E l then h.choose.length else 0
theorem chainLen_eq {W : World} {inn E : Value} {l : List ByteArray} (h : Chain W inn E l) (hi : ∀ v, inn ≠ .iface 59 v) : chainLen W inn E = l.length := by
  unfold chainLen
  rw [dif_pos ⟨l, h⟩]
  rw [Chain.unique hi (Exists.choose_spec ⟨l, h⟩) h]

set_option maxRecDepth 100000 in
set_option maxHeartbeats 2000000 in
theorem is_loop29 (n k : Int) {W : World} (E : Value) (l : List ByteArray) (hch : Chain W (.iface 29 (.int .i64 n)) E l) :
    Calls Tryd.prog 25 #[E, .iface 29 (.int .i64 k), .bool true] W fun e w' => e = .returned (.bool (n == k)) ∧ w' = W := by
  have n59 := d_noIs59
  have n29 := d_noIs29
  have u59 := d_hasUnwrap59
  have u29 := d_noUnwrap29
  have us29 := d_noUnwraps29
  have mU := d_mUnwrap
  go_enter Tryd.func25, Tryd.ntmps25
  go_wp2
  go_loopw [0] (fun E' wl => wl = W ∧ ∃ l', Chain W (.iface 29 (.int .i64 n)) E' l') (fun E' _ => chainLen W (.iface 29 (.int .i64 n)) E')
  case atStart => exact ⟨rfl, l, hch⟩
  case round =>
    obtain ⟨rfl, l', hc'⟩ := hrel
    cases hc' with
    | leaf =>
      have heq := d_eql29 n k wr
      cases hb : (n == k) with
      | true =>
        rw [hb] at heq
        have HB := lhid hb
        clear hb
        go_wp2
        go_ret
        exact ⟨by rw [HB.out]; rfl, rfl⟩
      | false =>
        rw [hb] at heq
        have HB := lhid hb
        clear hb
        go_wp2
        go_ret
        exact ⟨by rw [HB.out]; rfl, rfl⟩
    | wrap b s E1 l1 h0 h1 hc1 =>
      have hty := run_eql_iface_types (P := Tryd.prog) 59 29 (.pointer (some ⟨b, 0, none⟩)) (.int .i64 k) Tryd.underlying25 (by decide) wr
      have hlen := chainLen_eq hc1 (by intro v h; cases h)
      have hlen0 := chainLen_eq (Chain.wrap b s E1 l1 h0 h1 hc1) (by intro v h; cases h)
      obtain ⟨u1, v1, rfl⟩ := hc1.iface ⟨_, _, rfl⟩
      have HC := lhid hc1
      clear hc1
      go_wp2
      go_roundw
      case rel => exact ⟨trivial, l1, HC.out⟩
      case measure =>
        show chainLen wr _ (.iface u1 v1) < _
        rw [hlen, hlen0]; simp

set_option maxRecDepth 100000 in
set_option maxHeartbeats 1000000 in
theorem is_any29 (n k : Int) {W : World} (E : Value) (l : List ByteArray) (hch : Chain W (.iface 29 (.int .i64 n)) E l) :
    Calls Tryd.prog 15 #[E, .iface 29 (.int .i64 k)] W fun e w' => e = .returned (.bool (n == k)) ∧ w' = W := by
  have h24 := @run_callFunc_extern Tryd.prog 24 _ Extern.ReflectliteType.typeOf Tryd.func24 (by kernel_rfl) (by kernel_rfl) (by kernel_rfl) (by kernel_rfl)
  have h53 := @run_callFunc_extern Tryd.prog 53 _ cmpEntry Tryd.func53 (by kernel_rfl) (by kernel_rfl) (by kernel_rfl) (by kernel_rfl)
  have tT := d_typeOf29
  have cT := d_cmp29
  have mR := d_mComparable
  obtain ⟨u1, v1, rfl⟩ := hch.iface ⟨_, _, rfl⟩
  have HC := lhid hch
  clear hch
  go_enter Tryd.func15, Tryd.ntmps15
  go_wp2_with (go_at_call 25; refine (is_loop29 n k _ l HC.out).mono ?_; rintro e w' ⟨rfl, rfl⟩)
  go_ret
  exact ⟨rfl, rfl⟩

set_option maxRecDepth 100000 in
set_option maxHeartbeats 2000000 in
theorem is_loop41 (v : Value) (k : Int) {W : World} (E : Value) (l : List ByteArray) (hch : Chain W (.iface 41 v) E l) :
    Calls Tryd.prog 25 #[E, .iface 29 (.int .i64 k), .bool true] W fun e w' => e = .returned (.bool false) ∧ w' = W := by
  have n59 := d_noIs59
  have n41 := d_noIs41
  have u59 := d_hasUnwrap59
  have u41 := d_noUnwrap41
  have us41 := d_noUnwraps41
  have mU := d_mUnwrap
  go_enter Tryd.func25, Tryd.ntmps25
  go_wp2
  go_loopw [0] (fun E' wl => wl = W ∧ ∃ l', Chain W (.iface 41 v) E' l') (fun E' _ => chainLen W (.iface 41 v) E')
  case atStart => exact ⟨rfl, l, hch⟩
  case round =>
    obtain ⟨rfl, l', hc'⟩ := hrel
    cases hc' with
    | leaf =>
      have heq := run_eql_iface_types (P := Tryd.prog) 41 29 v (.int .i64 k) Tryd.underlying25 (by decide) wr
      go_wp2
      go_ret
      exact ⟨rfl, rfl⟩
    | wrap b s E1 l1 h0 h1 hc1 =>
      have hty := run_eql_iface_types (P := Tryd.prog) 59 29 (.pointer (some ⟨b, 0, none⟩)) (.int .i64 k) Tryd.underlying25 (by decide) wr
      have hlen := chainLen_eq hc1 (by intro v h; cases h)
      have hlen0 := chainLen_eq (Chain.wrap b s E1 l1 h0 h1 hc1) (by intro v h; cases h)
      obtain ⟨u1, v1, rfl⟩ := hc1.iface ⟨_, _, rfl⟩
      have HC := lhid hc1
      clear hc1
      go_wp2
      go_roundw
      case rel => exact ⟨trivial, l1, HC.out⟩
      case measure =>
        show chainLen wr _ (.iface u1 v1) < _
        rw [hlen, hlen0]; simp

set_option maxRecDepth 100000 in
set_option maxHeartbeats 1000000 in
theorem is_any41 (v : Value) (k : Int) {W : World} (E : Value) (l : List ByteArray) (hch : Chain W (.iface 41 v) E l) :
    Calls Tryd.prog 15 #[E, .iface 29 (.int .i64 k)] W fun e w' => e = .returned (.bool false) ∧ w' = W := by
  have h24 := @run_callFunc_extern Tryd.prog 24 _ Extern.ReflectliteType.typeOf Tryd.func24 (by kernel_rfl) (by kernel_rfl) (by kernel_rfl) (by kernel_rfl)
  have h53 := @run_callFunc_extern Tryd.prog 53 _ cmpEntry Tryd.func53 (by kernel_rfl) (by kernel_rfl) (by kernel_rfl) (by kernel_rfl)
  have tT := d_typeOf29
  have cT := d_cmp29
  have mR := d_mComparable
  obtain ⟨u1, v1, rfl⟩ := hch.iface ⟨_, _, rfl⟩
  have HC := lhid hch
  clear hch
  go_enter Tryd.func15, Tryd.ntmps15
  go_wp2_with (go_at_call 25; refine (is_loop41 v k _ l HC.out).mono ?_; rintro e w' ⟨rfl, rfl⟩)
  go_ret
  exact ⟨rfl, rfl⟩

set_option maxRecDepth 100000 in
set_option maxHeartbeats 4000000 in
theorem as_loop29 (n : Int) (a t : Addr) (old : Value) {W : World} (ha : W.cell? a = some (.pointer (some t))) (ht : W.cell? t = some old) (hf : W.frozen? t = false) (E : Value) (l : List ByteArray) (hch : Chain W (.iface 29 (.int .i64 n)) E l) :
    Calls Tryd.prog 23 #[E, .iface 36 (.pointer (some t)), .agg #[.pointer (some ⟨1, 36, none⟩), .pointer (some a), .int .u64 150], .iface 63 (.agg #[.pointer (some ⟨1, 29, none⟩)])] W fun e w' => ∃ w1, Below W.heap.size W w1 ∧ e = .returned (.bool true) ∧ w' = w1.setCell t (.int .i64 n) := by
  have h24 := @run_callFunc_extern Tryd.prog 24 _ Extern.ReflectliteType.typeOf Tryd.func24 (by kernel_rfl) (by kernel_rfl) (by kernel_rfl) (by kernel_rfl)
  have h52 := @run_callFunc_extern Tryd.prog 52 _ (ReflectliteType.relation "AssignableTo" ReflectliteType.assignableTo) Tryd.func52 (by kernel_rfl) (by kernel_rfl) (by kernel_rfl) (by kernel_rfl)
  have h20 := @run_callFunc_extern Tryd.prog 20 _ (fun args => ReflectliteValue.unpack (args.getD 0 (.tuple #[]))) Tryd.func20 (by kernel_rfl) (by kernel_rfl) (by kernel_rfl) (by kernel_rfl)
  have h26 := @run_callFunc_extern Tryd.prog 26 _ (ReflectliteValue.method (ReflectliteValue.valueError "reflectlite.Value.Elem" 0) ReflectliteValue.elem) Tryd.func26 (by kernel_rfl) (by kernel_rfl) (by kernel_rfl) (by kernel_rfl)
  have h27 := @run_callFunc_extern Tryd.prog 27 _ ReflectliteValue.set Tryd.func27 (by kernel_rfl) (by kernel_rfl) (by kernel_rfl) (by kernel_rfl)
  have t59 := d_typeOf59
  have t29 := d_typeOf29
  have a59 := d_assign59
  have a29 := d_assign29
  have mA := d_mAssignableTo
  have mU := d_mUnwrap
  have n59 := d_noAs59
  have v29 := d_valueOf29
  have u59 := d_hasUnwrap59
  have u29 := d_noUnwrap29
  have us29 := d_noUnwraps29
  go_enter Tryd.func23, Tryd.ntmps23
  go_upto_region 1 with (fail)
  refine wp_named (fun w' => Below W.heap.size W w' ∧ w'.cell? ⟨W.heap.size, 0, none⟩ = some (.pointer (some ⟨1, 36, none⟩)) ∧ w'.cell? ⟨W.heap.size, 1, none⟩ = some (.pointer (some a)) ∧ w'.cell? ⟨W.heap.size, 2, none⟩ = some (.int .u64 150)) ⟨(Below.refl _ _).alloc (Nat.le_refl _) _, by simp, by simp, by simp⟩ ?_
  rintro W1 ⟨HB, cv0, cv1, cv2⟩
  have hal : a.block < W.heap.size := block_lt_of_cell' ha
  have htl0 : t.block < W.heap.size := block_lt_of_cell' ht
  have cA : W1.cell? a = some (.pointer (some t)) := (HB.cell hal).trans ha
  have cT : W1.cell? t = some old := (HB.cell htl0).trans ht
  have fT : W1.frozen? t = false := (HB.frozen htl0).trans hf
  have htl : t.block < W1.heap.size := Nat.lt_of_lt_of_le htl0 HB.size
  have HCH := hch.kept HB
  clear ha ht hf hch
  go_loopw [0] (fun E' wl => wl = W1 ∧ ∃ l', Chain W1 (.iface 29 (.int .i64 n)) E' l') (fun E' _ => chainLen W1 (.iface 29 (.int .i64 n)) E')
  case atStart => exact ⟨rfl, l, HCH⟩
  case round =>
    obtain ⟨rfl, l', hc'⟩ := hrel
    cases hc' with
    | leaf =>
      have el := d_elemV36 a t wr cA
      have st := d_set29 t ⟨wr.heap.size, 0, none⟩ n old (wr.alloc (.cells #[.int .i64 n] 29)) (by rw [World.cell?_alloc_at _ _ _ _ rfl]; rfl) (by rw [World.cell?_alloc_lt _ _ t htl]; exact cT) (by rw [World.frozen?_alloc_old _ _ t (Nat.ne_of_lt htl)]; exact fT)
      go_wp2
      go_ret
      exact ⟨_, (HB.alloc HB.size _), rfl, rfl⟩
    | wrap b s E1 l1 h0 h1 hc1 =>
      have hlen := chainLen_eq hc1 (by intro v h; cases h)
      have hlen0 := chainLen_eq (Chain.wrap b s E1 l1 h0 h1 hc1) (by intro v h; cases h)
      obtain ⟨u1, v1, rfl⟩ := hc1.iface ⟨_, _, rfl⟩
      have HC := lhid hc1
      clear hc1 HCH
      go_wp2
      go_roundw
      case rel => exact ⟨trivial, l1, HC.out⟩
      case measure =>
        show chainLen wr _ (.iface u1 v1) < _
        rw [hlen, hlen0]; simp

set_option maxRecDepth 100000 in
set_option maxHeartbeats 4000000 in
theorem as_loop41 (v : Value) (a t : Addr) (old : Value) {W : World} (ha : W.cell? a = some (.pointer (some t))) (ht : W.cell? t = some old) (hf : W.frozen? t = false) (E : Value) (l : List ByteArray) (hch : Chain W (.iface 41 v) E l) :
    Calls Tryd.prog 23 #[E, .iface 36 (.pointer (some t)), .agg #[.pointer (some ⟨1, 36, none⟩), .pointer (some a), .int .u64 150], .iface 63 (.agg #[.pointer (some ⟨1, 29, none⟩)])] W fun e w' => e = .returned (.bool false) ∧ Below W.heap.size W w' := by
  have h24 := @run_callFunc_extern Tryd.prog 24 _ Extern.ReflectliteType.typeOf Tryd.func24 (by kernel_rfl) (by kernel_rfl) (by kernel_rfl) (by kernel_rfl)
  have h52 := @run_callFunc_extern Tryd.prog 52 _ (ReflectliteType.relation "AssignableTo" ReflectliteType.assignableTo) Tryd.func52 (by kernel_rfl) (by kernel_rfl) (by kernel_rfl) (by kernel_rfl)
  have h20 := @run_callFunc_extern Tryd.prog 20 _ (fun args => ReflectliteValue.unpack (args.getD 0 (.tuple #[]))) Tryd.func20 (by kernel_rfl) (by kernel_rfl) (by kernel_rfl) (by kernel_rfl)
  have h26 := @run_callFunc_extern Tryd.prog 26 _ (ReflectliteValue.method (ReflectliteValue.valueError "reflectlite.Value.Elem" 0) ReflectliteValue.elem) Tryd.func26 (by kernel_rfl) (by kernel_rfl) (by kernel_rfl) (by kernel_rfl)
  have h27 := @run_callFunc_extern Tryd.prog 27 _ ReflectliteValue.set Tryd.func27 (by kernel_rfl) (by kernel_rfl) (by kernel_rfl) (by kernel_rfl)
  have t59 := d_typeOf59
  have t41 := d_typeOf41
  have a59 := d_assign59
  have a41 := d_assign41
  have mA := d_mAssignableTo
  have mU := d_mUnwrap
  have n59 := d_noAs59
  have n41 := d_noAs41
  have u59 := d_hasUnwrap59
  have u41 := d_noUnwrap41
  have us41 := d_noUnwraps41
  go_enter Tryd.func23, Tryd.ntmps23
  go_upto_region 1 with (fail)
  refine wp_named (fun w' => Below W.heap.size W w' ∧ w'.cell? ⟨W.heap.size, 0, none⟩ = some (.pointer (some ⟨1, 36, none⟩)) ∧ w'.cell? ⟨W.heap.size, 1, none⟩ = some (.pointer (some a)) ∧ w'.cell? ⟨W.heap.size, 2, none⟩ = some (.int .u64 150)) ⟨(Below.refl _ _).alloc (Nat.le_refl _) _, by simp, by simp, by simp⟩ ?_
  rintro W1 ⟨HB, cv0, cv1, cv2⟩
  have hal : a.block < W.heap.size := block_lt_of_cell' ha
  have htl0 : t.block < W.heap.size := block_lt_of_cell' ht
  have cA : W1.cell? a = some (.pointer (some t)) := (HB.cell hal).trans ha
  have cT : W1.cell? t = some old := (HB.cell htl0).trans ht
  have fT : W1.frozen? t = false := (HB.frozen htl0).trans hf
  have htl : t.block < W1.heap.size := Nat.lt_of_lt_of_le htl0 HB.size
  have HCH := hch.kept HB
  clear ha ht hf hch
  go_loopw [0] (fun E' wl => wl = W1 ∧ ∃ l', Chain W1 (.iface 41 v) E' l') (fun E' _ => chainLen W1 (.iface 41 v) E')
  case atStart => exact ⟨rfl, l, HCH⟩
  case round =>
    obtain ⟨rfl, l', hc'⟩ := hrel
    cases hc' with
    | leaf =>
      go_wp2
      go_ret
      exact ⟨rfl, HB⟩
    | wrap b s E1 l1 h0 h1 hc1 =>
      have hlen := chainLen_eq hc1 (by intro v h; cases h)
      have hlen0 := chainLen_eq (Chain.wrap b s E1 l1 h0 h1 hc1) (by intro v h; cases h)
      obtain ⟨u1, v1, rfl⟩ := hc1.iface ⟨_, _, rfl⟩
      have HC := lhid hc1
      clear hc1 HCH
      go_wp2
      go_roundw
      case rel => exact ⟨trivial, l1, HC.out⟩
      case measure =>
        show chainLen wr _ (.iface u1 v1) < _
        rw [hlen, hlen0]; simp

end Go.Proofs.YtccopcbemflemaaDoor
