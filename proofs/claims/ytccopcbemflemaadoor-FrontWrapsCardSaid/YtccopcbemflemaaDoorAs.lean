/-
  errors.As at a chain; front.number.
-/
import Derived.Test.YtccopcbemflemaaDoorChain
namespace Go.Proofs.YtccopcbemflemaaDoor
open Go Go.RowKit Go.Extern.Stop Go.Stop Go.Extern

set_option maxRecDepth 100000 in
set_option maxHeartbeats 4000000 in
theorem as_any29 (n : Int) (t : Addr) (old : Value) {W : World} (hg : W.cell? ⟨0, 0, none⟩ = some (.iface 63 (.agg #[.pointer (some ⟨1, 25, none⟩)]))) (ht : W.cell? t = some old) (hf : W.frozen? t = false) (E : Value) (l : List ByteArray) (hch : Chain W (.iface 29 (.int .i64 n)) E l) :
    Calls Tryd.prog 14 #[E, .iface 36 (.pointer (some t))] W fun e w' => ∃ w1, Below W.heap.size W w1 ∧ e = .returned (.bool true) ∧ w' = w1.setCell t (.int .i64 n) := by
  have h20 := @run_callFunc_extern Tryd.prog 20 _ (fun args => ReflectliteValue.unpack (args.getD 0 (.tuple #[]))) Tryd.func20 (by kernel_rfl) (by kernel_rfl) (by kernel_rfl) (by kernel_rfl)
  have h21 := @run_callFunc_extern Tryd.prog 21 _ (ReflectliteValue.methodAny (ReflectliteValue.valueError "reflectlite.Value.Type" 0) (fun t _ _ _ => ReflectliteType.toType t)) Tryd.func21 (by kernel_rfl) (by kernel_rfl) (by kernel_rfl) (by kernel_rfl)
  have h22 := @run_callFunc_extern Tryd.prog 22 _ (ReflectliteValue.method (ReflectliteValue.valueError "reflectlite.Value.IsNil" 0) ReflectliteValue.isNil) Tryd.func22 (by kernel_rfl) (by kernel_rfl) (by kernel_rfl) (by kernel_rfl)
  have h42 := @run_callFunc_extern Tryd.prog 42 _ (ReflectliteType.abiMethod fun t => do pure (.int .u8 (← Rtype.kind t))) Tryd.func42 (by kernel_rfl) (by kernel_rfl) (by kernel_rfl) (by kernel_rfl)
  have h54 := @run_callFunc_extern Tryd.prog 54 _ (ReflectliteType.method ReflectliteType.elem) Tryd.func54 (by kernel_rfl) (by kernel_rfl) (by kernel_rfl) (by kernel_rfl)
  have h55 := @run_callFunc_extern Tryd.prog 55 _ (ReflectliteType.relation "Implements" ReflectliteType.implements_) Tryd.func55 (by kernel_rfl) (by kernel_rfl) (by kernel_rfl) (by kernel_rfl)
  have f20 := d_valueOf36
  have f21 := d_type36
  have mK := d_mKind
  have mE := d_mElem
  have mI := d_mImplements
  have k36 := d_kind36
  have k29 := d_kind29
  have e36 := d_elem36
  have i29 := d_implements29
  obtain ⟨u1, v1, rfl⟩ := hch.iface ⟨_, _, rfl⟩
  have hg0 : (⟨0, 0, none⟩ : Addr).block < W.heap.size := block_lt_of_cell' hg
  have htl0 : t.block < W.heap.size := block_lt_of_cell' ht
  have HG := lhid hg
  have HT := lhid ht
  have HF := lhid hf
  have HC := lhid hch
  clear hg ht hf hch
  go_enter Tryd.func14, Tryd.ntmps14
  go_upto_region 6 with (fail)
  refine wp_named (fun w' => (Below W.heap.size W w' ∧ W.heap.size < w'.heap.size) ∧ w'.cell? ⟨W.heap.size, 0, none⟩ = some (.pointer (some t)) ∧ w'.cell? ⟨W.heap.size + 1, 0, none⟩ = some (.pointer (some ⟨1, 36, none⟩)) ∧ w'.cell? ⟨W.heap.size + 1, 1, none⟩ = some (.pointer (some ⟨W.heap.size, 0, none⟩)) ∧ w'.cell? ⟨W.heap.size + 1, 2, none⟩ = some (.int .u64 150)) ⟨⟨((Below.refl _ _).alloc (Nat.le_refl _) _).alloc (by simp) _, by simp; omega⟩, by go_simp⟩ ?_
  rintro W1 ⟨⟨HB, hlt⟩, ca, cv0, cv1, cv2⟩
  have hg := (HB.cell hg0).trans HG.out
  have ht := (HB.cell htl0).trans HT.out
  have hf := (HB.frozen htl0).trans HF.out
  have n22 := d_isNil36 ⟨W.heap.size, 0, none⟩ t W1 ca
  have HCH := lhid (HC.out.kept HB)
  go_wp2_with (go_at_call 23; refine (as_loop29 n ⟨W.heap.size, 0, none⟩ t old ca ht hf _ l HCH.out).mono ?_; rintro e w' ⟨w2, hb2, rfl, rfl⟩)
  go_ret
  exact ⟨w2, HB.trans (hb2.mono HB.size), rfl, rfl⟩

set_option maxRecDepth 100000 in
set_option maxHeartbeats 4000000 in
theorem as_any41 (v : Value) (t : Addr) (old : Value) {W : World} (hg : W.cell? ⟨0, 0, none⟩ = some (.iface 63 (.agg #[.pointer (some ⟨1, 25, none⟩)]))) (ht : W.cell? t = some old) (hf : W.frozen? t = false) (E : Value) (l : List ByteArray) (hch : Chain W (.iface 41 v) E l) :
    Calls Tryd.prog 14 #[E, .iface 36 (.pointer (some t))] W fun e w' => e = .returned (.bool false) ∧ Below W.heap.size W w' := by
  have h20 := @run_callFunc_extern Tryd.prog 20 _ (fun args => ReflectliteValue.unpack (args.getD 0 (.tuple #[]))) Tryd.func20 (by kernel_rfl) (by kernel_rfl) (by kernel_rfl) (by kernel_rfl)
  have h21 := @run_callFunc_extern Tryd.prog 21 _ (ReflectliteValue.methodAny (ReflectliteValue.valueError "reflectlite.Value.Type" 0) (fun t _ _ _ => ReflectliteType.toType t)) Tryd.func21 (by kernel_rfl) (by kernel_rfl) (by kernel_rfl) (by kernel_rfl)
  have h22 := @run_callFunc_extern Tryd.prog 22 _ (ReflectliteValue.method (ReflectliteValue.valueError "reflectlite.Value.IsNil" 0) ReflectliteValue.isNil) Tryd.func22 (by kernel_rfl) (by kernel_rfl) (by kernel_rfl) (by kernel_rfl)
  have h42 := @run_callFunc_extern Tryd.prog 42 _ (ReflectliteType.abiMethod fun t => do pure (.int .u8 (← Rtype.kind t))) Tryd.func42 (by kernel_rfl) (by kernel_rfl) (by kernel_rfl) (by kernel_rfl)
  have h54 := @run_callFunc_extern Tryd.prog 54 _ (ReflectliteType.method ReflectliteType.elem) Tryd.func54 (by kernel_rfl) (by kernel_rfl) (by kernel_rfl) (by kernel_rfl)
  have h55 := @run_callFunc_extern Tryd.prog 55 _ (ReflectliteType.relation "Implements" ReflectliteType.implements_) Tryd.func55 (by kernel_rfl) (by kernel_rfl) (by kernel_rfl) (by kernel_rfl)
  have f20 := d_valueOf36
  have f21 := d_type36
  have mK := d_mKind
  have mE := d_mElem
  have mI := d_mImplements
  have k36 := d_kind36
  have k29 := d_kind29
  have e36 := d_elem36
  have i29 := d_implements29
  obtain ⟨u1, v1, rfl⟩ := hch.iface ⟨_, _, rfl⟩
  have hg0 : (⟨0, 0, none⟩ : Addr).block < W.heap.size := block_lt_of_cell' hg
  have htl0 : t.block < W.heap.size := block_lt_of_cell' ht
  have HG := lhid hg
  have HT := lhid ht
  have HF := lhid hf
  have HC := lhid hch
  clear hg ht hf hch
  go_enter Tryd.func14, Tryd.ntmps14
  go_upto_region 6 with (fail)
  refine wp_named (fun w' => (Below W.heap.size W w' ∧ W.heap.size < w'.heap.size) ∧ w'.cell? ⟨W.heap.size, 0, none⟩ = some (.pointer (some t)) ∧ w'.cell? ⟨W.heap.size + 1, 0, none⟩ = some (.pointer (some ⟨1, 36, none⟩)) ∧ w'.cell? ⟨W.heap.size + 1, 1, none⟩ = some (.pointer (some ⟨W.heap.size, 0, none⟩)) ∧ w'.cell? ⟨W.heap.size + 1, 2, none⟩ = some (.int .u64 150)) ⟨⟨((Below.refl _ _).alloc (Nat.le_refl _) _).alloc (by simp) _, by simp; omega⟩, by go_simp⟩ ?_
  rintro W1 ⟨⟨HB, hlt⟩, ca, cv0, cv1, cv2⟩
  have hg := (HB.cell hg0).trans HG.out
  have ht := (HB.cell htl0).trans HT.out
  have hf := (HB.frozen htl0).trans HF.out
  have n22 := d_isNil36 ⟨W.heap.size, 0, none⟩ t W1 ca
  have HCH := lhid (HC.out.kept HB)
  go_wp2_with (go_at_call 23; refine (as_loop41 v ⟨W.heap.size, 0, none⟩ t old ca ht hf _ l HCH.out).mono ?_; rintro e w' ⟨rfl, hb2⟩)
  go_ret
  exact ⟨rfl, HB.trans (hb2.mono HB.size)⟩

set_option maxRecDepth 100000 in
set_option maxHeartbeats 1000000 in
theorem number_any29 (n : Int) {W : World} (hg : W.cell? ⟨0, 0, none⟩ = some (.iface 63 (.agg #[.pointer (some ⟨1, 25, none⟩)]))) (E : Value) (l : List ByteArray) (hch : Chain W (.iface 29 (.int .i64 n)) E l) :
    Calls Tryd.prog 19 #[E] W fun e w' => e = .returned (.tuple #[.int .i64 n, .bool true]) ∧ Below W.heap.size W w' := by
  have hg0 : (⟨0, 0, none⟩ : Addr).block < W.heap.size := block_lt_of_cell' hg
  have HG := lhid hg
  have HC := lhid hch
  clear hg hch
  go_enter Tryd.func19, Tryd.ntmps19
  go_upto_region 2 with (fail)
  refine wp_named (fun w' => Below W.heap.size W w' ∧ w'.cell? ⟨W.heap.size, 0, none⟩ = some (.int .i64 0) ∧ w'.frozen? ⟨W.heap.size, 0, none⟩ = false) ⟨(Below.refl _ _).alloc (Nat.le_refl _) _, by simp, by simp⟩ ?_
  rintro W1 ⟨HB, ct, ft⟩
  go_wp2_with (go_at_call 14; refine (as_any29 n ⟨W.heap.size, 0, none⟩ (.int .i64 0) ((HB.cell hg0).trans HG.out) ct ft _ l (HC.out.kept HB)).mono ?_; rintro e w' ⟨w2, hb2, rfl, rfl⟩; have c2 := (hb2.cell (p := ⟨W.heap.size, 0, none⟩) (block_lt_of_cell' ct)).trans ct)
  go_ret2
  exact ⟨rfl, (HB.trans (hb2.mono HB.size)).setCell (p := ⟨W.heap.size, 0, none⟩) (Nat.le_refl _) _⟩

set_option maxRecDepth 100000 in
set_option maxHeartbeats 1000000 in
theorem number_any41 (v : Value) {W : World} (hg : W.cell? ⟨0, 0, none⟩ = some (.iface 63 (.agg #[.pointer (some ⟨1, 25, none⟩)]))) (E : Value) (l : List ByteArray) (hch : Chain W (.iface 41 v) E l) :
    Calls Tryd.prog 19 #[E] W fun e w' => e = .returned (.tuple #[.int .i64 0, .bool false]) ∧ Below W.heap.size W w' := by
  have hg0 : (⟨0, 0, none⟩ : Addr).block < W.heap.size := block_lt_of_cell' hg
  have HG := lhid hg
  have HC := lhid hch
  clear hg hch
  go_enter Tryd.func19, Tryd.ntmps19
  go_upto_region 2 with (fail)
  refine wp_named (fun w' => Below W.heap.size W w' ∧ w'.cell? ⟨W.heap.size, 0, none⟩ = some (.int .i64 0) ∧ w'.frozen? ⟨W.heap.size, 0, none⟩ = false) ⟨(Below.refl _ _).alloc (Nat.le_refl _) _, by simp, by simp⟩ ?_
  rintro W1 ⟨HB, ct, ft⟩
  go_wp2_with (go_at_call 14; refine (as_any41 v ⟨W.heap.size, 0, none⟩ (.int .i64 0) ((HB.cell hg0).trans HG.out) ct ft _ l (HC.out.kept HB)).mono ?_; rintro e w2 ⟨rfl, hb2⟩; have c2 := (hb2.cell (p := ⟨W.heap.size, 0, none⟩) (block_lt_of_cell' ct)).trans ct)
  go_ret2
  exact ⟨rfl, HB.trans (hb2.mono HB.size)⟩

end Go.Proofs.YtccopcbemflemaaDoor
