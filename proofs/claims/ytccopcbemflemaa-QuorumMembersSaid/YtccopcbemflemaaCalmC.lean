/-
  The walks of calm.Most, calm.Quiet, the shape.
-/
import Derived.Test.YtccopcbemflemaaFam
import Derived.Test.YtccopcbemflemaaRows
namespace Go.Proofs.Ytccopcbemflemaa
open Go Go.RowKit

set_option maxHeartbeats 400000 in
theorem shape_any (w : World) :
    Calls Try.prog 36 #[] w fun e w' => e = .returned (.agg #[.int .i64 0, .int .i64 3, .int .i64 1, .int .i64 20, .int .i64 3, .int .i64 6, .int .i64 1, .int .i64 10, .int .i64 400, .int .u64 3]) ∧ Below w.heap.size w w' := by
  go_enter Try.func36, Try.ntmps36
  go_wp2
  exact bodyPost_ret (v := .agg #[.int .i64 0, .int .i64 3, .int .i64 1, .int .i64 20, .int .i64 3, .int .i64 6, .int .i64 1, .int .i64 10, .int .i64 400, .int .u64 3]) (by simp [results, Try.results36, go_sem]) rfl ⟨rfl, (Below.refl _ _).alloc (Nat.le_refl _) _⟩

theorem assert_held (b : Bool) (w : World) : (Instr.typeAssert (.iface 38 (.bool b)) 20 76 true).run Try.prog w = .ok (.tuple #[.iface 38 (.bool b), .bool true]) w := by kernel_rfl
theorem missing_held (t : Array Method) (ht : t = #[]) : ∃ m, Instr.missingMethod #[("Held", 26)] t = some m := by
  subst ht
  unfold Instr.missingMethod
  simp [List.partition, List.partition.loop]
  generalize String.contains "Held" (Char.ofNat 46) = b
  cases b
  · exact ⟨_, Or.inl rfl⟩
  · exact ⟨_, Or.inl rfl⟩
theorem t3_methods : Try.t3.methods = #[] := by kernel_rfl
theorem t23_methods : Try.t23.methods = #[] := by kernel_rfl
theorem assert_int (b : Int) (w : World) : (Instr.typeAssert (.iface 3 (.int .i64 b)) 20 76 true).run Try.prog w = .ok (.tuple #[.nilIface, .bool false]) w := by
  obtain ⟨m, hm⟩ := missing_held _ t3_methods
  simp [Instr.typeAssert, go_sem, hm]
theorem assert_load (v : Value) (w : World) : (Instr.typeAssert (.iface 23 v) 20 76 true).run Try.prog w = .ok (.tuple #[.nilIface, .bool false]) w := by
  obtain ⟨m, hm⟩ := missing_held _ t23_methods
  simp [Instr.typeAssert, go_sem, hm]
theorem assert_nil (w : World) : (Instr.typeAssert .nilIface 20 76 true).run Try.prog w = .ok (.tuple #[.nilIface, .bool false]) w := by kernel_rfl
theorem method_held (b : Bool) (w : World) : (method 197 38 (.bool b) "Held").run Try.prog w = .ok (53, .bool b) w := by kernel_rfl

set_option maxHeartbeats 400000 in
theorem quiet_held (b : Bool) (w : World) :
    Calls Try.prog 16 #[.iface 38 (.bool b)] w fun e w' => e = .returned (.bool b) ∧ Below w.heap.size w w' := by
  have ha := assert_held b
  have hm := method_held b
  go_enter Try.func16, Try.ntmps16
  go_wp2
  go_ret
  exact ⟨rfl, Below.refl _ _⟩

set_option maxHeartbeats 400000 in
theorem quiet_int (b : Int) (w : World) :
    Calls Try.prog 16 #[.iface 3 (.int .i64 b)] w fun e w' => e = .returned (.bool false) ∧ Below w.heap.size w w' := by
  have ha := assert_int b
  go_enter Try.func16, Try.ntmps16
  go_wp2
  go_ret
  exact ⟨rfl, Below.refl _ _⟩

set_option maxHeartbeats 400000 in
theorem quiet_load (v : Value) (w : World) :
    Calls Try.prog 16 #[.iface 23 v] w fun e w' => e = .returned (.bool false) ∧ Below w.heap.size w w' := by
  have ha := assert_load v
  go_enter Try.func16, Try.ntmps16
  go_wp2
  go_ret
  exact ⟨rfl, Below.refl _ _⟩

set_option maxHeartbeats 400000 in
theorem quiet_nil (w : World) :
    Calls Try.prog 16 #[.nilIface] w fun e w' => e = .returned (.bool false) ∧ Below w.heap.size w w' := by
  have ha := assert_nil
  go_enter Try.func16, Try.ntmps16
  go_wp2
  go_ret
  exact ⟨rfl, Below.refl _ _⟩

/-- The greatest of the first k: calm.Most's answer. -/
def mostK (z : List Int) : Nat → Int
  | 0 => 0
  | k + 1 => if k = 0 then z[k]?.getD 0 else if mostK z k < z[k]?.getD 0 then z[k]?.getD 0 else mostK z k
theorem mostK_one (z : List Int) : mostK z 1 = z[0]?.getD 0 := rfl
theorem mostK_up (z : List Int) (k : Nat) (h : (((k : Int) == 0) = true) ∨ mostK z k < z[k]?.getD 0) : mostK z (k + 1) = z[k]?.getD 0 := by
  by_cases hk : k = 0
  · subst hk; rfl
  · have hk' : ¬ (((k : Int) == 0) = true) := by simp; omega
    simp [mostK, hk, h.resolve_left hk']
theorem mostK_on (z : List Int) (k : Nat) (h : (((k : Int) == 0) = false) ∧ z[k]?.getD 0 ≤ mostK z k) : mostK z (k + 1) = mostK z k := by
  have hk : ¬ k = 0 := by have := h.1; simp at this; omega
  have h2 : ¬ (mostK z k < z[k]?.getD 0) := by have := h.2; omega
  rw [mostK, if_neg hk, if_neg h2]

theorem round_int {k : IntKind} {a b : Int} (h : a = b) : Value.int k a = .int k b := by rw [h]

set_option maxHeartbeats 400000 in
theorem most_any (b off cap len : Nat) (z : List Int) (w : World) (hlen : len ≤ 1000) (hc : ∀ k, k < len → w.cell? ⟨b, off + k, none⟩ = some (.int .i64 (z.getD k 0))) :
    Calls Try.prog 14 #[.slice (some ⟨b, off, none⟩) len cap] w fun e w' => e = .returned (.tuple #[.int .i64 (mostK z len), .bool (decide ((0 : Int) < len))]) ∧ Below w.heap.size w w' := by
  go_enter Try.func14, Try.ntmps14
  go_wp2
  go_loop [4, 9] (fun n i => ∃ k : Nat, k ≤ len ∧ i = .int .i64 k ∧ n = .int .i64 (mostK z k)) (fun _ i => len - (intOf i).toNat)
  case atStart => exact ⟨0, by omega, rfl, rfl⟩
  case round =>
    obtain ⟨k, hk, rfl, rfl⟩ := hrel
    by_cases hlt : k < len
    · have hcell := hc k hlt
      go_wp2
      · rename_i h0
        subst h0
        go_round
        case rel => exact ⟨1, by omega, rfl, round_int (mostK_one z).symm⟩
        case measure => simp [intOf]; omega
      · have h1 : (((k : Int) == 0) = true) ∨ mostK z k < z[k]?.getD 0 := by assumption
        go_round
        case rel => exact ⟨k + 1, by omega, by go_num, round_int (mostK_up z k h1).symm⟩
        case measure => simp [intOf]; omega
      · have h1 : (((k : Int) == 0) = false) ∧ z[k]?.getD 0 ≤ mostK z k := by assumption
        go_round
        case rel => exact ⟨k + 1, by omega, by go_num, round_int (mostK_on z k h1).symm⟩
        case measure => simp [intOf]; omega
    · have : k = len := by omega
      subst this
      go_wp2
      go_ret2
      exact ⟨rfl, Below.refl _ _⟩

set_option maxHeartbeats 400000 in
theorem most_nil (w : World) :
    Calls Try.prog 14 #[.slice none 0 0] w fun e w' => e = .returned (.tuple #[.int .i64 0, .bool false]) ∧ Below w.heap.size w w' := by
  go_enter Try.func14, Try.ntmps14
  go_wp2
  refine wp_loop_rounds 1 ?_
  rw [rounds_succ]
  go_wp2
  go_ret2
  exact ⟨rfl, Below.refl _ _⟩

end Go.Proofs.Ytccopcbemflemaa
