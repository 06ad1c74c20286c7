/-
  Decode, both; Encode.
-/
import Derived.Test.YtccopcbemflemaaRefC
import Derived.Test.YtccopcbemflemaaAppend
import Derived.Laws.CopyOwn
import Derived.Laws.BytesArg
namespace Go.Proofs.Ytccopcbemflemaa
open Go Go.RowKit Go.Shelf

/-- A slice whose first 'len' bytes are f's. -/
def ByteRow (w : World) (a : Option Addr) (len : Nat) (f : Nat → Int) : Prop :=
  ∀ i, i < len → ∃ b off, a = some ⟨b, off, none⟩ ∧ b < w.heap.size ∧ w.cell? ⟨b, off + i, none⟩ = some (.int .u8 (f i))
theorem ByteRow.below {w w' : World} {B : Nat} {a : Option Addr} {len : Nat} {f : Nat → Int} (h : ByteRow w a len f) (hb : Below B w w') (hB : w.heap.size ≤ B) : ByteRow w' a len f := by
  intro i hi
  obtain ⟨b, off, ha, hlt, hc⟩ := h i hi
  exact ⟨b, off, ha, Nat.lt_of_lt_of_le hlt hb.size, (hb.cell (p := ⟨b, off + i, none⟩) (Nat.lt_of_lt_of_le hlt hB)).trans hc⟩

/-- The first k of f's, then zeros. -/
def pre (f : Nat → Int) (k : Nat) : Nat → Int := fun j => if j < k then f j else 0
theorem pre_zero (f : Nat → Int) : pre f 0 = zeroM := by funext j; simp [pre, zeroM]
theorem pre_upd (f : Nat → Int) (k : Nat) : upd (pre f k) k (f k) = pre f (k + 1) := by
  funext j
  unfold upd pre
  by_cases e : j = k
  · subst e; simp
  · by_cases h : j < k
    · simp [e, h, show j < k + 1 by omega]
    · simp [e, h, show ¬ j < k + 1 by omega]
theorem pre_bd {f : Nat → Int} {n : Nat} (h : ∀ k, k < n → 0 ≤ f k ∧ f k ≤ 255) (k : Nat) (hk : k ≤ n) : ∀ j, j < 9 → 0 ≤ pre f k j ∧ pre f k j ≤ 255 := by
  intro j _
  unfold pre
  split
  · exact h j (by omega)
  · omega
/-- What bytes decode to; an error's number. -/
def decM (f : Nat → Int) (n : Nat) : (Nat → Int) × Int := if n = 9 ∧ rightB (pre f 9) = true then (pre f 9, 0) else (zeroM, 8)

theorem arrAt_block {w : World} {b : Nat} {cs : Array Value} {t : TypeId} {m : Nat → Int} (h : BlockAt w b cs t) (hc : ∀ j, j < 9 → cs[j]? = some (.int .u8 (m j))) : ArrAt w b m :=
  ⟨fun j hj => (h.cell j).trans (hc j hj), fun j hj => by simp [World.frozen?, show w.heap[b]? = _ from h]⟩
theorem info5 : (Try.prog.info? 5).map (fun i => (i.zero, i.size, i.bytes)) = some (some (.int .u8 0), 1, 1) := by kernel_rfl
theorem size5 : (Try.prog.info? 5).map (·.size) = some 1 := by kernel_rfl

theorem copySrc {w : World} {b off : Nat} {f : Nat → Int} (h : ByteRow w (some ⟨b, off, none⟩) 9 f) {j : Nat} {v : Value} (hj : ([.int .u8 (f 0), .int .u8 (f 1), .int .u8 (f 2), .int .u8 (f 3), .int .u8 (f 4), .int .u8 (f 5), .int .u8 (f 6), .int .u8 (f 7), .int .u8 (f 8)] : List Value)[j]? = some v) : w.cell? ((⟨b, off, none⟩ : Addr).add j) = some v := by
  have hlt : j < 9 := by have := (List.getElem?_eq_some_iff.1 hj).1; simpa using this
  obtain ⟨b', off', e, _, hc⟩ := h j hlt
  cases e
  have hadd : (⟨b, off, none⟩ : Addr).add j = ⟨b, off + j, none⟩ := by unfold Addr.add; split <;> simp_all
  rw [hadd, hc]
  rcases (show j = 0 ∨ j = 1 ∨ j = 2 ∨ j = 3 ∨ j = 4 ∨ j = 5 ∨ j = 6 ∨ j = 7 ∨ j = 8 by omega) with rfl | rfl | rfl | rfl | rfl | rfl | rfl | rfl | rfl <;> exact hj
theorem copyOne (f : Nat → Int) : ∀ v ∈ ([.int .u8 (f 0), .int .u8 (f 1), .int .u8 (f 2), .int .u8 (f 3), .int .u8 (f 4), .int .u8 (f 5), .int .u8 (f 6), .int .u8 (f 7), .int .u8 (f 8)] : List Value), v.oneCell' = true := by
  intro v hv
  simp at hv
  rcases hv with rfl | rfl | rfl | rfl | rfl | rfl | rfl | rfl | rfl <;> rfl
theorem arrAt_copied {w : World} {b : Nat} {f : Nat → Int} (h : w.heap[b]? = some (.cells (splice [.int .u8 0, .int .u8 0, .int .u8 0, .int .u8 0, .int .u8 0, .int .u8 0, .int .u8 0, .int .u8 0, .int .u8 0] 0 [.int .u8 (f 0), .int .u8 (f 1), .int .u8 (f 2), .int .u8 (f 3), .int .u8 (f 4), .int .u8 (f 5), .int .u8 (f 6), .int .u8 (f 7), .int .u8 (f 8)]).toArray 42 (0, 0))) : ArrAt w b (pre f 9) := by
  refine arrAt_block (cs := (splice ([.int .u8 0, .int .u8 0, .int .u8 0, .int .u8 0, .int .u8 0, .int .u8 0, .int .u8 0, .int .u8 0, .int .u8 0] : List Value) 0 ([.int .u8 (f 0), .int .u8 (f 1), .int .u8 (f 2), .int .u8 (f 3), .int .u8 (f 4), .int .u8 (f 5), .int .u8 (f 6), .int .u8 (f 7), .int .u8 (f 8)] : List Value)).toArray) (t := 42) h fun j hj => ?_
  rcases (show j = 0 ∨ j = 1 ∨ j = 2 ∨ j = 3 ∨ j = 4 ∨ j = 5 ∨ j = 6 ∨ j = 7 ∨ j = 8 by omega) with rfl | rfl | rfl | rfl | rfl | rfl | rfl | rfl | rfl <;> rfl

set_option maxRecDepth 100000 in
set_option maxHeartbeats 2000000 in
theorem refDecode_any (a : Option Addr) (n c : Nat) (f : Nat → Int) (hf : ∀ k, k < n → 0 ≤ f k ∧ f k ≤ 255) (w : World) (hN : ByteRow w a n f) :
    Calls Try.prog 26 #[.slice a n c] w fun e w' => e = .returned (.tuple #[.agg #[.int .u8 ((decM f n).1 0), .int .u8 ((decM f n).1 1), .int .u8 ((decM f n).1 2), .int .u8 ((decM f n).1 3), .int .u8 ((decM f n).1 4), .int .u8 ((decM f n).1 5), .int .u8 ((decM f n).1 6), .int .u8 ((decM f n).1 7), .int .u8 ((decM f n).1 8)], .int .i64 (decM f n).2]) ∧ Below w.heap.size w w' := by
  have HF := lhid hf
  have HN := lhid hN
  clear hf hN
  go_enter Try.func26, Try.ntmps26
  go_upto_region 2 with (fail)
  refine wp_named (fun w' => (ArrAt w' w.heap.size zeroM ∧ ArrAt w' (w.heap.size + 1) zeroM) ∧ Below w.heap.size w w') ?_ ?_
  · exact ⟨⟨(ArrAt.new w zeroM 41 _ rfl).alloc _, ArrAt.new _ zeroM 41 _ (by simp)⟩, ((Below.refl _ _).alloc (Nat.le_refl _) _).alloc (by simp) _⟩
  rintro w1 ⟨⟨HY, HZ⟩, HB1⟩
  by_cases h9 : n = 9
  · subst h9
    have HY1 := lhid HY
    have HZ1 := lhid HZ
    clear HY HZ
    go_wp2_with fail
    go_loopw [5] (fun i wr => ∃ k : Nat, k ≤ 9 ∧ i = .int .i64 k ∧ ArrAt wr (w.heap.size + 1) (pre f k) ∧ ArrAt wr w.heap.size zeroM ∧ Below w.heap.size w wr) (fun i _ => 9 - (intOf i).toNat)
    case atStart => exact ⟨0, by omega, rfl, by rw [pre_zero]; exact HZ1.out, HY1.out, HB1⟩
    case round =>
      obtain ⟨k, hk, rfl, HP, HY, HB⟩ := hrel
      by_cases hlt : k < 9
      · have cst := HP.1 k hlt
        have fst_ := HP.2 k hlt
        obtain ⟨bb, bo, rfl, _, hcb⟩ := (HN.out.below HB (Nat.le_refl _)) k hlt
        have HP2 := lhid HP
        have HY2 := lhid HY
        clear HP HY
        go_wp2
        go_roundw
        case rel => exact ⟨k + 1, by omega, by go_num, by rw [← pre_upd]; exact HP2.out.set k hlt _, HY2.out.other (by omega) _, HB.setCell (p := ⟨w.heap.size + 1, k, none⟩) (by simp) _⟩
        case measure => simp [intOf]; omega
      · obtain rfl : k = 9 := by omega
        obtain ⟨R, hR⟩ : ∃ R, R = rightB (pre f 9) := ⟨_, rfl⟩
        have HR := lhid hR
        have c0 := HP.1 0 (by omega)
        have c1 := HP.1 1 (by omega)
        have c2 := HP.1 2 (by omega)
        have c3 := HP.1 3 (by omega)
        have c4 := HP.1 4 (by omega)
        have c5 := HP.1 5 (by omega)
        have c6 := HP.1 6 (by omega)
        have c7 := HP.1 7 (by omega)
        have c8 := HP.1 8 (by omega)
        have HY2 := lhid HY
        have HP2 := lhid HP
        clear HP HY hR
        cases R with
        | true =>
          go_wp2_with (go_at_call 27; refine (refRight_any (pre f 9) (pre_bd HF.out 9 (Nat.le_refl 9)) _).mono ?_; rintro e w3 ⟨rfl, hb3⟩; rw [← HR.out]; have HP := (HP2.out.below hb3 HP2.out.lt); have HY := (HY2.out.below hb3 HY2.out.lt); have d0 := HP.1 0 (by omega); have d1 := HP.1 1 (by omega); have d2 := HP.1 2 (by omega); have d3 := HP.1 3 (by omega); have d4 := HP.1 4 (by omega); have d5 := HP.1 5 (by omega); have d6 := HP.1 6 (by omega); have d7 := HP.1 7 (by omega); have d8 := HP.1 8 (by omega); have y0 := HY.1 0 (by omega); have x0 := HY.2 0 (by omega); have y1 := HY.1 1 (by omega); have x1 := HY.2 1 (by omega); have y2 := HY.1 2 (by omega); have x2 := HY.2 2 (by omega); have y3 := HY.1 3 (by omega); have x3 := HY.2 3 (by omega); have y4 := HY.1 4 (by omega); have x4 := HY.2 4 (by omega); have y5 := HY.1 5 (by omega); have x5 := HY.2 5 (by omega); have y6 := HY.1 6 (by omega); have x6 := HY.2 6 (by omega); have y7 := HY.1 7 (by omega); have x7 := HY.2 7 (by omega); have y8 := HY.1 8 (by omega); have x8 := HY.2 8 (by omega); clear HP HY)
          refine bodyPost_ret (v := .tuple #[.agg #[.int .u8 (pre f 9 0), .int .u8 (pre f 9 1), .int .u8 (pre f 9 2), .int .u8 (pre f 9 3), .int .u8 (pre f 9 4), .int .u8 (pre f 9 5), .int .u8 (pre f 9 6), .int .u8 (pre f 9 7), .int .u8 (pre f 9 8)], .int .i64 0]) (by simp [results, Try.results26, go_sem, y0, y1, y2, y3, y4, y5, y6, y7, y8]) rfl ⟨?_, ?_⟩
          · rw [decM, if_pos ⟨rfl, HR.out.symm⟩]
          · have HB3 := HB.trans (hb3.mono HB.size)
            exact (((((((((HB3).setCell (p := ⟨w.heap.size, 0, none⟩) (by simp) _).setCell (p := ⟨w.heap.size, 1, none⟩) (by simp) _).setCell (p := ⟨w.heap.size, 2, none⟩) (by simp) _).setCell (p := ⟨w.heap.size, 3, none⟩) (by simp) _).setCell (p := ⟨w.heap.size, 4, none⟩) (by simp) _).setCell (p := ⟨w.heap.size, 5, none⟩) (by simp) _).setCell (p := ⟨w.heap.size, 6, none⟩) (by simp) _).setCell (p := ⟨w.heap.size, 7, none⟩) (by simp) _).setCell (p := ⟨w.heap.size, 8, none⟩) (by simp) _
        | false =>
          go_wp2_with (go_at_call 27; refine (refRight_any (pre f 9) (pre_bd HF.out 9 (Nat.le_refl 9)) _).mono ?_; rintro e w3 ⟨rfl, hb3⟩; rw [← HR.out]; have HP := (HP2.out.below hb3 HP2.out.lt); have HY := (HY2.out.below hb3 HY2.out.lt); have y0 := HY.1 0 (by omega); have x0 := HY.2 0 (by omega); have y1 := HY.1 1 (by omega); have x1 := HY.2 1 (by omega); have y2 := HY.1 2 (by omega); have x2 := HY.2 2 (by omega); have y3 := HY.1 3 (by omega); have x3 := HY.2 3 (by omega); have y4 := HY.1 4 (by omega); have x4 := HY.2 4 (by omega); have y5 := HY.1 5 (by omega); have x5 := HY.2 5 (by omega); have y6 := HY.1 6 (by omega); have x6 := HY.2 6 (by omega); have y7 := HY.1 7 (by omega); have x7 := HY.2 7 (by omega); have y8 := HY.1 8 (by omega); have x8 := HY.2 8 (by omega); clear HP HY)
          refine bodyPost_ret (v := .tuple #[.agg #[.int .u8 0, .int .u8 0, .int .u8 0, .int .u8 0, .int .u8 0, .int .u8 0, .int .u8 0, .int .u8 0, .int .u8 0], .int .i64 8]) (by simp [results, Try.results26, go_sem, y0, y1, y2, y3, y4, y5, y6, y7, y8]) rfl ⟨?_, ?_⟩
          · rw [decM, if_neg (fun h => by have := h.2; rw [← HR.out] at this; cases this)]; rfl
          · have HB3 := HB.trans (hb3.mono HB.size)
            exact (((((((((HB3).setCell (p := ⟨w.heap.size, 0, none⟩) (by simp) _).setCell (p := ⟨w.heap.size, 1, none⟩) (by simp) _).setCell (p := ⟨w.heap.size, 2, none⟩) (by simp) _).setCell (p := ⟨w.heap.size, 3, none⟩) (by simp) _).setCell (p := ⟨w.heap.size, 4, none⟩) (by simp) _).setCell (p := ⟨w.heap.size, 5, none⟩) (by simp) _).setCell (p := ⟨w.heap.size, 6, none⟩) (by simp) _).setCell (p := ⟨w.heap.size, 7, none⟩) (by simp) _).setCell (p := ⟨w.heap.size, 8, none⟩) (by simp) _
  · have hne : ((n : Int) == 9) = false := beq_eq_false_iff_ne.2 (by omega)
    have hne2 : ((n : Int) != 9) = true := by simp [bne, hne]
    have y0 := HY.1 0 (by omega)
    have x0 := HY.2 0 (by omega)
    have y1 := HY.1 1 (by omega)
    have x1 := HY.2 1 (by omega)
    have y2 := HY.1 2 (by omega)
    have x2 := HY.2 2 (by omega)
    have y3 := HY.1 3 (by omega)
    have x3 := HY.2 3 (by omega)
    have y4 := HY.1 4 (by omega)
    have x4 := HY.2 4 (by omega)
    have y5 := HY.1 5 (by omega)
    have x5 := HY.2 5 (by omega)
    have y6 := HY.1 6 (by omega)
    have x6 := HY.2 6 (by omega)
    have y7 := HY.1 7 (by omega)
    have x7 := HY.2 7 (by omega)
    have y8 := HY.1 8 (by omega)
    have x8 := HY.2 8 (by omega)
    have c0 := HZ.1 0 (by omega)
    have c1 := HZ.1 1 (by omega)
    have c2 := HZ.1 2 (by omega)
    have c3 := HZ.1 3 (by omega)
    have c4 := HZ.1 4 (by omega)
    have c5 := HZ.1 5 (by omega)
    have c6 := HZ.1 6 (by omega)
    have c7 := HZ.1 7 (by omega)
    have c8 := HZ.1 8 (by omega)
    go_wp2
    refine bodyPost_ret (v := .tuple #[.agg #[.int .u8 0, .int .u8 0, .int .u8 0, .int .u8 0, .int .u8 0, .int .u8 0, .int .u8 0, .int .u8 0, .int .u8 0], .int .i64 8]) (by simp [results, Try.results26, go_sem, zeroM, y0, y1, y2, y3, y4, y5, y6, y7, y8]) rfl ⟨?_, ?_⟩
    · rw [decM, if_neg (fun h => h9 h.1)]; rfl
    · exact (((((((((HB1).setCell (p := ⟨w.heap.size, 0, none⟩) (by simp) _).setCell (p := ⟨w.heap.size, 1, none⟩) (by simp) _).setCell (p := ⟨w.heap.size, 2, none⟩) (by simp) _).setCell (p := ⟨w.heap.size, 3, none⟩) (by simp) _).setCell (p := ⟨w.heap.size, 4, none⟩) (by simp) _).setCell (p := ⟨w.heap.size, 5, none⟩) (by simp) _).setCell (p := ⟨w.heap.size, 6, none⟩) (by simp) _).setCell (p := ⟨w.heap.size, 7, none⟩) (by simp) _).setCell (p := ⟨w.heap.size, 8, none⟩) (by simp) _

set_option maxRecDepth 100000 in
set_option maxHeartbeats 2000000 in
theorem decode_any (a : Option Addr) (n c : Nat) (f : Nat → Int) (hf : ∀ k, k < n → 0 ≤ f k ∧ f k ≤ 255) (w : World) (hN : ByteRow w a n f) :
    Calls Try.prog 25 #[.slice a n c] w fun e w' => e = .returned (.tuple #[.agg #[.int .u8 ((decM f n).1 0), .int .u8 ((decM f n).1 1), .int .u8 ((decM f n).1 2), .int .u8 ((decM f n).1 3), .int .u8 ((decM f n).1 4), .int .u8 ((decM f n).1 5), .int .u8 ((decM f n).1 6), .int .u8 ((decM f n).1 7), .int .u8 ((decM f n).1 8)], .int .i64 (decM f n).2]) ∧ Below w.heap.size w w' := by
  have HF := lhid hf
  have HN := lhid hN
  clear hf hN
  go_enter Try.func25, Try.ntmps25
  go_upto_region 2 with (fail)
  refine wp_named (fun w' => (ArrAt w' w.heap.size zeroM ∧ BlockAt w' (w.heap.size + 1) #[.int .u8 0, .int .u8 0, .int .u8 0, .int .u8 0, .int .u8 0, .int .u8 0, .int .u8 0, .int .u8 0, .int .u8 0] 42) ∧ Below w.heap.size w w') ?_ ?_
  · exact ⟨⟨(ArrAt.new w zeroM 42 _ rfl).alloc _, BlockAt.at_size _ _ _ _ (by simp)⟩, ((Below.refl _ _).alloc (Nat.le_refl _) _).alloc (by simp) _⟩
  rintro w1 ⟨⟨HY, HZ⟩, HB1⟩
  by_cases h9 : n = 9
  · subst h9
    obtain ⟨bb, bo, rfl, hbb, _⟩ := HN.out 0 (by omega)
    have HN1 := lhid (HN.out.below HB1 (Nat.le_refl _))
    have HY1 := lhid HY
    have HZ1 := lhid HZ
    clear HY HZ
    obtain ⟨R, hR⟩ : ∃ R, R = rightB (pre f 9) := ⟨_, rfl⟩
    have HR := lhid hR
    clear hR
    cases R with
    | true =>
      go_wp2_with (first
        | (refine wpList_copy_splice rfl (.tmp 9) (.tmp 10) 59 59 rfl 5 Try.underlying59 size5 (some ⟨w.heap.size + 1, 0, none⟩) (some ⟨bb, bo, none⟩) 9 9 9 c rfl rfl (w.heap.size + 1) 0 [.int .u8 0, .int .u8 0, .int .u8 0, .int .u8 0, .int .u8 0, .int .u8 0, .int .u8 0, .int .u8 0, .int .u8 0] 42 HZ1.out [.int .u8 (f 0), .int .u8 (f 1), .int .u8 (f 2), .int .u8 (f 3), .int .u8 (f 4), .int .u8 (f 5), .int .u8 (f 6), .int .u8 (f 7), .int .u8 (f 8)] rfl (fun _ => ⟨rfl, _, rfl, fun j v hj => copySrc HN1.out hj⟩) (by simp) (copyOne f) (w.heap.size + 1) w1 (Below.refl _ _) (Nat.le_refl _) ?_; intro w2 hg hb2; have HP := arrAt_copied (f := f) hg.out; have HY2 := lhid (HY1.out.below hb2 (by omega)); have HP2 := lhid HP; have c0 := HP.1 0 (by omega); have c1 := HP.1 1 (by omega); have c2 := HP.1 2 (by omega); have c3 := HP.1 3 (by omega); have c4 := HP.1 4 (by omega); have c5 := HP.1 5 (by omega); have c6 := HP.1 6 (by omega); have c7 := HP.1 7 (by omega); have c8 := HP.1 8 (by omega); clear HP)
        | (go_at_call 20; refine (right_any (pre f 9) (pre_bd HF.out 9 (Nat.le_refl 9)) _).mono ?_; rintro e w3 ⟨rfl, hb3⟩; rw [← HR.out]; have HP := (HP2.out.below hb3 HP2.out.lt); have HY := (HY2.out.below hb3 HY2.out.lt); have d0 := HP.1 0 (by omega); have d1 := HP.1 1 (by omega); have d2 := HP.1 2 (by omega); have d3 := HP.1 3 (by omega); have d4 := HP.1 4 (by omega); have d5 := HP.1 5 (by omega); have d6 := HP.1 6 (by omega); have d7 := HP.1 7 (by omega); have d8 := HP.1 8 (by omega); have y0 := HY.1 0 (by omega); have x0 := HY.2 0 (by omega); have y1 := HY.1 1 (by omega); have x1 := HY.2 1 (by omega); have y2 := HY.1 2 (by omega); have x2 := HY.2 2 (by omega); have y3 := HY.1 3 (by omega); have x3 := HY.2 3 (by omega); have y4 := HY.1 4 (by omega); have x4 := HY.2 4 (by omega); have y5 := HY.1 5 (by omega); have x5 := HY.2 5 (by omega); have y6 := HY.1 6 (by omega); have x6 := HY.2 6 (by omega); have y7 := HY.1 7 (by omega); have x7 := HY.2 7 (by omega); have y8 := HY.1 8 (by omega); have x8 := HY.2 8 (by omega); clear HP HY))
      refine bodyPost_ret (v := .tuple #[.agg #[.int .u8 (pre f 9 0), .int .u8 (pre f 9 1), .int .u8 (pre f 9 2), .int .u8 (pre f 9 3), .int .u8 (pre f 9 4), .int .u8 (pre f 9 5), .int .u8 (pre f 9 6), .int .u8 (pre f 9 7), .int .u8 (pre f 9 8)], .int .i64 0]) (by simp [results, Try.results25, go_sem, y0, y1, y2, y3, y4, y5, y6, y7, y8]) rfl ⟨?_, ?_⟩
      · rw [decM, if_pos ⟨rfl, HR.out.symm⟩]
      · have HB3 := (HB1.trans (hb2.mono (by omega))).trans (hb3.mono (by have := HB1.size; have := hb2.size; omega))
        exact (((((((((HB3).setCell (p := ⟨w.heap.size, 0, none⟩) (by simp) _).setCell (p := ⟨w.heap.size, 1, none⟩) (by simp) _).setCell (p := ⟨w.heap.size, 2, none⟩) (by simp) _).setCell (p := ⟨w.heap.size, 3, none⟩) (by simp) _).setCell (p := ⟨w.heap.size, 4, none⟩) (by simp) _).setCell (p := ⟨w.heap.size, 5, none⟩) (by simp) _).setCell (p := ⟨w.heap.size, 6, none⟩) (by simp) _).setCell (p := ⟨w.heap.size, 7, none⟩) (by simp) _).setCell (p := ⟨w.heap.size, 8, none⟩) (by simp) _
    | false =>
      go_wp2_with (first
        | (refine wpList_copy_splice rfl (.tmp 9) (.tmp 10) 59 59 rfl 5 Try.underlying59 size5 (some ⟨w.heap.size + 1, 0, none⟩) (some ⟨bb, bo, none⟩) 9 9 9 c rfl rfl (w.heap.size + 1) 0 [.int .u8 0, .int .u8 0, .int .u8 0, .int .u8 0, .int .u8 0, .int .u8 0, .int .u8 0, .int .u8 0, .int .u8 0] 42 HZ1.out [.int .u8 (f 0), .int .u8 (f 1), .int .u8 (f 2), .int .u8 (f 3), .int .u8 (f 4), .int .u8 (f 5), .int .u8 (f 6), .int .u8 (f 7), .int .u8 (f 8)] rfl (fun _ => ⟨rfl, _, rfl, fun j v hj => copySrc HN1.out hj⟩) (by simp) (copyOne f) (w.heap.size + 1) w1 (Below.refl _ _) (Nat.le_refl _) ?_; intro w2 hg hb2; have HP := arrAt_copied (f := f) hg.out; have HY2 := lhid (HY1.out.below hb2 (by omega)); have HP2 := lhid HP; have c0 := HP.1 0 (by omega); have c1 := HP.1 1 (by omega); have c2 := HP.1 2 (by omega); have c3 := HP.1 3 (by omega); have c4 := HP.1 4 (by omega); have c5 := HP.1 5 (by omega); have c6 := HP.1 6 (by omega); have c7 := HP.1 7 (by omega); have c8 := HP.1 8 (by omega); clear HP)
        | (go_at_call 20; refine (right_any (pre f 9) (pre_bd HF.out 9 (Nat.le_refl 9)) _).mono ?_; rintro e w3 ⟨rfl, hb3⟩; rw [← HR.out]; have HP := (HP2.out.below hb3 HP2.out.lt); have HY := (HY2.out.below hb3 HY2.out.lt); have y0 := HY.1 0 (by omega); have x0 := HY.2 0 (by omega); have y1 := HY.1 1 (by omega); have x1 := HY.2 1 (by omega); have y2 := HY.1 2 (by omega); have x2 := HY.2 2 (by omega); have y3 := HY.1 3 (by omega); have x3 := HY.2 3 (by omega); have y4 := HY.1 4 (by omega); have x4 := HY.2 4 (by omega); have y5 := HY.1 5 (by omega); have x5 := HY.2 5 (by omega); have y6 := HY.1 6 (by omega); have x6 := HY.2 6 (by omega); have y7 := HY.1 7 (by omega); have x7 := HY.2 7 (by omega); have y8 := HY.1 8 (by omega); have x8 := HY.2 8 (by omega); clear HP HY))
      refine bodyPost_ret (v := .tuple #[.agg #[.int .u8 0, .int .u8 0, .int .u8 0, .int .u8 0, .int .u8 0, .int .u8 0, .int .u8 0, .int .u8 0, .int .u8 0], .int .i64 8]) (by simp [results, Try.results25, go_sem, y0, y1, y2, y3, y4, y5, y6, y7, y8]) rfl ⟨?_, ?_⟩
      · rw [decM, if_neg (fun h => by have := h.2; rw [← HR.out] at this; cases this)]; rfl
      · have HB3 := (HB1.trans (hb2.mono (by omega))).trans (hb3.mono (by have := HB1.size; have := hb2.size; omega))
        exact (((((((((HB3).setCell (p := ⟨w.heap.size, 0, none⟩) (by simp) _).setCell (p := ⟨w.heap.size, 1, none⟩) (by simp) _).setCell (p := ⟨w.heap.size, 2, none⟩) (by simp) _).setCell (p := ⟨w.heap.size, 3, none⟩) (by simp) _).setCell (p := ⟨w.heap.size, 4, none⟩) (by simp) _).setCell (p := ⟨w.heap.size, 5, none⟩) (by simp) _).setCell (p := ⟨w.heap.size, 6, none⟩) (by simp) _).setCell (p := ⟨w.heap.size, 7, none⟩) (by simp) _).setCell (p := ⟨w.heap.size, 8, none⟩) (by simp) _
  · have hne : ((n : Int) == 9) = false := beq_eq_false_iff_ne.2 (by omega)
    have hne2 : ((n : Int) != 9) = true := by simp [bne, hne]
    have y0 := HY.1 0 (by omega)
    have x0 := HY.2 0 (by omega)
    have y1 := HY.1 1 (by omega)
    have x1 := HY.2 1 (by omega)
    have y2 := HY.1 2 (by omega)
    have x2 := HY.2 2 (by omega)
    have y3 := HY.1 3 (by omega)
    have x3 := HY.2 3 (by omega)
    have y4 := HY.1 4 (by omega)
    have x4 := HY.2 4 (by omega)
    have y5 := HY.1 5 (by omega)
    have x5 := HY.2 5 (by omega)
    have y6 := HY.1 6 (by omega)
    have x6 := HY.2 6 (by omega)
    have y7 := HY.1 7 (by omega)
    have x7 := HY.2 7 (by omega)
    have y8 := HY.1 8 (by omega)
    have x8 := HY.2 8 (by omega)
    clear HZ
    go_wp2
    refine bodyPost_ret (v := .tuple #[.agg #[.int .u8 0, .int .u8 0, .int .u8 0, .int .u8 0, .int .u8 0, .int .u8 0, .int .u8 0, .int .u8 0, .int .u8 0], .int .i64 8]) (by simp [results, Try.results25, go_sem, y0, y1, y2, y3, y4, y5, y6, y7, y8]) rfl ⟨?_, ?_⟩
    · rw [decM, if_neg (fun h => h9 h.1)]; rfl
    · exact (((((((((HB1).setCell (p := ⟨w.heap.size, 0, none⟩) (by simp) _).setCell (p := ⟨w.heap.size, 1, none⟩) (by simp) _).setCell (p := ⟨w.heap.size, 2, none⟩) (by simp) _).setCell (p := ⟨w.heap.size, 3, none⟩) (by simp) _).setCell (p := ⟨w.heap.size, 4, none⟩) (by simp) _).setCell (p := ⟨w.heap.size, 5, none⟩) (by simp) _).setCell (p := ⟨w.heap.size, 6, none⟩) (by simp) _).setCell (p := ⟨w.heap.size, 7, none⟩) (by simp) _).setCell (p := ⟨w.heap.size, 8, none⟩) (by simp) _

end Go.Proofs.Ytccopcbemflemaa
