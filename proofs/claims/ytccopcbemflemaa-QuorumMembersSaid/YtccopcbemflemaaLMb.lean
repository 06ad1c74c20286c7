/-
  The walk of the law QuorumMembers: the whole way.
-/
import Derived.Test.YtccopcbemflemaaLMa
import Derived.Test.YtccopcbemflemaaLMlaw
namespace Go.Proofs.Ytccopcbemflemaa
open Go Go.RowKit Go.Shelf

attribute [local go_sem] Oper.semAt_some

set_option maxRecDepth 100000 in
set_option maxHeartbeats 8000000 in
theorem lawMembers_main (m f h : Nat → Int) (ev ec Mo Ix Co : Int) (Wn Ls : Bool) (node role : Int) (ay am ab : Option Addr) (cy cm cb ny nm nb : Nat) (w : World) (hy : ny ≤ 100) (hnm : nm ≤ 100) (hb : nb ≤ 100) (hm : ∀ k, k < 9 → 0 ≤ m k ∧ m k ≤ 255)
    (k25 : (∀ X : World, Below w.heap.size w X → Calls Try.prog 25 #[.slice ab nb cb] X fun e w' => e = .returned (.tuple #[.agg #[.int .u8 (f 0), .int .u8 (f 1), .int .u8 (f 2), .int .u8 (f 3), .int .u8 (f 4), .int .u8 (f 5), .int .u8 (f 6), .int .u8 (f 7), .int .u8 (f 8)], .int .i64 ev]) ∧ Below X.heap.size X w'))
    (k26 : (∀ X : World, Below w.heap.size w X → Calls Try.prog 26 #[.slice ab nb cb] X fun e w' => e = .returned (.tuple #[.agg #[.int .u8 (f 0), .int .u8 (f 1), .int .u8 (f 2), .int .u8 (f 3), .int .u8 (f 4), .int .u8 (f 5), .int .u8 (f 6), .int .u8 (f 7), .int .u8 (f 8)], .int .i64 ev]) ∧ Below X.heap.size X w'))
    (k20 : (∀ X : World, Calls Try.prog 20 #[.agg #[.int .u8 (m 0), .int .u8 (m 1), .int .u8 (m 2), .int .u8 (m 3), .int .u8 (m 4), .int .u8 (m 5), .int .u8 (m 6), .int .u8 (m 7), .int .u8 (m 8)]] X fun e w' => e = .returned (.bool true) ∧ Below X.heap.size X w'))
    (k27 : (∀ X : World, Calls Try.prog 27 #[.agg #[.int .u8 (m 0), .int .u8 (m 1), .int .u8 (m 2), .int .u8 (m 3), .int .u8 (m 4), .int .u8 (m 5), .int .u8 (m 6), .int .u8 (m 7), .int .u8 (m 8)]] X fun e w' => e = .returned (.bool true) ∧ Below X.heap.size X w'))
    (k23 : (∀ X : World, Below w.heap.size w X → Calls Try.prog 23 #[.agg #[.int .u8 (m 0), .int .u8 (m 1), .int .u8 (m 2), .int .u8 (m 3), .int .u8 (m 4), .int .u8 (m 5), .int .u8 (m 6), .int .u8 (m 7), .int .u8 (m 8)], .slice ay ny cy] X fun e w' => e = .returned (.tuple #[.bool Wn, .bool Ls]) ∧ Below X.heap.size X w'))
    (k28 : (∀ X : World, Below w.heap.size w X → Calls Try.prog 28 #[.agg #[.int .u8 (m 0), .int .u8 (m 1), .int .u8 (m 2), .int .u8 (m 3), .int .u8 (m 4), .int .u8 (m 5), .int .u8 (m 6), .int .u8 (m 7), .int .u8 (m 8)], .slice ay ny cy] X fun e w' => e = .returned (.tuple #[.bool Wn, .bool Ls]) ∧ Below X.heap.size X w'))
    (k24 : (∀ X : World, Calls Try.prog 24 #[.agg #[.int .u8 (m 0), .int .u8 (m 1), .int .u8 (m 2), .int .u8 (m 3), .int .u8 (m 4), .int .u8 (m 5), .int .u8 (m 6), .int .u8 (m 7), .int .u8 (m 8)], .int .i64 node, .int .i64 role] X fun e w' => e = .returned (.tuple #[.agg #[.int .u8 (h 0), .int .u8 (h 1), .int .u8 (h 2), .int .u8 (h 3), .int .u8 (h 4), .int .u8 (h 5), .int .u8 (h 6), .int .u8 (h 7), .int .u8 (h 8)], .int .i64 ec]) ∧ Below X.heap.size X w'))
    (k29 : (∀ X : World, Calls Try.prog 29 #[.agg #[.int .u8 (m 0), .int .u8 (m 1), .int .u8 (m 2), .int .u8 (m 3), .int .u8 (m 4), .int .u8 (m 5), .int .u8 (m 6), .int .u8 (m 7), .int .u8 (m 8)], .int .i64 node, .int .i64 role] X fun e w' => e = .returned (.tuple #[.agg #[.int .u8 (h 0), .int .u8 (h 1), .int .u8 (h 2), .int .u8 (h 3), .int .u8 (h 4), .int .u8 (h 5), .int .u8 (h 6), .int .u8 (h 7), .int .u8 (h 8)], .int .i64 ec]) ∧ Below X.heap.size X w'))
    (k22 : (∀ X : World, Calls Try.prog 22 #[.agg #[.int .u8 (m 0), .int .u8 (m 1), .int .u8 (m 2), .int .u8 (m 3), .int .u8 (m 4), .int .u8 (m 5), .int .u8 (m 6), .int .u8 (m 7), .int .u8 (m 8)]] X fun e w' => e = .returned (.int .i64 Mo) ∧ Below X.heap.size X w'))
    (k30 : (∀ X : World, Calls Try.prog 30 #[.agg #[.int .u8 (m 0), .int .u8 (m 1), .int .u8 (m 2), .int .u8 (m 3), .int .u8 (m 4), .int .u8 (m 5), .int .u8 (m 6), .int .u8 (m 7), .int .u8 (m 8)]] X fun e w' => e = .returned (.int .i64 Mo) ∧ Below X.heap.size X w'))
    (k21 : (∀ X : World, Below w.heap.size w X → Calls Try.prog 21 #[.agg #[.int .u8 (m 0), .int .u8 (m 1), .int .u8 (m 2), .int .u8 (m 3), .int .u8 (m 4), .int .u8 (m 5), .int .u8 (m 6), .int .u8 (m 7), .int .u8 (m 8)], .slice am nm cm] X fun e w' => e = .returned (.int .i64 Ix) ∧ Below X.heap.size X w'))
    (k31 : (∀ X : World, Below w.heap.size w X → Calls Try.prog 31 #[.agg #[.int .u8 (m 0), .int .u8 (m 1), .int .u8 (m 2), .int .u8 (m 3), .int .u8 (m 4), .int .u8 (m 5), .int .u8 (m 6), .int .u8 (m 7), .int .u8 (m 8)], .slice am nm cm] X fun e w' => e = .returned (.int .i64 Ix) ∧ Below X.heap.size X w'))
    (k32 : (∀ X : World, Calls Try.prog 32 #[.agg #[.int .u8 (m 0), .int .u8 (m 1), .int .u8 (m 2), .int .u8 (m 3), .int .u8 (m 4), .int .u8 (m 5), .int .u8 (m 6), .int .u8 (m 7), .int .u8 (m 8)], .int .i64 role] X fun e w' => e = .returned (.int .i64 Co) ∧ Below X.heap.size X w'))
    (k33 : (∀ X : World, Calls Try.prog 33 #[.agg #[.int .u8 (m 0), .int .u8 (m 1), .int .u8 (m 2), .int .u8 (m 3), .int .u8 (m 4), .int .u8 (m 5), .int .u8 (m 6), .int .u8 (m 7), .int .u8 (m 8)], .int .i64 role] X fun e w' => e = .returned (.int .i64 Co) ∧ Below X.heap.size X w')) :
    Calls Try.prog 9 #[.agg #[.int .u8 (m 0), .int .u8 (m 1), .int .u8 (m 2), .int .u8 (m 3), .int .u8 (m 4), .int .u8 (m 5), .int .u8 (m 6), .int .u8 (m 7), .int .u8 (m 8)], .slice ay ny cy, .slice am nm cm, .int .i64 node, .int .i64 role, .slice ab nb cb] w fun e w' => e = .returned (.bool true) ∧ Below w.heap.size w w' := by
  have HM := lhid hm
  have k25 := lhid k25
  have k26 := lhid k26
  have k20 := lhid k20
  have k27 := lhid k27
  have k23 := lhid k23
  have k28 := lhid k28
  have k24 := lhid k24
  have k29 := lhid k29
  have k22 := lhid k22
  have k30 := lhid k30
  have k21 := lhid k21
  have k31 := lhid k31
  have k32 := lhid k32
  have k33 := lhid k33
  clear hm
  have hq : ∀ X, (binOp .neq 41 (.agg #[.int .u8 (f 0), .int .u8 (f 1), .int .u8 (f 2), .int .u8 (f 3), .int .u8 (f 4), .int .u8 (f 5), .int .u8 (f 6), .int .u8 (f 7), .int .u8 (f 8)]) (.agg #[.int .u8 (f 0), .int .u8 (f 1), .int .u8 (f 2), .int .u8 (f 3), .int .u8 (f 4), .int .u8 (f 5), .int .u8 (f 6), .int .u8 (f 7), .int .u8 (f 8)])).run Try.prog X = .ok (.bool false) X := fun X => by rw [neq_arr 41 Try.underlying41 f f X, allEq_self]; rfl
  have hqh : ∀ X, (binOp .neq 41 (.agg #[.int .u8 (h 0), .int .u8 (h 1), .int .u8 (h 2), .int .u8 (h 3), .int .u8 (h 4), .int .u8 (h 5), .int .u8 (h 6), .int .u8 (h 7), .int .u8 (h 8)]) (.agg #[.int .u8 (h 0), .int .u8 (h 1), .int .u8 (h 2), .int .u8 (h 3), .int .u8 (h 4), .int .u8 (h 5), .int .u8 (h 6), .int .u8 (h 7), .int .u8 (h 8)])).run Try.prog X = .ok (.bool false) X := fun X => by rw [neq_arr 41 Try.underlying41 h h X, allEq_self]; rfl
  refine (callsIn_wide (n := 3)).1 ?_
  refine callsIn_of_wp_marks Try.func9 rfl trivial ?_ rfl
  simp only [Try.ntmps9, List.size_toArray, List.length_cons, List.length_nil, Nat.reduceAdd, Nat.reduceSub, Array.replicate_succ, Array.replicate_zero, List.push_toArray, List.append_toArray, List.nil_append, List.cons_append]
  refine wpIn_wide.2 ?_
  go_upto_region 1 with (fail)
  refine wp_named (fun W => (BlockAt W w.heap.size #[.int .u8 (m 0), .int .u8 (m 1), .int .u8 (m 2), .int .u8 (m 3), .int .u8 (m 4), .int .u8 (m 5), .int .u8 (m 6), .int .u8 (m 7), .int .u8 (m 8)] 42 ∧ Boxed W (w.heap.size + 1) 4 (.bool false)) ∧ Below w.heap.size w W) ?_ ?_
  · exact ⟨⟨(BlockAt.at_size w _ 42 _ rfl).alloc _, Boxed.at_size _ 4 _ _ (by simp)⟩, ((Below.refl _ _).alloc (Nat.le_refl _) _).alloc (by simp) _⟩
  rintro w1 ⟨⟨HA1', HR1'⟩, HB1⟩
  have HA1 := lhid HA1'
  have HR1 := lhid HR1'
  clear HA1' HR1'
  go_wp2_with fail
  refine (knownQ_any _).mono ?_
  rintro e w2 ⟨rfl, hb2⟩
  have HA2 := lhid (blockAt_below HA1.out hb2 HA1.out.lt)
  have HR2 := lhid (boxed_below HR1.out hb2 HR1.out.lt)
  have HB2 := HB1.trans (hb2.mono HB1.size)
  clear hb2 HA1 HR1 HB1
  go_wp2_with fail
  refine (k25.out _ HB2).mono ?_
  rintro e w3 ⟨rfl, hb3⟩
  have HA3 := lhid (blockAt_below HA2.out hb3 HA2.out.lt)
  have HR3 := lhid (boxed_below HR2.out hb3 HR2.out.lt)
  have HB3 := HB2.trans (hb3.mono HB2.size)
  clear hb3 HA2 HR2 HB2
  go_wp2_with fail
  obtain ⟨d4, hd4⟩ : ∃ d4, d4 = w3.heap.size := ⟨_, rfl⟩
  rw [← hd4]
  obtain ⟨w4, hw4⟩ : ∃ w4, w4 = w3.alloc (.cells #[.int .u8 (f 0), .int .u8 (f 1), .int .u8 (f 2), .int .u8 (f 3), .int .u8 (f 4), .int .u8 (f 5), .int .u8 (f 6), .int .u8 (f 7), .int .u8 (f 8)] 42) := ⟨_, rfl⟩
  rw [← hw4]
  have HD4 : Hid (ArrAt w4 d4 f) := lhid (by rw [hw4]; exact ArrAt.new w3 f 42 _ hd4)
  have HA4 : Hid (BlockAt w4 w.heap.size #[.int .u8 (m 0), .int .u8 (m 1), .int .u8 (m 2), .int .u8 (m 3), .int .u8 (m 4), .int .u8 (m 5), .int .u8 (m 6), .int .u8 (m 7), .int .u8 (m 8)] 42) := lhid (by rw [hw4]; exact HA3.out.alloc _)
  have HR4 : Hid (Boxed w4 (w.heap.size + 1) 4 (.bool false)) := lhid (by rw [hw4]; exact HR3.out.alloc _)
  have HB4 : Below w.heap.size w w4 := by rw [hw4]; exact HB3.alloc HB3.size _
  clear hw4 hd4 HA3 HR3 HB3
  refine (k26.out _ HB4).mono ?_
  rintro e w5 ⟨rfl, hb5⟩
  have HA5 := lhid (blockAt_below HA4.out hb5 HA4.out.lt)
  have HD5 := lhid (HD4.out.below hb5 HD4.out.lt)
  have HR5 := lhid (boxed_below HR4.out hb5 HR4.out.lt)
  have HB5 := HB4.trans (hb5.mono HB4.size)
  clear hb5 HA4 HR4 HB4 HD4
  go_wp2_with fail

  obtain ⟨d6, hd6⟩ : ∃ d6, d6 = w5.heap.size := ⟨_, rfl⟩
  rw [← hd6]
  refine wp_named (fun W => ((ArrAt W d6 f ∧ ArrAt W d4 f) ∧ (BlockAt W w.heap.size #[.int .u8 (m 0), .int .u8 (m 1), .int .u8 (m 2), .int .u8 (m 3), .int .u8 (m 4), .int .u8 (m 5), .int .u8 (m 6), .int .u8 (m 7), .int .u8 (m 8)] 42 ∧ Boxed W (w.heap.size + 1) 4 (.bool false))) ∧ Below w.heap.size w W) ⟨⟨⟨ArrAt.new w5 f 41 _ hd6, HD5.out.alloc _⟩, HA5.out.alloc _, HR5.out.alloc _⟩, HB5.alloc HB5.size _⟩ ?_
  rintro w6 ⟨⟨⟨hE6, hD6⟩, hA6, hR6⟩, HB6⟩
  clear hd6 HA5 HR5 HB5 HD5
  have p0 := Fam.cell hE6.lt (hE6.1 0 (by omega))
  have p1 := Fam.cell hE6.lt (hE6.1 1 (by omega))
  have p2 := Fam.cell hE6.lt (hE6.1 2 (by omega))
  have p3 := Fam.cell hE6.lt (hE6.1 3 (by omega))
  have p4 := Fam.cell hE6.lt (hE6.1 4 (by omega))
  have p5 := Fam.cell hE6.lt (hE6.1 5 (by omega))
  have p6 := Fam.cell hE6.lt (hE6.1 6 (by omega))
  have p7 := Fam.cell hE6.lt (hE6.1 7 (by omega))
  have p8 := Fam.cell hE6.lt (hE6.1 8 (by omega))
  have q0 := Fam.cell hD6.lt (hD6.1 0 (by omega))
  have q1 := Fam.cell hD6.lt (hD6.1 1 (by omega))
  have q2 := Fam.cell hD6.lt (hD6.1 2 (by omega))
  have q3 := Fam.cell hD6.lt (hD6.1 3 (by omega))
  have q4 := Fam.cell hD6.lt (hD6.1 4 (by omega))
  have q5 := Fam.cell hD6.lt (hD6.1 5 (by omega))
  have q6 := Fam.cell hD6.lt (hD6.1 6 (by omega))
  have q7 := Fam.cell hD6.lt (hD6.1 7 (by omega))
  have q8 := Fam.cell hD6.lt (hD6.1 8 (by omega))
  have s0 := Fam.cell hA6.lt ((arr_of hA6).1 0 (by omega))
  have s1 := Fam.cell hA6.lt ((arr_of hA6).1 1 (by omega))
  have s2 := Fam.cell hA6.lt ((arr_of hA6).1 2 (by omega))
  have s3 := Fam.cell hA6.lt ((arr_of hA6).1 3 (by omega))
  have s4 := Fam.cell hA6.lt ((arr_of hA6).1 4 (by omega))
  have s5 := Fam.cell hA6.lt ((arr_of hA6).1 5 (by omega))
  have s6 := Fam.cell hA6.lt ((arr_of hA6).1 6 (by omega))
  have s7 := Fam.cell hA6.lt ((arr_of hA6).1 7 (by omega))
  have s8 := Fam.cell hA6.lt ((arr_of hA6).1 8 (by omega))
  have HA6 := lhid hA6
  have HR6 := lhid hR6
  clear hA6 hR6 hE6 hD6
  refine wp_region_fam w6.heap.size (by kernel_rfl) (by kernel_rfl) ?_
  repeat (go_big_quiet_step ((first | go_at_call 20; with_reducible exact Calls.fam (Nat.le_refl _) (k20.out _) | go_at_call 27; with_reducible exact Calls.fam (Nat.le_refl _) (k27.out _))))
  refine wpQuiet_nil ?_
  intro t
  have hb7 := t.below
  generalize t.at = w7 at *
  clear p0 p1 p2 p3 p4 p5 p6 p7 p8
  clear q0 q1 q2 q3 q4 q5 q6 q7 q8
  clear s0 s1 s2 s3 s4 s5 s6 s7 s8
  have HA7 := lhid (blockAt_below HA6.out hb7 HA6.out.lt)
  have HR7 := lhid (boxed_below HR6.out hb7 HR6.out.lt)
  have HB7 := HB6.trans (hb7.mono HB6.size)
  clear hb7 HA6 HR6 HB6
  have c0 := (arr_of HA7.out).1 0 (by omega)
  have c1 := (arr_of HA7.out).1 1 (by omega)
  have c2 := (arr_of HA7.out).1 2 (by omega)
  have c3 := (arr_of HA7.out).1 3 (by omega)
  have c4 := (arr_of HA7.out).1 4 (by omega)
  have c5 := (arr_of HA7.out).1 5 (by omega)
  have c6 := (arr_of HA7.out).1 6 (by omega)
  have c7 := (arr_of HA7.out).1 7 (by omega)
  have c8 := (arr_of HA7.out).1 8 (by omega)
  go_wp2_with fail
  refine (k27.out _).mono ?_
  rintro e w8 ⟨rfl, hb8⟩
  have HA8 := lhid (blockAt_below HA7.out hb8 HA7.out.lt)
  have HR8 := lhid (boxed_below HR7.out hb8 HR7.out.lt)
  have HB8 := HB7.trans (hb8.mono HB7.size)
  clear hb8 HA7 HR7 HB7
  clear c0 c1 c2 c3 c4 c5 c6 c7 c8
  have c0 := (arr_of HA8.out).1 0 (by omega)
  have c1 := (arr_of HA8.out).1 1 (by omega)
  have c2 := (arr_of HA8.out).1 2 (by omega)
  have c3 := (arr_of HA8.out).1 3 (by omega)
  have c4 := (arr_of HA8.out).1 4 (by omega)
  have c5 := (arr_of HA8.out).1 5 (by omega)
  have c6 := (arr_of HA8.out).1 6 (by omega)
  have c7 := (arr_of HA8.out).1 7 (by omega)
  have c8 := (arr_of HA8.out).1 8 (by omega)
  go_wp2_with fail
  refine (k23.out _ HB8).mono ?_
  rintro e w9 ⟨rfl, hb9⟩
  have HA9 := lhid (blockAt_below HA8.out hb9 HA8.out.lt)
  have HR9 := lhid (boxed_below HR8.out hb9 HR8.out.lt)
  have HB9 := HB8.trans (hb9.mono HB8.size)
  clear c0 c1 c2 c3 c4 c5 c6 c7 c8
  clear hb9 HA8 HR8 HB8
  have c0 := (arr_of HA9.out).1 0 (by omega)
  have c1 := (arr_of HA9.out).1 1 (by omega)
  have c2 := (arr_of HA9.out).1 2 (by omega)
  have c3 := (arr_of HA9.out).1 3 (by omega)
  have c4 := (arr_of HA9.out).1 4 (by omega)
  have c5 := (arr_of HA9.out).1 5 (by omega)
  have c6 := (arr_of HA9.out).1 6 (by omega)
  have c7 := (arr_of HA9.out).1 7 (by omega)
  have c8 := (arr_of HA9.out).1 8 (by omega)
  go_wp2_with fail
  refine (k28.out _ HB9).mono ?_
  rintro e w10 ⟨rfl, hb10⟩
  have HA10 := lhid (blockAt_below HA9.out hb10 HA9.out.lt)
  have HR10 := lhid (boxed_below HR9.out hb10 HR9.out.lt)
  have HB10 := HB9.trans (hb10.mono HB9.size)
  clear c0 c1 c2 c3 c4 c5 c6 c7 c8
  clear hb10 HA9 HR9 HB9
  have c0 := (arr_of HA10.out).1 0 (by omega)
  have c1 := (arr_of HA10.out).1 1 (by omega)
  have c2 := (arr_of HA10.out).1 2 (by omega)
  have c3 := (arr_of HA10.out).1 3 (by omega)
  have c4 := (arr_of HA10.out).1 4 (by omega)
  have c5 := (arr_of HA10.out).1 5 (by omega)
  have c6 := (arr_of HA10.out).1 6 (by omega)
  have c7 := (arr_of HA10.out).1 7 (by omega)
  have c8 := (arr_of HA10.out).1 8 (by omega)
  go_wp2_with fail
  refine (k24.out _).mono ?_
  rintro e w11 ⟨rfl, hb11⟩
  have HA11 := lhid (blockAt_below HA10.out hb11 HA10.out.lt)
  have HR11 := lhid (boxed_below HR10.out hb11 HR10.out.lt)
  have HB11 := HB10.trans (hb11.mono HB10.size)
  clear c0 c1 c2 c3 c4 c5 c6 c7 c8
  clear hb11 HA10 HR10 HB10
  go_upto_region 14 with (fail)
  obtain ⟨d12, hd12⟩ : ∃ d12, d12 = w11.heap.size := ⟨_, rfl⟩
  rw [← hd12]
  refine wp_named (fun W => (ArrAt W d12 h ∧ (BlockAt W w.heap.size #[.int .u8 (m 0), .int .u8 (m 1), .int .u8 (m 2), .int .u8 (m 3), .int .u8 (m 4), .int .u8 (m 5), .int .u8 (m 6), .int .u8 (m 7), .int .u8 (m 8)] 42 ∧ Boxed W (w.heap.size + 1) 4 (.bool false))) ∧ Below w.heap.size w W) ⟨⟨ArrAt.new w11 h 42 _ hd12, HA11.out.alloc _, HR11.out.alloc _⟩, HB11.alloc HB11.size _⟩ ?_
  rintro w12 ⟨⟨hD12, hA12, hR12⟩, HB12⟩
  have HD12 := lhid hD12
  have HA12 := lhid hA12
  have HR12 := lhid hR12
  clear hd12 HA11 HR11 HB11 hD12 hA12 hR12
  have c0 := (arr_of HA12.out).1 0 (by omega)
  have c1 := (arr_of HA12.out).1 1 (by omega)
  have c2 := (arr_of HA12.out).1 2 (by omega)
  have c3 := (arr_of HA12.out).1 3 (by omega)
  have c4 := (arr_of HA12.out).1 4 (by omega)
  have c5 := (arr_of HA12.out).1 5 (by omega)
  have c6 := (arr_of HA12.out).1 6 (by omega)
  have c7 := (arr_of HA12.out).1 7 (by omega)
  have c8 := (arr_of HA12.out).1 8 (by omega)
  go_wp2_with fail
  clear c0 c1 c2 c3 c4 c5 c6 c7 c8
  refine (k29.out _).mono ?_
  rintro e w13 ⟨rfl, hb13⟩
  have HA13 := lhid (blockAt_below HA12.out hb13 HA12.out.lt)
  have HD13 := lhid (HD12.out.below hb13 HD12.out.lt)
  have HR13 := lhid (boxed_below HR12.out hb13 HR12.out.lt)
  have HB13 := HB12.trans (hb13.mono HB12.size)
  clear hb13 HA12 HR12 HB12 HD12
  go_wp2_with fail
  obtain ⟨d14, hd14⟩ : ∃ d14, d14 = w13.heap.size := ⟨_, rfl⟩
  rw [← hd14]
  refine wp_named (fun W => ((ArrAt W d14 h ∧ ArrAt W d12 h) ∧ (BlockAt W w.heap.size #[.int .u8 (m 0), .int .u8 (m 1), .int .u8 (m 2), .int .u8 (m 3), .int .u8 (m 4), .int .u8 (m 5), .int .u8 (m 6), .int .u8 (m 7), .int .u8 (m 8)] 42 ∧ Boxed W (w.heap.size + 1) 4 (.bool false))) ∧ Below w.heap.size w W) ⟨⟨⟨ArrAt.new w13 h 41 _ hd14, HD13.out.alloc _⟩, HA13.out.alloc _, HR13.out.alloc _⟩, HB13.alloc HB13.size _⟩ ?_
  rintro w14 ⟨⟨⟨hE14, hD14⟩, hA14, hR14⟩, HB14⟩
  clear hd14 HA13 HR13 HB13 HD13
  have HE14 := lhid hE14
  have HD14 := lhid hD14
  have HA14 := lhid hA14
  have HR14 := lhid hR14
  clear hA14 hR14 hE14 hD14
  obtain ⟨T, hT⟩ : ∃ T, strOfNums [m 0, m 1, m 2, m 3, m 4, m 5, m 6, m 7, m 8] = T := ⟨_, rfl⟩
  have HT := lhid hT
  clear hT
  refine wp_two_ex (fun W => (BlockAt W w.heap.size #[.int .u8 (m 0), .int .u8 (m 1), .int .u8 (m 2), .int .u8 (m 3), .int .u8 (m 4), .int .u8 (m 5), .int .u8 (m 6), .int .u8 (m 7), .int .u8 (m 8)] 42 ∧ Boxed W (w.heap.size + 1) 4 (.bool false)) ∧ Below w.heap.size w W) ?_
  apply Exists.intro
  refine ⟨?phase, ?rest⟩
  case phase =>
    have p0 := Fam.cell HE14.out.lt (HE14.out.1 0 (by omega))
    have p1 := Fam.cell HE14.out.lt (HE14.out.1 1 (by omega))
    have p2 := Fam.cell HE14.out.lt (HE14.out.1 2 (by omega))
    have p3 := Fam.cell HE14.out.lt (HE14.out.1 3 (by omega))
    have p4 := Fam.cell HE14.out.lt (HE14.out.1 4 (by omega))
    have p5 := Fam.cell HE14.out.lt (HE14.out.1 5 (by omega))
    have p6 := Fam.cell HE14.out.lt (HE14.out.1 6 (by omega))
    have p7 := Fam.cell HE14.out.lt (HE14.out.1 7 (by omega))
    have p8 := Fam.cell HE14.out.lt (HE14.out.1 8 (by omega))
    have q0 := Fam.cell HD14.out.lt (HD14.out.1 0 (by omega))
    have q1 := Fam.cell HD14.out.lt (HD14.out.1 1 (by omega))
    have q2 := Fam.cell HD14.out.lt (HD14.out.1 2 (by omega))
    have q3 := Fam.cell HD14.out.lt (HD14.out.1 3 (by omega))
    have q4 := Fam.cell HD14.out.lt (HD14.out.1 4 (by omega))
    have q5 := Fam.cell HD14.out.lt (HD14.out.1 5 (by omega))
    have q6 := Fam.cell HD14.out.lt (HD14.out.1 6 (by omega))
    have q7 := Fam.cell HD14.out.lt (HD14.out.1 7 (by omega))
    have q8 := Fam.cell HD14.out.lt (HD14.out.1 8 (by omega))
    have s0 := Fam.cell HA14.out.lt ((arr_of HA14.out).1 0 (by omega))
    have s1 := Fam.cell HA14.out.lt ((arr_of HA14.out).1 1 (by omega))
    have s2 := Fam.cell HA14.out.lt ((arr_of HA14.out).1 2 (by omega))
    have s3 := Fam.cell HA14.out.lt ((arr_of HA14.out).1 3 (by omega))
    have s4 := Fam.cell HA14.out.lt ((arr_of HA14.out).1 4 (by omega))
    have s5 := Fam.cell HA14.out.lt ((arr_of HA14.out).1 5 (by omega))
    have s6 := Fam.cell HA14.out.lt ((arr_of HA14.out).1 6 (by omega))
    have s7 := Fam.cell HA14.out.lt ((arr_of HA14.out).1 7 (by omega))
    have s8 := Fam.cell HA14.out.lt ((arr_of HA14.out).1 8 (by omega))
    refine wp_region_cut w14.heap.size 44 44 7 (by kernel_rfl) (by kernel_rfl) (by kernel_rfl) rfl rfl ?_
    simp only [List.take_succ_cons, List.take_zero]
    repeat (go_big_quiet_step ((first | go_at_call 22; with_reducible exact Calls.fam (Nat.le_refl _) (k22.out _) | go_at_call 30; with_reducible exact Calls.fam (Nat.le_refl _) (k30.out _) | go_at_call 21; with_reducible exact Calls.fam (Nat.le_refl _) (k21.out _ (HB14.trans ((Fam.below _).mono HB14.size))) | go_at_call 31; with_reducible exact Calls.fam (Nat.le_refl _) (k31.out _ (HB14.trans ((Fam.below _).mono HB14.size))) | go_at_call 32; with_reducible exact Calls.fam (Nat.le_refl _) (k32.out _) | go_at_call 33; with_reducible exact Calls.fam (Nat.le_refl _) (k33.out _))))
    refine wpQuiet_nil ?_
    intro t
    have hb15 := t.below
    generalize t.at = w15 at *
    clear p0 p1 p2 p3 p4 p5 p6 p7 p8
    clear q0 q1 q2 q3 q4 q5 q6 q7 q8
    clear s0 s1 s2 s3 s4 s5 s6 s7 s8
    have HA15 := lhid (blockAt_below HA14.out hb15 HA14.out.lt)
    have HR15 := lhid (boxed_below HR14.out hb15 HR14.out.lt)
    have HB15 := HB14.trans (hb15.mono HB14.size)
    clear hb15
    have c0 := (arr_of HA15.out).1 0 (by omega)
    have c1 := (arr_of HA15.out).1 1 (by omega)
    have c2 := (arr_of HA15.out).1 2 (by omega)
    have c3 := (arr_of HA15.out).1 3 (by omega)
    have c4 := (arr_of HA15.out).1 4 (by omega)
    have c5 := (arr_of HA15.out).1 5 (by omega)
    have c6 := (arr_of HA15.out).1 6 (by omega)
    have c7 := (arr_of HA15.out).1 7 (by omega)
    have c8 := (arr_of HA15.out).1 8 (by omega)
    have e15 := nine_string 59 m w15 w.heap.size 9 Try.underlying59 (arr_of HA15.out).1
    rw [HT.out] at e15
    refine wpAny_take (i := 47) (v := .slice (some ⟨w.heap.size, 0, none⟩) 9 9) rfl (by kernel_rfl) (by kernel_rfl) (by kernel_rfl) (fun _ _ _ h => by cases h.1) (Or.inl ⟨by rfl, fun X => ?_⟩) ?_
    · go_simp
    refine wpAny_ready (rs := [44, 48]) (by kernel_rfl) (by simp) ?_
    refine AllReady.cons rfl (fun K hK => ?_) ?_
    · go_simp
      refine hK _ _ ?_
      clear hK K
      refine wpAny_ready (rs := [45, 48]) (by kernel_rfl) (by simp) ?_
      refine AllReady.cons rfl (fun K hK => ?_) ?_
      · go_simp
        go_wp2_with (go_at_call 34; refine (encode_str m _).mono ?_; rintro e w16 ⟨v, rfl, hb16, hv16⟩; rw [HT.out] at hv16; have HA16 := lhid (blockAt_below HA15.out hb16 HA15.out.lt); have HR16 := lhid (boxed_below HR15.out hb16 HR15.out.lt); have HB16 := HB15.trans (hb16.mono HB15.size); have e16 := nine_string 59 m w16 w.heap.size 9 Try.underlying59 (arr_of HA16.out).1; rw [HT.out] at e16)
        refine wpAny_ready (rs := [46, 48]) (by kernel_rfl) (by simp) ?_
        refine AllReady.cons rfl (fun K hK => ?_) ?_
        · go_simp
          refine hK _ _ ?_
          clear hK K
          refine wpAny_ready (rs := [48]) (by kernel_rfl) (by simp) ?_
          refine AllReady.cons rfl (fun K hK => ?_) ?_
          · go_simp
            refine hK _ _ ?_
            clear hK K
            refine wpAny_ready (rs := [49]) (by kernel_rfl) (by simp) ?_
            refine AllReady.cons rfl (fun K hK => ?_) ?_
            · go_simp
              refine hK _ _ ?_
              clear hK K
              refine wpAny_ready (rs := [50]) (by kernel_rfl) (by simp) ?_
              refine AllReady.cons rfl (fun K hK => ?_) ?_
              · go_simp
                refine hK _ _ ?_
                clear hK K
                refine wpAny_done (by kernel_rfl) ?_ _
                exact ⟨rfl, ⟨⟨HA16.out, HR16.out⟩, HB16⟩, v, rfl⟩
              exact AllReady.nil
            exact AllReady.nil
          exact AllReady.nil
        refine AllReady.cons rfl (fun K hK => ?_) ?_
        · go_simp
          refine hK _ _ ?_
          clear hK K
          refine wpAny_ready (rs := [46]) (by kernel_rfl) (by simp) ?_
          refine AllReady.cons rfl (fun K hK => ?_) ?_
          · go_simp
            refine hK _ _ ?_
            clear hK K
            refine wpAny_ready (rs := [49]) (by kernel_rfl) (by simp) ?_
            refine AllReady.cons rfl (fun K hK => ?_) ?_
            · go_simp
              refine hK _ _ ?_
              clear hK K
              refine wpAny_ready (rs := [50]) (by kernel_rfl) (by simp) ?_
              refine AllReady.cons rfl (fun K hK => ?_) ?_
              · go_simp
                refine hK _ _ ?_
                clear hK K
                refine wpAny_done (by kernel_rfl) ?_ _
                exact ⟨rfl, ⟨⟨HA16.out, HR16.out⟩, HB16⟩, v, rfl⟩
              exact AllReady.nil
            exact AllReady.nil
          exact AllReady.nil
        exact AllReady.nil
      refine AllReady.cons rfl (fun K hK => ?_) ?_
      · go_simp
        refine hK _ _ ?_
        clear hK K
        refine wpAny_ready (rs := [45]) (by kernel_rfl) (by simp) ?_
        refine AllReady.cons rfl (fun K hK => ?_) ?_
        · go_simp
          go_wp2_with (go_at_call 34; refine (encode_str m _).mono ?_; rintro e w16 ⟨v, rfl, hb16, hv16⟩; rw [HT.out] at hv16; have HA16 := lhid (blockAt_below HA15.out hb16 HA15.out.lt); have HR16 := lhid (boxed_below HR15.out hb16 HR15.out.lt); have HB16 := HB15.trans (hb16.mono HB15.size); have e16 := nine_string 59 m w16 w.heap.size 9 Try.underlying59 (arr_of HA16.out).1; rw [HT.out] at e16)
          refine wpAny_ready (rs := [46]) (by kernel_rfl) (by simp) ?_
          refine AllReady.cons rfl (fun K hK => ?_) ?_
          · go_simp
            refine hK _ _ ?_
            clear hK K
            refine wpAny_ready (rs := [49]) (by kernel_rfl) (by simp) ?_
            refine AllReady.cons rfl (fun K hK => ?_) ?_
            · go_simp
              refine hK _ _ ?_
              clear hK K
              refine wpAny_ready (rs := [50]) (by kernel_rfl) (by simp) ?_
              refine AllReady.cons rfl (fun K hK => ?_) ?_
              · go_simp
                refine hK _ _ ?_
                clear hK K
                refine wpAny_done (by kernel_rfl) ?_ _
                exact ⟨rfl, ⟨⟨HA16.out, HR16.out⟩, HB16⟩, v, rfl⟩
              exact AllReady.nil
            exact AllReady.nil
          exact AllReady.nil
        exact AllReady.nil
      exact AllReady.nil
    refine AllReady.cons rfl (fun K hK => ?_) ?_
    · go_simp
      refine hK _ _ ?_
      clear hK K
      refine wpAny_ready (rs := [44]) (by kernel_rfl) (by simp) ?_
      refine AllReady.cons rfl (fun K hK => ?_) ?_
      · go_simp
        refine hK _ _ ?_
        clear hK K
        refine wpAny_ready (rs := [45]) (by kernel_rfl) (by simp) ?_
        refine AllReady.cons rfl (fun K hK => ?_) ?_
        · go_simp
          go_wp2_with (go_at_call 34; refine (encode_str m _).mono ?_; rintro e w16 ⟨v, rfl, hb16, hv16⟩; rw [HT.out] at hv16; have HA16 := lhid (blockAt_below HA15.out hb16 HA15.out.lt); have HR16 := lhid (boxed_below HR15.out hb16 HR15.out.lt); have HB16 := HB15.trans (hb16.mono HB15.size); have e16 := nine_string 59 m w16 w.heap.size 9 Try.underlying59 (arr_of HA16.out).1; rw [HT.out] at e16)
          refine wpAny_ready (rs := [46]) (by kernel_rfl) (by simp) ?_
          refine AllReady.cons rfl (fun K hK => ?_) ?_
          · go_simp
            refine hK _ _ ?_
            clear hK K
            refine wpAny_ready (rs := [49]) (by kernel_rfl) (by simp) ?_
            refine AllReady.cons rfl (fun K hK => ?_) ?_
            · go_simp
              refine hK _ _ ?_
              clear hK K
              refine wpAny_ready (rs := [50]) (by kernel_rfl) (by simp) ?_
              refine AllReady.cons rfl (fun K hK => ?_) ?_
              · go_simp
                refine hK _ _ ?_
                clear hK K
                refine wpAny_done (by kernel_rfl) ?_ _
                exact ⟨rfl, ⟨⟨HA16.out, HR16.out⟩, HB16⟩, v, rfl⟩
              exact AllReady.nil
            exact AllReady.nil
          exact AllReady.nil
        exact AllReady.nil
      exact AllReady.nil
    exact AllReady.nil

  case rest =>
    intro v w16 hMem
    obtain ⟨⟨hA16, hR16⟩, HB16⟩ := hMem
    go_upto_region 18 with (fail)
    obtain ⟨N, hN⟩ : ∃ N, N = w16.heap.size := ⟨_, rfl⟩
    rw [← hN]
    refine wp_named (fun W => ((BlockAt W w.heap.size #[.int .u8 (m 0), .int .u8 (m 1), .int .u8 (m 2), .int .u8 (m 3), .int .u8 (m 4), .int .u8 (m 5), .int .u8 (m 6), .int .u8 (m 7), .int .u8 (m 8)] 42 ∧ Boxed W (w.heap.size + 1) 4 (.bool false)) ∧ Boxed W N 3 (.int .i64 0)) ∧ Below w.heap.size w W) ⟨⟨⟨hA16.alloc _, hR16.alloc _⟩, Boxed.at_size w16 3 _ N hN⟩, HB16.alloc HB16.size _⟩ ?_
    rintro w17 ⟨⟨⟨hA17, hR17⟩, hN17⟩, HB17⟩
    have hSN : w.heap.size + 1 < N := by rw [hN]; exact hR16.lt
    have HA17 := lhid hA17
    have HR17 := lhid hR17
    have HN17 := lhid hN17
    clear hN hA16 hR16 HB16 hA17 hR17 hN17
    have c0 := (arr_of HA17.out).1 0 (by omega)
    have c1 := (arr_of HA17.out).1 1 (by omega)
    have c2 := (arr_of HA17.out).1 2 (by omega)
    have c3 := (arr_of HA17.out).1 3 (by omega)
    have c4 := (arr_of HA17.out).1 4 (by omega)
    have c5 := (arr_of HA17.out).1 5 (by omega)
    have c6 := (arr_of HA17.out).1 6 (by omega)
    have c7 := (arr_of HA17.out).1 7 (by omega)
    have c8 := (arr_of HA17.out).1 8 (by omega)
    go_wp2_with (go_at_call 35; refine (all_any m 1 _).mono ?_; rintro e w18 ⟨rfl, rfl⟩)
    clear c0 c1 c2 c3 c4 c5 c6 c7 c8
    obtain ⟨D, hD⟩ : ∃ D, D = w17.heap.size := ⟨_, rfl⟩
    rw [← hD]
    refine wp_named (fun W => (((BlockAt W w.heap.size #[.int .u8 (m 0), .int .u8 (m 1), .int .u8 (m 2), .int .u8 (m 3), .int .u8 (m 4), .int .u8 (m 5), .int .u8 (m 6), .int .u8 (m 7), .int .u8 (m 8)] 42 ∧ Boxed W (w.heap.size + 1) 4 (.bool false)) ∧ Boxed W N 3 (.int .i64 0)) ∧ (Below w.heap.size w W ∧ D + 2 = W.heap.size)) ∧ (BlockAt W D #[.int .u8 (m 0), .int .u8 (m 1), .int .u8 (m 2), .int .u8 (m 3), .int .u8 (m 4), .int .u8 (m 5), .int .u8 (m 6), .int .u8 (m 7), .int .u8 (m 8)] 42 ∧ Boxed W (D + 1) 3 (.int .i64 1))) ?_ ?_
    · exact ⟨⟨⟨⟨(HA17.out.alloc _).alloc _, (HR17.out.alloc _).alloc _⟩, (HN17.out.alloc _).alloc _⟩, (HB17.alloc HB17.size _).alloc (by have := HB17.size; simp; omega) _, by simp [hD]⟩, (BlockAt.at_size w17 _ 42 D hD).alloc _, Boxed.at_size _ 3 _ _ (by simp [hD])⟩
    have hND : N < D := by rw [hD]; exact HN17.out.lt
    clear hD HA17 HR17 HN17 HB17
    rintro W0 ⟨⟨⟨⟨hA0, hR0⟩, hN0⟩, hB0, hsz⟩, hC0, hZ0⟩
    have c0 := (arr_of hC0).1 0 (by omega)
    have c1 := (arr_of hC0).1 1 (by omega)
    have c2 := (arr_of hC0).1 2 (by omega)
    have c3 := (arr_of hC0).1 3 (by omega)
    have c4 := (arr_of hC0).1 4 (by omega)
    have c5 := (arr_of hC0).1 5 (by omega)
    have c6 := (arr_of hC0).1 6 (by omega)
    have c7 := (arr_of hC0).1 7 (by omega)
    have c8 := (arr_of hC0).1 8 (by omega)
    have cr := hZ0.cell
    refine (wpIn_wide (n := 3)).1 ?_
    refine' wpIn_rangeFunc_ownG rfl (by omega) (gf := 37) (lb := #[.pointer (some ⟨D, 0, none⟩), .pointer (some ⟨D + 1, 0, none⟩)]) rfl trivial (enters_of Try.func37 (by kernel_rfl) rfl)
      (all_stops Fence.wide (3 - 1) trivial rfl (by omega) D (D + 1) m 1 HM.out W0 (by omega) (by omega) c0 c1 c2 c3 c4 c5 c6 c7 c8 cr) KeepB.trans (KeepB.put (by omega)) (Below.refl _ _) (fun _ => rfl)
      (fun pre W => (∃ k : Nat, k ≤ 9 ∧ pre = selK m 1 k ∧ Boxed W N 3 (.int .i64 k)) ∧ (BlockAt W w.heap.size #[.int .u8 (m 0), .int .u8 (m 1), .int .u8 (m 2), .int .u8 (m 3), .int .u8 (m 4), .int .u8 (m 5), .int .u8 (m 6), .int .u8 (m 7), .int .u8 (m 8)] 42 ∧ Boxed W (w.heap.size + 1) 4 (.bool false)) ∧ Below w.heap.size w W)
      (fun _ pre _ => Hid (¬ ∃ k : Nat, k ≤ 9 ∧ pre = selK m 1 k))
      (OwnFrom.and ?own (OwnFrom.and (OwnFrom.and (Own.from (blockAt_own _ _ _) _) (Own.from (boxed_own _ _ (fun _ => .bool false)) _)) (ownFrom_below (Nat.le_refl _) (by omega))))
      (fun _ _ _ _ _ hs _ _ => hs)
      ⟨⟨0, by omega, rfl, hN0⟩, ⟨hA0, hR0⟩, hB0⟩
      _ ?assign ?body ?done ?stop
    case own =>
      rintro pre X Y row ⟨k, h1, h2, h3⟩ hg hr
      exact ⟨k, h1, h2, boxed_own N 3 (fun (_ : Unit) => Value.int .i64 (k : Int)) () X Y row h3 hg (fun r e => (hr r e).2)⟩
    case assign =>
      intro l x W K hK
      gi_wp2
      exact hK
    case body =>
      rintro l pre x W ⟨⟨k, hk, rfl, bN⟩, ⟨bM, bR⟩, hB⟩ hl
      have hx9 := x.isLt
      gi_wp2_with fail
      gi_loopw [] (fun wr => ∃ j : Nat, j ≤ 9 ∧ selK m 1 k = selK m 1 j ∧ Boxed wr N 3 (.int .i64 j) ∧ (BlockAt wr w.heap.size #[.int .u8 (m 0), .int .u8 (m 1), .int .u8 (m 2), .int .u8 (m 3), .int .u8 (m 4), .int .u8 (m 5), .int .u8 (m 6), .int .u8 (m 7), .int .u8 (m 8)] 42 ∧ Boxed wr (w.heap.size + 1) 4 (.bool false)) ∧ Below w.heap.size w wr ∧ KeepsFrom W0.heap.size W wr ∧ KeepB (D + 1) W wr) (fun wr => 9 - boxNum wr N)
      case atStart => exact ⟨k, hk, rfl, bN, ⟨bM, bR⟩, hB, KeepsFrom.refl _ _, KeepB.refl _ _⟩
      case round =>
        obtain ⟨j, hj, hkj, bNj, ⟨bMj, bRj⟩, hBj, hKF, hKB⟩ := hrel
        have cN := bNj.cell
        have fN := bNj.frozen
        have hMeas := boxNum_of bNj
        have HMj := lhid bMj
        have HRj := lhid bRj
        have HNj := lhid bNj
        have HKF := lhid hKF
        have HKB := lhid hKB
        have HKJ := lhid hkj
        have hNlt := bNj.lt
        clear hKF hKB hkj bMj bRj bNj bN bM bR
        by_cases hlt : j < 9
        · have cJ := (arr_of HMj.out).1 j hlt
          by_cases hr : m j = 1
          · have hb1 : (m j != 1) = false := by simp [hr]
            have HQ := lhid hr
            clear hr
            by_cases hx : x.val = j
            · have ht : ((j : Int) != (x.val : Int)) = false := by rw [hx]; simp
              have HX := lhid hx
              clear hx
              gi_wp2_with fail
              exact ⟨HKF.out.trans ((KeepsOthers.setCell _ _ _).from _), HKB.out.trans (KeepB.setCell _ (by omega) _), ⟨j + 1, by omega, by rw [HKJ.out, selK_yes m 1 j hlt HQ.out]; congr 2; exact Fin.ext HX.out, by have := HNj.out.set (.int .i64 ((j : Int) + 1)); simpa using this⟩, ⟨HMj.out.kept (KeepB.setCell _ (by omega) _), HRj.out.other (by omega) _⟩, hBj.setCell (p := ⟨N, 0, none⟩) (by simp; omega) _⟩
            · have ht : ((j : Int) != (x.val : Int)) = true := by rw [bne_iff_ne]; omega
              have HX := lhid hx
              clear hx
              have cR := HRj.out.cell
              have fR := HRj.out.frozen
              gi_wp2_with fail
              exact ⟨HKF.out.trans ((KeepsOthers.setCell _ _ _).from _), lhid (fun h => by obtain ⟨k', h1, h2⟩ := h; rw [HKJ.out] at h2; exact HX.out (selK_next h1 (.inr HQ.out) h2).2)⟩
          · have hb1 : (m j != 1) = true := by simp [hr]
            have HQ := lhid hr
            clear hr
            gi_wp2_with fail
            go_roundw
            case rel => exact ⟨j + 1, by omega, by rw [HKJ.out, selK_no m 1 j HQ.out], by have := HNj.out.set (.int .i64 ((j : Int) + 1)); simpa using this, ⟨HMj.out.kept (KeepB.setCell _ (by omega) _), HRj.out.other (by omega) _⟩, hBj.setCell (p := ⟨N, 0, none⟩) (by simp; omega) _, HKF.out.trans ((KeepsOthers.setCell _ _ _).from _), HKB.out.trans (KeepB.setCell _ (by omega) _)⟩
            case measure =>
              have h1 := boxNum_of (k := j + 1) (by have := HNj.out.set (.int .i64 ((j : Int) + 1)); simpa using this : Boxed (wr.setCell ⟨N, 0, none⟩ (.int .i64 ((j : Int) + 1))) N 3 (.int .i64 ((j + 1 : Nat) : Int)))
              rw [h1, hMeas]
              omega
        · obtain rfl : j = 9 := by omega
          have ht : ((9 : Int) != (x.val : Int)) = true := by rw [bne_iff_ne]; omega
          have cR := HRj.out.cell
          have fR := HRj.out.frozen
          gi_wp2_with fail
          exact ⟨HKF.out.trans ((KeepsOthers.setCell _ _ _).from _), lhid (fun h => by obtain ⟨k', h1, h2⟩ := h; rw [HKJ.out] at h2; exact absurd (selK_next h1 (.inl rfl) h2).1 (by omega))⟩
    case done =>
      rintro D' ys W hD' rfl ⟨⟨k, hk, hs, bN⟩, ⟨bM, bR⟩, hB⟩ hK
      go_wp2_with fail
      go_loopw [] (fun wr => ∃ j : Nat, j ≤ 9 ∧ selK m 1 9 = selK m 1 j ∧ Boxed wr N 3 (.int .i64 j) ∧ (BlockAt wr w.heap.size #[.int .u8 (m 0), .int .u8 (m 1), .int .u8 (m 2), .int .u8 (m 3), .int .u8 (m 4), .int .u8 (m 5), .int .u8 (m 6), .int .u8 (m 7), .int .u8 (m 8)] 42 ∧ Boxed wr (w.heap.size + 1) 4 (.bool false)) ∧ Below w.heap.size w wr ∧ wr.heap[D']? = some (.deferred (some []))) (fun wr => 9 - boxNum wr N)
      case atStart => exact ⟨k, hk, hs, bN, ⟨bM, bR⟩, hB, hK⟩
      case round =>
        obtain ⟨j, hj, hkj, bNj, ⟨bMj, bRj⟩, hBj, hKj⟩ := hrel
        have cN := bNj.cell
        have fN := bNj.frozen
        have hMeas := boxNum_of bNj
        have HMj := lhid bMj
        have HRj := lhid bRj
        have HNj := lhid bNj
        have HKJ := lhid hkj
        have HKD := lhid hKj
        have hNlt := bNj.lt
        clear hkj bMj bRj bNj bN bM bR hKj hK
        by_cases hlt : j < 9
        · have cJ := (arr_of HMj.out).1 j hlt
          by_cases hr : m j = 1
          · exact absurd (selK_end hj HKJ.out.symm (.inr hr)) (by omega)
          · have hb1 : (m j != 1) = true := by simp [hr]
            have HQ := lhid hr
            clear hr
            go_wp2_with fail
            go_roundw
            case rel => exact ⟨j + 1, by omega, by rw [HKJ.out, selK_no m 1 j HQ.out], by have := HNj.out.set (.int .i64 ((j : Int) + 1)); simpa using this, ⟨HMj.out.kept (KeepB.setCell _ (by omega) _), HRj.out.other (by omega) _⟩, hBj.setCell (p := ⟨N, 0, none⟩) (by simp; omega) _, (Below.heap_setCell wr ⟨N, 0, none⟩ _ D' (by simp; omega)).trans HKD.out⟩
            case measure =>
              have h1 := boxNum_of (k := j + 1) (by have := HNj.out.set (.int .i64 ((j : Int) + 1)); simpa using this : Boxed (wr.setCell ⟨N, 0, none⟩ (.int .i64 ((j : Int) + 1))) N 3 (.int .i64 ((j + 1 : Nat) : Int)))
              rw [h1, hMeas]
              omega
        · obtain rfl : j = 9 := by omega
          have cR := HRj.out.cell
          have fR := HRj.out.frozen
          go_wp2_with fail
          have hK2 : (wr.setCell ⟨w.heap.size + 1, 0, none⟩ (.bool true)).heap[D']? = some (.deferred (some [])) := (Below.heap_setCell wr ⟨w.heap.size + 1, 0, none⟩ _ D' (by simp; omega)).trans HKD.out
          refine ⟨by simp, .inl ⟨_, _, rfl, run_takeDeferred hK2, ?_⟩⟩
          have hbox : Boxed ((wr.setCell ⟨w.heap.size + 1, 0, none⟩ (.bool true)).putObj D' (.deferred none)) (w.heap.size + 1) 4 (.bool true) := (World.putObj_heap_other (by omega)).trans (HRj.out.set (.bool true))
          have hcell := hbox.cell
          refine ⟨.bool true, ?_, rfl, ?_⟩
          · simp [results, Try.results9, go_sem, hcell]
          · exact (hBj.setCell (p := ⟨w.heap.size + 1, 0, none⟩) (by simp) _).trans (belowK_b (w := W0) (by omega) _ D' _ _ hD' hK2 rfl rfl)
    case stop =>
      rintro D' c pre W _ ⟨k, hk, rfl⟩ h _
      exact absurd ⟨k, hk, rfl⟩ h

end Go.Proofs.Ytccopcbemflemaa
