/-
  The walk of the law QuorumMembers: where it ends early.
-/
import Derived.Test.YtccopcbemflemaaRefE
import Derived.Test.YtccopcbemflemaaPhase
import Derived.Test.YtccopcbemflemaaQLawIndex
import Derived.Deep.Cut
namespace Go.Proofs.Ytccopcbemflemaa
open Go Go.RowKit Go.Shelf

set_option maxRecDepth 100000 in
set_option maxHeartbeats 2000000 in
theorem lawMembers_long (m : Nat → Int) (node role : Int) (ay am ab : Option Addr) (cy cm cb ny nm nb : Nat) (w : World) (h : 100 < nb ∨ (nb ≤ 100 ∧ 100 < ny) ∨ (nb ≤ 100 ∧ ny ≤ 100 ∧ 100 < nm)) :
    Calls Try.prog 9 #[.agg #[.int .u8 (m 0), .int .u8 (m 1), .int .u8 (m 2), .int .u8 (m 3), .int .u8 (m 4), .int .u8 (m 5), .int .u8 (m 6), .int .u8 (m 7), .int .u8 (m 8)], .slice ay ny cy, .slice am nm cm, .int .i64 node, .int .i64 role, .slice ab nb cb] w fun e w' => e = .returned (.bool true) ∧ Below w.heap.size w w' := by
  rcases h with h | ⟨h0, h⟩ | ⟨h0, h1, h⟩
  all_goals
    go_enter Try.func9, Try.ntmps9
    go_upto_region 1 with (fail)
    refine wp_named (fun W => (ArrAt W w.heap.size m ∧ Boxed W (w.heap.size + 1) 4 (.bool false)) ∧ Below w.heap.size w W) ?_ ?_
    · exact ⟨⟨(ArrAt.new w m 42 _ rfl).alloc _, Boxed.at_size _ 4 _ _ (by simp)⟩, ((Below.refl _ _).alloc (Nat.le_refl _) _).alloc (by simp) _⟩
    rintro w1 ⟨⟨HA1', HR1'⟩, HB1⟩
    have HA1 := lhid HA1'
    have HR1 := lhid HR1'
    clear HA1' HR1'
    go_wp2_with fail
    refine (knownQ_any _).mono ?_
    rintro e w2 ⟨rfl, hb2⟩
    have HA2 := lhid (HA1.out.below hb2 HA1.out.lt)
    have HR2 := lhid (boxed_below HR1.out hb2 HR1.out.lt)
    have HB2 := HB1.trans (hb2.mono HB1.size)
    clear hb2 HA1 HR1 HB1
    have cR := HR2.out.cell
    have fR := HR2.out.frozen
    go_wp2_with fail
    refine bodyPost_ret (v := .bool true) (by simp [results, Try.results9, go_sem, cR]) rfl ⟨rfl, ?_⟩
    exact HB2.setCell (p := ⟨w.heap.size + 1, 0, none⟩) (by simp) _

set_option maxRecDepth 100000 in
set_option maxHeartbeats 4000000 in
theorem lawMembers_not (m f : Nat → Int) (ev : Int) (node role : Int) (ay am ab : Option Addr) (cy cm cb ny nm nb : Nat) (w : World) (hy : ny ≤ 100) (hnm : nm ≤ 100) (hb : nb ≤ 100)
    (k25 : (∀ X : World, Below w.heap.size w X → Calls Try.prog 25 #[.slice ab nb cb] X fun e w' => e = .returned (.tuple #[.agg #[.int .u8 (f 0), .int .u8 (f 1), .int .u8 (f 2), .int .u8 (f 3), .int .u8 (f 4), .int .u8 (f 5), .int .u8 (f 6), .int .u8 (f 7), .int .u8 (f 8)], .int .i64 ev]) ∧ Below X.heap.size X w'))
    (k26 : (∀ X : World, Below w.heap.size w X → Calls Try.prog 26 #[.slice ab nb cb] X fun e w' => e = .returned (.tuple #[.agg #[.int .u8 (f 0), .int .u8 (f 1), .int .u8 (f 2), .int .u8 (f 3), .int .u8 (f 4), .int .u8 (f 5), .int .u8 (f 6), .int .u8 (f 7), .int .u8 (f 8)], .int .i64 ev]) ∧ Below X.heap.size X w'))
    (k20 : (∀ X : World, Calls Try.prog 20 #[.agg #[.int .u8 (m 0), .int .u8 (m 1), .int .u8 (m 2), .int .u8 (m 3), .int .u8 (m 4), .int .u8 (m 5), .int .u8 (m 6), .int .u8 (m 7), .int .u8 (m 8)]] X fun e w' => e = .returned (.bool false) ∧ Below X.heap.size X w'))
    (k27 : (∀ X : World, Calls Try.prog 27 #[.agg #[.int .u8 (m 0), .int .u8 (m 1), .int .u8 (m 2), .int .u8 (m 3), .int .u8 (m 4), .int .u8 (m 5), .int .u8 (m 6), .int .u8 (m 7), .int .u8 (m 8)]] X fun e w' => e = .returned (.bool false) ∧ Below X.heap.size X w')) :
    Calls Try.prog 9 #[.agg #[.int .u8 (m 0), .int .u8 (m 1), .int .u8 (m 2), .int .u8 (m 3), .int .u8 (m 4), .int .u8 (m 5), .int .u8 (m 6), .int .u8 (m 7), .int .u8 (m 8)], .slice ay ny cy, .slice am nm cm, .int .i64 node, .int .i64 role, .slice ab nb cb] w fun e w' => e = .returned (.bool true) ∧ Below w.heap.size w w' := by
  have k25 := lhid k25
  have k26 := lhid k26
  have k20 := lhid k20
  have k27 := lhid k27
  have hq : ∀ X, (binOp .neq 41 (.agg #[.int .u8 (f 0), .int .u8 (f 1), .int .u8 (f 2), .int .u8 (f 3), .int .u8 (f 4), .int .u8 (f 5), .int .u8 (f 6), .int .u8 (f 7), .int .u8 (f 8)]) (.agg #[.int .u8 (f 0), .int .u8 (f 1), .int .u8 (f 2), .int .u8 (f 3), .int .u8 (f 4), .int .u8 (f 5), .int .u8 (f 6), .int .u8 (f 7), .int .u8 (f 8)])).run Try.prog X = .ok (.bool false) X := fun X => by rw [neq_arr 41 Try.underlying41 f f X, allEq_self]; rfl
  go_enter Try.func9, Try.ntmps9
  go_upto_region 1 with (fail)
  refine wp_named (fun W => (ArrAt W w.heap.size m ∧ Boxed W (w.heap.size + 1) 4 (.bool false)) ∧ Below w.heap.size w W) ?_ ?_
  · exact ⟨⟨(ArrAt.new w m 42 _ rfl).alloc _, Boxed.at_size _ 4 _ _ (by simp)⟩, ((Below.refl _ _).alloc (Nat.le_refl _) _).alloc (by simp) _⟩
  rintro w1 ⟨⟨HA1', HR1'⟩, HB1⟩
  have HA1 := lhid HA1'
  have HR1 := lhid HR1'
  clear HA1' HR1'
  go_wp2_with fail
  refine (knownQ_any _).mono ?_
  rintro e w2 ⟨rfl, hb2⟩
  have HA2 := lhid (HA1.out.below hb2 HA1.out.lt)
  have HR2 := lhid (boxed_below HR1.out hb2 HR1.out.lt)
  have HB2 := HB1.trans (hb2.mono HB1.size)
  clear hb2 HA1 HR1 HB1
  go_wp2_with fail
  refine (k25.out _ HB2).mono ?_
  rintro e w3 ⟨rfl, hb3⟩
  have HA3 := lhid (HA2.out.below hb3 HA2.out.lt)
  have HR3 := lhid (boxed_below HR2.out hb3 HR2.out.lt)
  have HB3 := HB2.trans (hb3.mono HB2.size)
  clear hb3 HA2 HR2 HB2
  go_wp2_with fail
  obtain ⟨d4, hd4⟩ : ∃ d4, d4 = w3.heap.size := ⟨_, rfl⟩
  rw [← hd4]
  obtain ⟨w4, hw4⟩ : ∃ w4, w4 = w3.alloc (.cells #[.int .u8 (f 0), .int .u8 (f 1), .int .u8 (f 2), .int .u8 (f 3), .int .u8 (f 4), .int .u8 (f 5), .int .u8 (f 6), .int .u8 (f 7), .int .u8 (f 8)] 42) := ⟨_, rfl⟩
  rw [← hw4]
  have HD4 : Hid (ArrAt w4 d4 f) := lhid (by rw [hw4]; exact ArrAt.new w3 f 42 _ hd4)
  have HA4 : Hid (ArrAt w4 w.heap.size m) := lhid (by rw [hw4]; exact HA3.out.alloc _)
  have HR4 : Hid (Boxed w4 (w.heap.size + 1) 4 (.bool false)) := lhid (by rw [hw4]; exact HR3.out.alloc _)
  have HB4 : Below w.heap.size w w4 := by rw [hw4]; exact HB3.alloc HB3.size _
  clear hw4 hd4 HA3 HR3 HB3
  refine (k26.out _ HB4).mono ?_
  rintro e w5 ⟨rfl, hb5⟩
  have HA5 := lhid (HA4.out.below hb5 HA4.out.lt)
  have HD5 := lhid (HD4.out.below hb5 HD4.out.lt)
  have HR5 := lhid (boxed_below HR4.out hb5 HR4.out.lt)
  have HB5 := HB4.trans (hb5.mono HB4.size)
  clear hb5 HA4 HR4 HB4 HD4
  go_wp2_with fail

  obtain ⟨d6, hd6⟩ : ∃ d6, d6 = w5.heap.size := ⟨_, rfl⟩
  rw [← hd6]
  refine wp_named (fun W => ((ArrAt W d6 f ∧ ArrAt W d4 f) ∧ (ArrAt W w.heap.size m ∧ Boxed W (w.heap.size + 1) 4 (.bool false))) ∧ Below w.heap.size w W) ⟨⟨⟨ArrAt.new w5 f 41 _ hd6, HD5.out.alloc _⟩, HA5.out.alloc _, HR5.out.alloc _⟩, HB5.alloc HB5.size _⟩ ?_
  rintro w6 ⟨⟨⟨hE6, hD6⟩, hA6, hR6⟩, HB6⟩
  clear hd6 HA5 HR5 HB5 HD5
  have p0 := Fam.cell hE6.lt (hE6.1 0 (by omega))
  have p1 := Fam.cell hE6.lt (hE6.1 1 (by omega))
  have p2 := Fam.cell hE6.lt (hE6.1 2 (by omega))
  have p3 := Fam.cell hE6.lt (hE6.1 3 (by omega))
  have p4 := Fam.cell hE6.lt (hE6.1 4 (by omega))
  have p5 := Fam.cell hE6.lt (hE6.1 5 (by omega))
  have p6 := Fam.cell hE6.lt (hE6.1 6 (by omega))
  have p7 := Fam.cell hE6.lt (hE6.1 7 (by omega))
  have p8 := Fam.cell hE6.lt (hE6.1 8 (by omega))
  have q0 := Fam.cell hD6.lt (hD6.1 0 (by omega))
  have q1 := Fam.cell hD6.lt (hD6.1 1 (by omega))
  have q2 := Fam.cell hD6.lt (hD6.1 2 (by omega))
  have q3 := Fam.cell hD6.lt (hD6.1 3 (by omega))
  have q4 := Fam.cell hD6.lt (hD6.1 4 (by omega))
  have q5 := Fam.cell hD6.lt (hD6.1 5 (by omega))
  have q6 := Fam.cell hD6.lt (hD6.1 6 (by omega))
  have q7 := Fam.cell hD6.lt (hD6.1 7 (by omega))
  have q8 := Fam.cell hD6.lt (hD6.1 8 (by omega))
  have s0 := Fam.cell hA6.lt (hA6.1 0 (by omega))
  have s1 := Fam.cell hA6.lt (hA6.1 1 (by omega))
  have s2 := Fam.cell hA6.lt (hA6.1 2 (by omega))
  have s3 := Fam.cell hA6.lt (hA6.1 3 (by omega))
  have s4 := Fam.cell hA6.lt (hA6.1 4 (by omega))
  have s5 := Fam.cell hA6.lt (hA6.1 5 (by omega))
  have s6 := Fam.cell hA6.lt (hA6.1 6 (by omega))
  have s7 := Fam.cell hA6.lt (hA6.1 7 (by omega))
  have s8 := Fam.cell hA6.lt (hA6.1 8 (by omega))
  have HA6 := lhid hA6
  have HR6 := lhid hR6
  clear hA6 hR6 hE6 hD6
  refine wp_region_fam w6.heap.size (by kernel_rfl) (by kernel_rfl) ?_
  repeat (go_big_quiet_step ((first | go_at_call 20; with_reducible exact Calls.fam (Nat.le_refl _) (k20.out _) | go_at_call 27; with_reducible exact Calls.fam (Nat.le_refl _) (k27.out _))))
  refine wpQuiet_nil ?_
  intro t
  have hb7 := t.below
  generalize t.at = w7 at *
  clear p0 p1 p2 p3 p4 p5 p6 p7 p8
  clear q0 q1 q2 q3 q4 q5 q6 q7 q8
  clear s0 s1 s2 s3 s4 s5 s6 s7 s8
  have HA7 := lhid (HA6.out.below hb7 HA6.out.lt)
  have HR7 := lhid (boxed_below HR6.out hb7 HR6.out.lt)
  have HB7 := HB6.trans (hb7.mono HB6.size)
  clear hb7 HA6 HR6 HB6
  have c0 := HA7.out.1 0 (by omega)
  have c1 := HA7.out.1 1 (by omega)
  have c2 := HA7.out.1 2 (by omega)
  have c3 := HA7.out.1 3 (by omega)
  have c4 := HA7.out.1 4 (by omega)
  have c5 := HA7.out.1 5 (by omega)
  have c6 := HA7.out.1 6 (by omega)
  have c7 := HA7.out.1 7 (by omega)
  have c8 := HA7.out.1 8 (by omega)
  go_wp2_with fail
  refine (k27.out _).mono ?_
  rintro e w8 ⟨rfl, hb8⟩
  have HA8 := lhid (HA7.out.below hb8 HA7.out.lt)
  have HR8 := lhid (boxed_below HR7.out hb8 HR7.out.lt)
  have HB8 := HB7.trans (hb8.mono HB7.size)
  clear hb8 HA7 HR7 HB7
  clear c0 c1 c2 c3 c4 c5 c6 c7 c8
  have cR := HR8.out.cell
  have fR := HR8.out.frozen
  go_wp2_with fail
  refine bodyPost_ret (v := .bool true) (by simp [results, Try.results9, go_sem, cR]) rfl ⟨rfl, ?_⟩
  exact HB8.setCell (p := ⟨w.heap.size + 1, 0, none⟩) (by simp) _

end Go.Proofs.Ytccopcbemflemaa
