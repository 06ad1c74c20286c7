/-
  The tables: words of errors, names of calls, what is to be done, codes; the program's and the reference's.
-/
import Derived.Test.YtccopcbemflemaaDoorAs
namespace Go.Proofs.YtccopcbemflemaaDoor
open Go Go.RowKit Go.Extern.Stop Go.Stop Go.Extern

def nameI (k : Int) : ByteArray := if k = 1 then ⟨#[115, 116, 97, 114, 116]⟩ else if k = 2 then ⟨#[115, 105, 103, 110, 97, 108]⟩ else if k = 3 then ⟨#[99, 97, 110, 99, 101, 108]⟩ else if k = 4 then ⟨#[116, 101, 114, 109, 105, 110, 97, 116, 101]⟩ else if k = 5 then ⟨#[115, 104, 111, 119]⟩ else if k = 6 then ⟨#[104, 105, 115, 116, 111, 114, 121]⟩ else if k = 7 then ⟨#[112, 111, 108, 108, 100]⟩ else if k = 8 then ⟨#[100, 101, 99, 105, 100, 101]⟩ else if k = 9 then ⟨#[112, 111, 108, 108, 97]⟩ else if k = 10 then ⟨#[119, 111, 114, 107, 101, 100]⟩ else if k = 11 then ⟨#[98, 114, 111, 107, 101]⟩ else ⟨#[]⟩
def sortI (n : Int) : Int := if n = 0 then 0 else if n = 26 then 2 else if n = 25 then 2 else if n = 27 then 1 else if n = 5 then 1 else if n = 4 then 1 else if n = 6 then 1 else if n = 24 then 3 else 4
def codeI (n : Int) : Int := if n = 0 then 200 else if n = 26 then 307 else if n = 25 then 307 else if n = 27 then 503 else if n = 5 then 503 else if n = 4 then 503 else if n = 6 then 503 else if n = 24 then 410 else if n = 2 then 404 else if n = 3 then 409 else if n = 20 then 409 else if n = 21 then 409 else if n = 23 then 409 else if n = 1 then 400 else if n = 22 then 400 else if n = 10 then 400 else 500

def errI (n : Int) : ByteArray := if n = 0 then ⟨#[111, 107]⟩ else if n = 1 then ⟨#[97, 114, 103]⟩ else if n = 2 then ⟨#[110, 111, 110, 101]⟩ else if n = 3 then ⟨#[117, 115, 101, 100]⟩ else if n = 4 then ⟨#[102, 117, 108, 108]⟩ else if n = 5 then ⟨#[100, 111, 119, 110]⟩ else if n = 6 then ⟨#[110, 111, 116]⟩ else if n = 7 then ⟨#[115, 104, 111, 114, 116]⟩ else if n = 8 then ⟨#[102, 111, 114, 109]⟩ else if n = 9 then ⟨#[115, 117, 109]⟩ else if n = 10 then ⟨#[108, 111, 110, 103]⟩ else if n = 11 then ⟨#[108, 111, 115, 116]⟩ else if n = 20 then ⟨#[99, 108, 111, 115, 101, 100]⟩ else if n = 21 then ⟨#[115, 116, 97, 108, 101]⟩ else if n = 22 then ⟨#[98, 97, 100]⟩ else if n = 23 then ⟨#[108, 97, 116, 101]⟩ else if n = 24 then ⟨#[101, 120, 112, 105, 114, 101, 100]⟩ else if n = 25 then ⟨#[102, 101, 110, 99, 101, 100]⟩ else if n = 26 then ⟨#[108, 101, 97, 100, 101, 114]⟩ else if n = 27 then ⟨#[97, 119, 97, 121]⟩ else ⟨#[101, 114, 114, 111, 114]⟩
theorem casesE (n : Int) : n = 0 ∨ n = 1 ∨ n = 2 ∨ n = 3 ∨ n = 4 ∨ n = 5 ∨ n = 6 ∨ n = 7 ∨ n = 8 ∨ n = 9 ∨ n = 10 ∨ n = 11 ∨ n = 20 ∨ n = 21 ∨ n = 22 ∨ n = 23 ∨ n = 24 ∨ n = 25 ∨ n = 26 ∨ n = 27 ∨ (¬ n = 0 ∧ ¬ n = 1 ∧ ¬ n = 2 ∧ ¬ n = 3 ∧ ¬ n = 4 ∧ ¬ n = 5 ∧ ¬ n = 6 ∧ ¬ n = 7 ∧ ¬ n = 8 ∧ ¬ n = 9 ∧ ¬ n = 10 ∧ ¬ n = 11 ∧ ¬ n = 20 ∧ ¬ n = 21 ∧ ¬ n = 22 ∧ ¬ n = 23 ∧ ¬ n = 24 ∧ ¬ n = 25 ∧ ¬ n = 26 ∧ ¬ n = 27) := by omega
theorem casesS (n : Int) : n = 0 ∨ n = 26 ∨ n = 25 ∨ n = 27 ∨ n = 5 ∨ n = 4 ∨ n = 6 ∨ n = 24 ∨ (¬ n = 0 ∧ ¬ n = 26 ∧ ¬ n = 25 ∧ ¬ n = 27 ∧ ¬ n = 5 ∧ ¬ n = 4 ∧ ¬ n = 6 ∧ ¬ n = 24) := by omega
theorem casesC (n : Int) : n = 0 ∨ n = 26 ∨ n = 25 ∨ n = 27 ∨ n = 5 ∨ n = 4 ∨ n = 6 ∨ n = 24 ∨ n = 2 ∨ n = 3 ∨ n = 20 ∨ n = 21 ∨ n = 23 ∨ n = 1 ∨ n = 22 ∨ n = 10 ∨ (¬ n = 0 ∧ ¬ n = 26 ∧ ¬ n = 25 ∧ ¬ n = 27 ∧ ¬ n = 5 ∧ ¬ n = 4 ∧ ¬ n = 6 ∧ ¬ n = 24 ∧ ¬ n = 2 ∧ ¬ n = 3 ∧ ¬ n = 20 ∧ ¬ n = 21 ∧ ¬ n = 23 ∧ ¬ n = 1 ∧ ¬ n = 22 ∧ ¬ n = 10) := by omega
theorem casesN (k : Int) : k = 1 ∨ k = 2 ∨ k = 3 ∨ k = 4 ∨ k = 5 ∨ k = 6 ∨ k = 7 ∨ k = 8 ∨ k = 9 ∨ k = 10 ∨ k = 11 ∨ (¬ k = 1 ∧ ¬ k = 2 ∧ ¬ k = 3 ∧ ¬ k = 4 ∧ ¬ k = 5 ∧ ¬ k = 6 ∧ ¬ k = 7 ∧ ¬ k = 8 ∧ ¬ k = 9 ∧ ¬ k = 10 ∧ ¬ k = 11) := by omega


set_option maxRecDepth 100000 in
set_option maxHeartbeats 4000000 in
theorem errno_any (n : Int) (W : World) : Calls Tryd.prog 9 #[.int .i64 n] W fun e w' => e = .returned (.string (errI n)) ∧ w' = W := by
  rcases casesE n with rfl | rfl | rfl | rfl | rfl | rfl | rfl | rfl | rfl | rfl | rfl | rfl | rfl | rfl | rfl | rfl | rfl | rfl | rfl | rfl | ⟨h0, h1, h2, h3, h4, h5, h6, h7, h8, h9, h10, h11, h20, h21, h22, h23, h24, h25, h26, h27⟩
  · go_enter Tryd.func9, Tryd.ntmps9
    go_wp2
    go_ret
    exact ⟨rfl, rfl⟩
  · go_enter Tryd.func9, Tryd.ntmps9
    go_wp2
    go_ret
    exact ⟨rfl, rfl⟩
  · go_enter Tryd.func9, Tryd.ntmps9
    go_wp2
    go_ret
    exact ⟨rfl, rfl⟩
  · go_enter Tryd.func9, Tryd.ntmps9
    go_wp2
    go_ret
    exact ⟨rfl, rfl⟩
  · go_enter Tryd.func9, Tryd.ntmps9
    go_wp2
    go_ret
    exact ⟨rfl, rfl⟩
  · go_enter Tryd.func9, Tryd.ntmps9
    go_wp2
    go_ret
    exact ⟨rfl, rfl⟩
  · go_enter Tryd.func9, Tryd.ntmps9
    go_wp2
    go_ret
    exact ⟨rfl, rfl⟩
  · go_enter Tryd.func9, Tryd.ntmps9
    go_wp2
    go_ret
    exact ⟨rfl, rfl⟩
  · go_enter Tryd.func9, Tryd.ntmps9
    go_wp2
    go_ret
    exact ⟨rfl, rfl⟩
  · go_enter Tryd.func9, Tryd.ntmps9
    go_wp2
    go_ret
    exact ⟨rfl, rfl⟩
  · go_enter Tryd.func9, Tryd.ntmps9
    go_wp2
    go_ret
    exact ⟨rfl, rfl⟩
  · go_enter Tryd.func9, Tryd.ntmps9
    go_wp2
    go_ret
    exact ⟨rfl, rfl⟩
  · go_enter Tryd.func9, Tryd.ntmps9
    go_wp2
    go_ret
    exact ⟨rfl, rfl⟩
  · go_enter Tryd.func9, Tryd.ntmps9
    go_wp2
    go_ret
    exact ⟨rfl, rfl⟩
  · go_enter Tryd.func9, Tryd.ntmps9
    go_wp2
    go_ret
    exact ⟨rfl, rfl⟩
  · go_enter Tryd.func9, Tryd.ntmps9
    go_wp2
    go_ret
    exact ⟨rfl, rfl⟩
  · go_enter Tryd.func9, Tryd.ntmps9
    go_wp2
    go_ret
    exact ⟨rfl, rfl⟩
  · go_enter Tryd.func9, Tryd.ntmps9
    go_wp2
    go_ret
    exact ⟨rfl, rfl⟩
  · go_enter Tryd.func9, Tryd.ntmps9
    go_wp2
    go_ret
    exact ⟨rfl, rfl⟩
  · go_enter Tryd.func9, Tryd.ntmps9
    go_wp2
    go_ret
    exact ⟨rfl, rfl⟩
  · have tb0 : (n == 0) = false := beq_eq_false_iff_ne.2 h0
    have tb1 : (n == 1) = false := beq_eq_false_iff_ne.2 h1
    have tb2 : (n == 2) = false := beq_eq_false_iff_ne.2 h2
    have tb3 : (n == 3) = false := beq_eq_false_iff_ne.2 h3
    have tb4 : (n == 4) = false := beq_eq_false_iff_ne.2 h4
    have tb5 : (n == 5) = false := beq_eq_false_iff_ne.2 h5
    have tb6 : (n == 6) = false := beq_eq_false_iff_ne.2 h6
    have tb7 : (n == 7) = false := beq_eq_false_iff_ne.2 h7
    have tb8 : (n == 8) = false := beq_eq_false_iff_ne.2 h8
    have tb9 : (n == 9) = false := beq_eq_false_iff_ne.2 h9
    have tb10 : (n == 10) = false := beq_eq_false_iff_ne.2 h10
    have tb11 : (n == 11) = false := beq_eq_false_iff_ne.2 h11
    have tb20 : (n == 20) = false := beq_eq_false_iff_ne.2 h20
    have tb21 : (n == 21) = false := beq_eq_false_iff_ne.2 h21
    have tb22 : (n == 22) = false := beq_eq_false_iff_ne.2 h22
    have tb23 : (n == 23) = false := beq_eq_false_iff_ne.2 h23
    have tb24 : (n == 24) = false := beq_eq_false_iff_ne.2 h24
    have tb25 : (n == 25) = false := beq_eq_false_iff_ne.2 h25
    have tb26 : (n == 26) = false := beq_eq_false_iff_ne.2 h26
    have tb27 : (n == 27) = false := beq_eq_false_iff_ne.2 h27
    have hdef : Hid (errI n = ⟨#[101, 114, 114, 111, 114]⟩) := lhid (by unfold errI; simp only [h0, h1, h2, h3, h4, h5, h6, h7, h8, h9, h10, h11, h20, h21, h22, h23, h24, h25, h26, h27, if_false])
    clear h0 h1 h2 h3 h4 h5 h6 h7 h8 h9 h10 h11 h20 h21 h22 h23 h24 h25 h26 h27
    go_enter Tryd.func9, Tryd.ntmps9
    go_wp2
    go_ret
    exact ⟨by rw [hdef.out]; rfl, rfl⟩


set_option maxRecDepth 100000 in
set_option maxHeartbeats 4000000 in
theorem refName_any (k : Int) (W : World) : Calls Tryd.prog 8 #[.int .i64 k] W fun e w' => e = .returned (.string (nameI k)) ∧ w' = W := by
  rcases casesN k with rfl | rfl | rfl | rfl | rfl | rfl | rfl | rfl | rfl | rfl | rfl | ⟨h1, h2, h3, h4, h5, h6, h7, h8, h9, h10, h11⟩
  · go_enter Tryd.func8, Tryd.ntmps8
    go_wp2
    go_ret
    exact ⟨rfl, rfl⟩
  · go_enter Tryd.func8, Tryd.ntmps8
    go_wp2
    go_ret
    exact ⟨rfl, rfl⟩
  · go_enter Tryd.func8, Tryd.ntmps8
    go_wp2
    go_ret
    exact ⟨rfl, rfl⟩
  · go_enter Tryd.func8, Tryd.ntmps8
    go_wp2
    go_ret
    exact ⟨rfl, rfl⟩
  · go_enter Tryd.func8, Tryd.ntmps8
    go_wp2
    go_ret
    exact ⟨rfl, rfl⟩
  · go_enter Tryd.func8, Tryd.ntmps8
    go_wp2
    go_ret
    exact ⟨rfl, rfl⟩
  · go_enter Tryd.func8, Tryd.ntmps8
    go_wp2
    go_ret
    exact ⟨rfl, rfl⟩
  · go_enter Tryd.func8, Tryd.ntmps8
    go_wp2
    go_ret
    exact ⟨rfl, rfl⟩
  · go_enter Tryd.func8, Tryd.ntmps8
    go_wp2
    go_ret
    exact ⟨rfl, rfl⟩
  · go_enter Tryd.func8, Tryd.ntmps8
    go_wp2
    go_ret
    exact ⟨rfl, rfl⟩
  · go_enter Tryd.func8, Tryd.ntmps8
    go_wp2
    go_ret
    exact ⟨rfl, rfl⟩
  · have tb1 : (k == 1) = false := beq_eq_false_iff_ne.2 h1
    have tb2 : (k == 2) = false := beq_eq_false_iff_ne.2 h2
    have tb3 : (k == 3) = false := beq_eq_false_iff_ne.2 h3
    have tb4 : (k == 4) = false := beq_eq_false_iff_ne.2 h4
    have tb5 : (k == 5) = false := beq_eq_false_iff_ne.2 h5
    have tb6 : (k == 6) = false := beq_eq_false_iff_ne.2 h6
    have tb7 : (k == 7) = false := beq_eq_false_iff_ne.2 h7
    have tb8 : (k == 8) = false := beq_eq_false_iff_ne.2 h8
    have tb9 : (k == 9) = false := beq_eq_false_iff_ne.2 h9
    have tb10 : (k == 10) = false := beq_eq_false_iff_ne.2 h10
    have tb11 : (k == 11) = false := beq_eq_false_iff_ne.2 h11
    have hdef : Hid (nameI k = ⟨#[]⟩) := lhid (by unfold nameI; simp only [h1, h2, h3, h4, h5, h6, h7, h8, h9, h10, h11, if_false])
    clear h1 h2 h3 h4 h5 h6 h7 h8 h9 h10 h11
    go_enter Tryd.func8, Tryd.ntmps8
    go_wp2
    go_ret
    exact ⟨by rw [hdef.out]; rfl, rfl⟩


set_option maxRecDepth 100000 in
set_option maxHeartbeats 4000000 in
theorem refSort_any (n : Int) (W : World) : Calls Tryd.prog 11 #[.int .i64 n] W fun e w' => e = .returned (.int .i64 (sortI n)) ∧ w' = W := by
  rcases casesS n with rfl | rfl | rfl | rfl | rfl | rfl | rfl | rfl | ⟨h0, h26, h25, h27, h5, h4, h6, h24⟩
  · go_enter Tryd.func11, Tryd.ntmps11
    go_wp2
    go_ret
    exact ⟨rfl, rfl⟩
  · go_enter Tryd.func11, Tryd.ntmps11
    go_wp2
    go_ret
    exact ⟨rfl, rfl⟩
  · go_enter Tryd.func11, Tryd.ntmps11
    go_wp2
    go_ret
    exact ⟨rfl, rfl⟩
  · go_enter Tryd.func11, Tryd.ntmps11
    go_wp2
    go_ret
    exact ⟨rfl, rfl⟩
  · go_enter Tryd.func11, Tryd.ntmps11
    go_wp2
    go_ret
    exact ⟨rfl, rfl⟩
  · go_enter Tryd.func11, Tryd.ntmps11
    go_wp2
    go_ret
    exact ⟨rfl, rfl⟩
  · go_enter Tryd.func11, Tryd.ntmps11
    go_wp2
    go_ret
    exact ⟨rfl, rfl⟩
  · go_enter Tryd.func11, Tryd.ntmps11
    go_wp2
    go_ret
    exact ⟨rfl, rfl⟩
  · have tb0 : (n == 0) = false := beq_eq_false_iff_ne.2 h0
    have tb26 : (n == 26) = false := beq_eq_false_iff_ne.2 h26
    have tb25 : (n == 25) = false := beq_eq_false_iff_ne.2 h25
    have tb27 : (n == 27) = false := beq_eq_false_iff_ne.2 h27
    have tb5 : (n == 5) = false := beq_eq_false_iff_ne.2 h5
    have tb4 : (n == 4) = false := beq_eq_false_iff_ne.2 h4
    have tb6 : (n == 6) = false := beq_eq_false_iff_ne.2 h6
    have tb24 : (n == 24) = false := beq_eq_false_iff_ne.2 h24
    have hdef : Hid (sortI n = 4) := lhid (by unfold sortI; simp only [h0, h26, h25, h27, h5, h4, h6, h24, if_false])
    clear h0 h26 h25 h27 h5 h4 h6 h24
    go_enter Tryd.func11, Tryd.ntmps11
    go_wp2
    go_ret
    exact ⟨by rw [hdef.out]; rfl, rfl⟩


set_option maxRecDepth 100000 in
set_option maxHeartbeats 4000000 in
theorem refCode_any (n : Int) (W : World) : Calls Tryd.prog 13 #[.int .i64 n] W fun e w' => e = .returned (.int .i64 (codeI n)) ∧ w' = W := by
  rcases casesC n with rfl | rfl | rfl | rfl | rfl | rfl | rfl | rfl | rfl | rfl | rfl | rfl | rfl | rfl | rfl | rfl | ⟨h0, h26, h25, h27, h5, h4, h6, h24, h2, h3, h20, h21, h23, h1, h22, h10⟩
  · go_enter Tryd.func13, Tryd.ntmps13
    go_wp2
    go_ret
    exact ⟨rfl, rfl⟩
  · go_enter Tryd.func13, Tryd.ntmps13
    go_wp2
    go_ret
    exact ⟨rfl, rfl⟩
  · go_enter Tryd.func13, Tryd.ntmps13
    go_wp2
    go_ret
    exact ⟨rfl, rfl⟩
  · go_enter Tryd.func13, Tryd.ntmps13
    go_wp2
    go_ret
    exact ⟨rfl, rfl⟩
  · go_enter Tryd.func13, Tryd.ntmps13
    go_wp2
    go_ret
    exact ⟨rfl, rfl⟩
  · go_enter Tryd.func13, Tryd.ntmps13
    go_wp2
    go_ret
    exact ⟨rfl, rfl⟩
  · go_enter Tryd.func13, Tryd.ntmps13
    go_wp2
    go_ret
    exact ⟨rfl, rfl⟩
  · go_enter Tryd.func13, Tryd.ntmps13
    go_wp2
    go_ret
    exact ⟨rfl, rfl⟩
  · go_enter Tryd.func13, Tryd.ntmps13
    go_wp2
    go_ret
    exact ⟨rfl, rfl⟩
  · go_enter Tryd.func13, Tryd.ntmps13
    go_wp2
    go_ret
    exact ⟨rfl, rfl⟩
  · go_enter Tryd.func13, Tryd.ntmps13
    go_wp2
    go_ret
    exact ⟨rfl, rfl⟩
  · go_enter Tryd.func13, Tryd.ntmps13
    go_wp2
    go_ret
    exact ⟨rfl, rfl⟩
  · go_enter Tryd.func13, Tryd.ntmps13
    go_wp2
    go_ret
    exact ⟨rfl, rfl⟩
  · go_enter Tryd.func13, Tryd.ntmps13
    go_wp2
    go_ret
    exact ⟨rfl, rfl⟩
  · go_enter Tryd.func13, Tryd.ntmps13
    go_wp2
    go_ret
    exact ⟨rfl, rfl⟩
  · go_enter Tryd.func13, Tryd.ntmps13
    go_wp2
    go_ret
    exact ⟨rfl, rfl⟩
  · have tb0 : (n == 0) = false := beq_eq_false_iff_ne.2 h0
    have tb26 : (n == 26) = false := beq_eq_false_iff_ne.2 h26
    have tb25 : (n == 25) = false := beq_eq_false_iff_ne.2 h25
    have tb27 : (n == 27) = false := beq_eq_false_iff_ne.2 h27
    have tb5 : (n == 5) = false := beq_eq_false_iff_ne.2 h5
    have tb4 : (n == 4) = false := beq_eq_false_iff_ne.2 h4
    have tb6 : (n == 6) = false := beq_eq_false_iff_ne.2 h6
    have tb24 : (n == 24) = false := beq_eq_false_iff_ne.2 h24
    have tb2 : (n == 2) = false := beq_eq_false_iff_ne.2 h2
    have tb3 : (n == 3) = false := beq_eq_false_iff_ne.2 h3
    have tb20 : (n == 20) = false := beq_eq_false_iff_ne.2 h20
    have tb21 : (n == 21) = false := beq_eq_false_iff_ne.2 h21
    have tb23 : (n == 23) = false := beq_eq_false_iff_ne.2 h23
    have tb1 : (n == 1) = false := beq_eq_false_iff_ne.2 h1
    have tb22 : (n == 22) = false := beq_eq_false_iff_ne.2 h22
    have tb10 : (n == 10) = false := beq_eq_false_iff_ne.2 h10
    have hdef : Hid (codeI n = 500) := lhid (by unfold codeI; simp only [h0, h26, h25, h27, h5, h4, h6, h24, h2, h3, h20, h21, h23, h1, h22, h10, if_false])
    clear h0 h26 h25 h27 h5 h4 h6 h24 h2 h3 h20 h21 h23 h1 h22 h10
    go_enter Tryd.func13, Tryd.ntmps13
    go_wp2
    go_ret
    exact ⟨by rw [hdef.out]; rfl, rfl⟩


set_option maxRecDepth 100000 in
set_option maxHeartbeats 4000000 in
theorem name_any (k : Int) (W : World) : Calls Tryd.prog 7 #[.int .i64 k] W fun e w' => e = .returned (.string (nameI k)) ∧ Below W.heap.size W w' := by
  rcases casesN k with rfl | rfl | rfl | rfl | rfl | rfl | rfl | rfl | rfl | rfl | rfl | ⟨h1, h2, h3, h4, h5, h6, h7, h8, h9, h10, h11⟩
  · go_enter Tryd.func7, Tryd.ntmps7
    go_wp2
    go_ret
    exact ⟨rfl, (Below.refl _ _).alloc (Nat.le_refl _) _⟩
  · go_enter Tryd.func7, Tryd.ntmps7
    go_wp2
    go_ret
    exact ⟨rfl, (Below.refl _ _).alloc (Nat.le_refl _) _⟩
  · go_enter Tryd.func7, Tryd.ntmps7
    go_wp2
    go_ret
    exact ⟨rfl, (Below.refl _ _).alloc (Nat.le_refl _) _⟩
  · go_enter Tryd.func7, Tryd.ntmps7
    go_wp2
    go_ret
    exact ⟨rfl, (Below.refl _ _).alloc (Nat.le_refl _) _⟩
  · go_enter Tryd.func7, Tryd.ntmps7
    go_wp2
    go_ret
    exact ⟨rfl, (Below.refl _ _).alloc (Nat.le_refl _) _⟩
  · go_enter Tryd.func7, Tryd.ntmps7
    go_wp2
    go_ret
    exact ⟨rfl, (Below.refl _ _).alloc (Nat.le_refl _) _⟩
  · go_enter Tryd.func7, Tryd.ntmps7
    go_wp2
    go_ret
    exact ⟨rfl, (Below.refl _ _).alloc (Nat.le_refl _) _⟩
  · go_enter Tryd.func7, Tryd.ntmps7
    go_wp2
    go_ret
    exact ⟨rfl, (Below.refl _ _).alloc (Nat.le_refl _) _⟩
  · go_enter Tryd.func7, Tryd.ntmps7
    go_wp2
    go_ret
    exact ⟨rfl, (Below.refl _ _).alloc (Nat.le_refl _) _⟩
  · go_enter Tryd.func7, Tryd.ntmps7
    go_wp2
    go_ret
    exact ⟨rfl, (Below.refl _ _).alloc (Nat.le_refl _) _⟩
  · go_enter Tryd.func7, Tryd.ntmps7
    go_wp2
    go_ret
    exact ⟨rfl, (Below.refl _ _).alloc (Nat.le_refl _) _⟩
  · have hdef : Hid (nameI k = ⟨#[]⟩) := lhid (by unfold nameI; simp only [h1, h2, h3, h4, h5, h6, h7, h8, h9, h10, h11, if_false])
    have hk : k < 1 ∨ (1 ≤ k ∧ 11 < k) := by omega
    clear h1 h2 h3 h4 h5 h6 h7 h8 h9 h10 h11
    rcases hk with hk | ⟨h1, hk⟩
    · go_enter Tryd.func7, Tryd.ntmps7
      go_wp2
      go_ret
      exact ⟨by rw [hdef.out]; rfl, Below.refl _ _⟩
    · go_enter Tryd.func7, Tryd.ntmps7
      go_wp2
      go_ret
      exact ⟨by rw [hdef.out]; rfl, Below.refl _ _⟩


set_option maxRecDepth 100000 in
set_option maxHeartbeats 4000000 in
theorem sort_any29 (n : Int) {W : World} (hg : W.cell? ⟨0, 0, none⟩ = some (.iface 63 (.agg #[.pointer (some ⟨1, 25, none⟩)]))) (E : Value) (l : List ByteArray) (hch : Chain W (.iface 29 (.int .i64 n)) E l) :
    Calls Tryd.prog 10 #[E] W fun e w' => e = .returned (.int .i64 (sortI n)) ∧ Below W.heap.size W w' := by
  obtain ⟨u1, v1, rfl⟩ := hch.iface ⟨_, _, rfl⟩
  have HG := lhid hg
  have HC := lhid hch
  clear hg hch
  rcases casesS n with rfl | rfl | rfl | rfl | rfl | rfl | rfl | rfl | ⟨h0, h26, h25, h27, h5, h4, h6, h24⟩
  · go_enter Tryd.func10, Tryd.ntmps10
    go_wp2_with (first | (go_at_call 19; refine (number_any29 (0) HG.out _ l HC.out).mono ?_; rintro e w1 ⟨rfl, hb1⟩) | (go_at_call 15; refine (is_any29 (0) 24 _ l (HC.out.kept hb1)).mono ?_; rintro e w2 ⟨rfl, rfl⟩))
    go_ret
    exact ⟨rfl, hb1⟩
  · go_enter Tryd.func10, Tryd.ntmps10
    go_wp2_with (first | (go_at_call 19; refine (number_any29 (26) HG.out _ l HC.out).mono ?_; rintro e w1 ⟨rfl, hb1⟩) | (go_at_call 15; refine (is_any29 (26) 24 _ l (HC.out.kept hb1)).mono ?_; rintro e w2 ⟨rfl, rfl⟩))
    go_ret
    exact ⟨rfl, hb1⟩
  · go_enter Tryd.func10, Tryd.ntmps10
    go_wp2_with (first | (go_at_call 19; refine (number_any29 (25) HG.out _ l HC.out).mono ?_; rintro e w1 ⟨rfl, hb1⟩) | (go_at_call 15; refine (is_any29 (25) 24 _ l (HC.out.kept hb1)).mono ?_; rintro e w2 ⟨rfl, rfl⟩))
    go_ret
    exact ⟨rfl, hb1⟩
  · go_enter Tryd.func10, Tryd.ntmps10
    go_wp2_with (first | (go_at_call 19; refine (number_any29 (27) HG.out _ l HC.out).mono ?_; rintro e w1 ⟨rfl, hb1⟩) | (go_at_call 15; refine (is_any29 (27) 24 _ l (HC.out.kept hb1)).mono ?_; rintro e w2 ⟨rfl, rfl⟩))
    go_ret
    exact ⟨rfl, hb1⟩
  · go_enter Tryd.func10, Tryd.ntmps10
    go_wp2_with (first | (go_at_call 19; refine (number_any29 (5) HG.out _ l HC.out).mono ?_; rintro e w1 ⟨rfl, hb1⟩) | (go_at_call 15; refine (is_any29 (5) 24 _ l (HC.out.kept hb1)).mono ?_; rintro e w2 ⟨rfl, rfl⟩))
    go_ret
    exact ⟨rfl, hb1⟩
  · go_enter Tryd.func10, Tryd.ntmps10
    go_wp2_with (first | (go_at_call 19; refine (number_any29 (4) HG.out _ l HC.out).mono ?_; rintro e w1 ⟨rfl, hb1⟩) | (go_at_call 15; refine (is_any29 (4) 24 _ l (HC.out.kept hb1)).mono ?_; rintro e w2 ⟨rfl, rfl⟩))
    go_ret
    exact ⟨rfl, hb1⟩
  · go_enter Tryd.func10, Tryd.ntmps10
    go_wp2_with (first | (go_at_call 19; refine (number_any29 (6) HG.out _ l HC.out).mono ?_; rintro e w1 ⟨rfl, hb1⟩) | (go_at_call 15; refine (is_any29 (6) 24 _ l (HC.out.kept hb1)).mono ?_; rintro e w2 ⟨rfl, rfl⟩))
    go_ret
    exact ⟨rfl, hb1⟩
  · go_enter Tryd.func10, Tryd.ntmps10
    go_wp2_with (first | (go_at_call 19; refine (number_any29 (24) HG.out _ l HC.out).mono ?_; rintro e w1 ⟨rfl, hb1⟩) | (go_at_call 15; refine (is_any29 (24) 24 _ l (HC.out.kept hb1)).mono ?_; rintro e w2 ⟨rfl, rfl⟩))
    go_ret
    exact ⟨rfl, hb1⟩
  · have tb0 : (n == 0) = false := beq_eq_false_iff_ne.2 h0
    have tb26 : (n == 26) = false := beq_eq_false_iff_ne.2 h26
    have tb25 : (n == 25) = false := beq_eq_false_iff_ne.2 h25
    have tb27 : (n == 27) = false := beq_eq_false_iff_ne.2 h27
    have tb5 : (n == 5) = false := beq_eq_false_iff_ne.2 h5
    have tb4 : (n == 4) = false := beq_eq_false_iff_ne.2 h4
    have tb6 : (n == 6) = false := beq_eq_false_iff_ne.2 h6
    have tb24 : (n == 24) = false := beq_eq_false_iff_ne.2 h24
    have hdef : Hid (sortI n = 4) := lhid (by unfold sortI; simp only [h0, h26, h25, h27, h5, h4, h6, h24, if_false])
    clear h0 h26 h25 h27 h5 h4 h6 h24
    go_enter Tryd.func10, Tryd.ntmps10
    go_wp2_with (first | (go_at_call 19; refine (number_any29 (n) HG.out _ l HC.out).mono ?_; rintro e w1 ⟨rfl, hb1⟩) | (go_at_call 15; refine (is_any29 (n) 24 _ l (HC.out.kept hb1)).mono ?_; rintro e w2 ⟨rfl, rfl⟩))
    go_ret
    exact ⟨by rw [hdef.out]; rfl, hb1⟩

set_option maxRecDepth 100000 in
set_option maxHeartbeats 4000000 in
theorem sort_any41 (v : Value) {W : World} (hg : W.cell? ⟨0, 0, none⟩ = some (.iface 63 (.agg #[.pointer (some ⟨1, 25, none⟩)]))) (E : Value) (l : List ByteArray) (hch : Chain W (.iface 41 v) E l) :
    Calls Tryd.prog 10 #[E] W fun e w' => e = .returned (.int .i64 4) ∧ Below W.heap.size W w' := by
  obtain ⟨u1, v1, rfl⟩ := hch.iface ⟨_, _, rfl⟩
  have HG := lhid hg
  have HC := lhid hch
  clear hg hch
  go_enter Tryd.func10, Tryd.ntmps10
  go_wp2_with (go_at_call 19; refine (number_any41 v HG.out _ l HC.out).mono ?_; rintro e w1 ⟨rfl, hb1⟩)
  go_ret
  exact ⟨rfl, hb1⟩

set_option maxHeartbeats 4000000 in
theorem sort_nil (W : World) : Calls Tryd.prog 10 #[.nilIface] W fun e w' => e = .returned (.int .i64 0) ∧ w' = W := by
  go_enter Tryd.func10, Tryd.ntmps10
  go_wp2
  go_ret
  exact ⟨rfl, rfl⟩
set_option maxHeartbeats 4000000 in
theorem code_nil (W : World) : Calls Tryd.prog 12 #[.nilIface] W fun e w' => e = .returned (.int .i64 200) ∧ w' = W := by
  go_enter Tryd.func12, Tryd.ntmps12
  go_wp2_with (go_at_call 10; refine (sort_nil _).mono ?_; rintro e w1 ⟨rfl, rfl⟩)
  go_ret
  exact ⟨rfl, rfl⟩


set_option maxRecDepth 100000 in
set_option maxHeartbeats 8000000 in
theorem code_any29 (n : Int) {W : World} (hg : W.cell? ⟨0, 0, none⟩ = some (.iface 63 (.agg #[.pointer (some ⟨1, 25, none⟩)]))) (E : Value) (l : List ByteArray) (hch : Chain W (.iface 29 (.int .i64 n)) E l) :
    Calls Tryd.prog 12 #[E] W fun e w' => e = .returned (.int .i64 (codeI n)) ∧ Below W.heap.size W w' := by
  obtain ⟨u1, v1, rfl⟩ := hch.iface ⟨_, _, rfl⟩
  have hg0 : (⟨0, 0, none⟩ : Addr).block < W.heap.size := block_lt_of_cell' hg
  have HG := lhid hg
  have HC := lhid hch
  clear hg hch
  rcases casesC n with rfl | rfl | rfl | rfl | rfl | rfl | rfl | rfl | rfl | rfl | rfl | rfl | rfl | rfl | rfl | rfl | ⟨h0, h26, h25, h27, h5, h4, h6, h24, h2, h3, h20, h21, h23, h1, h22, h10⟩
  · have kS := fun (X : World) (hX : Below W.heap.size W X) => sort_any29 (0) ((hX.cell hg0).trans HG.out) _ l (HC.out.kept hX)
    rw [show sortI (0) = 0 from rfl] at kS
    have KS := lhid kS
    clear kS
    go_enter Tryd.func12, Tryd.ntmps12
    go_wp2_with (first | (go_at_call 10; refine (KS.out _ (Below.refl _ _)).mono ?_; rintro e w1 ⟨rfl, hb1⟩) | (go_at_call 19; refine (number_any29 (0) ((hb1.cell hg0).trans HG.out) _ l (HC.out.kept hb1)).mono ?_; rintro e w2 ⟨rfl, hb2⟩))
    go_ret
    exact ⟨rfl, hb1⟩
  · have kS := fun (X : World) (hX : Below W.heap.size W X) => sort_any29 (26) ((hX.cell hg0).trans HG.out) _ l (HC.out.kept hX)
    rw [show sortI (26) = 2 from rfl] at kS
    have KS := lhid kS
    clear kS
    go_enter Tryd.func12, Tryd.ntmps12
    go_wp2_with (first | (go_at_call 10; refine (KS.out _ (Below.refl _ _)).mono ?_; rintro e w1 ⟨rfl, hb1⟩) | (go_at_call 19; refine (number_any29 (26) ((hb1.cell hg0).trans HG.out) _ l (HC.out.kept hb1)).mono ?_; rintro e w2 ⟨rfl, hb2⟩))
    go_ret
    exact ⟨rfl, hb1⟩
  · have kS := fun (X : World) (hX : Below W.heap.size W X) => sort_any29 (25) ((hX.cell hg0).trans HG.out) _ l (HC.out.kept hX)
    rw [show sortI (25) = 2 from rfl] at kS
    have KS := lhid kS
    clear kS
    go_enter Tryd.func12, Tryd.ntmps12
    go_wp2_with (first | (go_at_call 10; refine (KS.out _ (Below.refl _ _)).mono ?_; rintro e w1 ⟨rfl, hb1⟩) | (go_at_call 19; refine (number_any29 (25) ((hb1.cell hg0).trans HG.out) _ l (HC.out.kept hb1)).mono ?_; rintro e w2 ⟨rfl, hb2⟩))
    go_ret
    exact ⟨rfl, hb1⟩
  · have kS := fun (X : World) (hX : Below W.heap.size W X) => sort_any29 (27) ((hX.cell hg0).trans HG.out) _ l (HC.out.kept hX)
    rw [show sortI (27) = 1 from rfl] at kS
    have KS := lhid kS
    clear kS
    go_enter Tryd.func12, Tryd.ntmps12
    go_wp2_with (first | (go_at_call 10; refine (KS.out _ (Below.refl _ _)).mono ?_; rintro e w1 ⟨rfl, hb1⟩) | (go_at_call 19; refine (number_any29 (27) ((hb1.cell hg0).trans HG.out) _ l (HC.out.kept hb1)).mono ?_; rintro e w2 ⟨rfl, hb2⟩))
    go_ret
    exact ⟨rfl, hb1⟩
  · have kS := fun (X : World) (hX : Below W.heap.size W X) => sort_any29 (5) ((hX.cell hg0).trans HG.out) _ l (HC.out.kept hX)
    rw [show sortI (5) = 1 from rfl] at kS
    have KS := lhid kS
    clear kS
    go_enter Tryd.func12, Tryd.ntmps12
    go_wp2_with (first | (go_at_call 10; refine (KS.out _ (Below.refl _ _)).mono ?_; rintro e w1 ⟨rfl, hb1⟩) | (go_at_call 19; refine (number_any29 (5) ((hb1.cell hg0).trans HG.out) _ l (HC.out.kept hb1)).mono ?_; rintro e w2 ⟨rfl, hb2⟩))
    go_ret
    exact ⟨rfl, hb1⟩
  · have kS := fun (X : World) (hX : Below W.heap.size W X) => sort_any29 (4) ((hX.cell hg0).trans HG.out) _ l (HC.out.kept hX)
    rw [show sortI (4) = 1 from rfl] at kS
    have KS := lhid kS
    clear kS
    go_enter Tryd.func12, Tryd.ntmps12
    go_wp2_with (first | (go_at_call 10; refine (KS.out _ (Below.refl _ _)).mono ?_; rintro e w1 ⟨rfl, hb1⟩) | (go_at_call 19; refine (number_any29 (4) ((hb1.cell hg0).trans HG.out) _ l (HC.out.kept hb1)).mono ?_; rintro e w2 ⟨rfl, hb2⟩))
    go_ret
    exact ⟨rfl, hb1⟩
  · have kS := fun (X : World) (hX : Below W.heap.size W X) => sort_any29 (6) ((hX.cell hg0).trans HG.out) _ l (HC.out.kept hX)
    rw [show sortI (6) = 1 from rfl] at kS
    have KS := lhid kS
    clear kS
    go_enter Tryd.func12, Tryd.ntmps12
    go_wp2_with (first | (go_at_call 10; refine (KS.out _ (Below.refl _ _)).mono ?_; rintro e w1 ⟨rfl, hb1⟩) | (go_at_call 19; refine (number_any29 (6) ((hb1.cell hg0).trans HG.out) _ l (HC.out.kept hb1)).mono ?_; rintro e w2 ⟨rfl, hb2⟩))
    go_ret
    exact ⟨rfl, hb1⟩
  · have kS := fun (X : World) (hX : Below W.heap.size W X) => sort_any29 (24) ((hX.cell hg0).trans HG.out) _ l (HC.out.kept hX)
    rw [show sortI (24) = 3 from rfl] at kS
    have KS := lhid kS
    clear kS
    go_enter Tryd.func12, Tryd.ntmps12
    go_wp2_with (first | (go_at_call 10; refine (KS.out _ (Below.refl _ _)).mono ?_; rintro e w1 ⟨rfl, hb1⟩) | (go_at_call 19; refine (number_any29 (24) ((hb1.cell hg0).trans HG.out) _ l (HC.out.kept hb1)).mono ?_; rintro e w2 ⟨rfl, hb2⟩))
    go_ret
    exact ⟨rfl, hb1⟩
  · have kS := fun (X : World) (hX : Below W.heap.size W X) => sort_any29 (2) ((hX.cell hg0).trans HG.out) _ l (HC.out.kept hX)
    rw [show sortI (2) = 4 from rfl] at kS
    have KS := lhid kS
    clear kS
    go_enter Tryd.func12, Tryd.ntmps12
    go_wp2_with (first | (go_at_call 10; refine (KS.out _ (Below.refl _ _)).mono ?_; rintro e w1 ⟨rfl, hb1⟩) | (go_at_call 19; refine (number_any29 (2) ((hb1.cell hg0).trans HG.out) _ l (HC.out.kept hb1)).mono ?_; rintro e w2 ⟨rfl, hb2⟩))
    go_ret
    exact ⟨rfl, hb1.trans (hb2.mono hb1.size)⟩
  · have kS := fun (X : World) (hX : Below W.heap.size W X) => sort_any29 (3) ((hX.cell hg0).trans HG.out) _ l (HC.out.kept hX)
    rw [show sortI (3) = 4 from rfl] at kS
    have KS := lhid kS
    clear kS
    go_enter Tryd.func12, Tryd.ntmps12
    go_wp2_with (first | (go_at_call 10; refine (KS.out _ (Below.refl _ _)).mono ?_; rintro e w1 ⟨rfl, hb1⟩) | (go_at_call 19; refine (number_any29 (3) ((hb1.cell hg0).trans HG.out) _ l (HC.out.kept hb1)).mono ?_; rintro e w2 ⟨rfl, hb2⟩))
    go_ret
    exact ⟨rfl, hb1.trans (hb2.mono hb1.size)⟩
  · have kS := fun (X : World) (hX : Below W.heap.size W X) => sort_any29 (20) ((hX.cell hg0).trans HG.out) _ l (HC.out.kept hX)
    rw [show sortI (20) = 4 from rfl] at kS
    have KS := lhid kS
    clear kS
    go_enter Tryd.func12, Tryd.ntmps12
    go_wp2_with (first | (go_at_call 10; refine (KS.out _ (Below.refl _ _)).mono ?_; rintro e w1 ⟨rfl, hb1⟩) | (go_at_call 19; refine (number_any29 (20) ((hb1.cell hg0).trans HG.out) _ l (HC.out.kept hb1)).mono ?_; rintro e w2 ⟨rfl, hb2⟩))
    go_ret
    exact ⟨rfl, hb1.trans (hb2.mono hb1.size)⟩
  · have kS := fun (X : World) (hX : Below W.heap.size W X) => sort_any29 (21) ((hX.cell hg0).trans HG.out) _ l (HC.out.kept hX)
    rw [show sortI (21) = 4 from rfl] at kS
    have KS := lhid kS
    clear kS
    go_enter Tryd.func12, Tryd.ntmps12
    go_wp2_with (first | (go_at_call 10; refine (KS.out _ (Below.refl _ _)).mono ?_; rintro e w1 ⟨rfl, hb1⟩) | (go_at_call 19; refine (number_any29 (21) ((hb1.cell hg0).trans HG.out) _ l (HC.out.kept hb1)).mono ?_; rintro e w2 ⟨rfl, hb2⟩))
    go_ret
    exact ⟨rfl, hb1.trans (hb2.mono hb1.size)⟩
  · have kS := fun (X : World) (hX : Below W.heap.size W X) => sort_any29 (23) ((hX.cell hg0).trans HG.out) _ l (HC.out.kept hX)
    rw [show sortI (23) = 4 from rfl] at kS
    have KS := lhid kS
    clear kS
    go_enter Tryd.func12, Tryd.ntmps12
    go_wp2_with (first | (go_at_call 10; refine (KS.out _ (Below.refl _ _)).mono ?_; rintro e w1 ⟨rfl, hb1⟩) | (go_at_call 19; refine (number_any29 (23) ((hb1.cell hg0).trans HG.out) _ l (HC.out.kept hb1)).mono ?_; rintro e w2 ⟨rfl, hb2⟩))
    go_ret
    exact ⟨rfl, hb1.trans (hb2.mono hb1.size)⟩
  · have kS := fun (X : World) (hX : Below W.heap.size W X) => sort_any29 (1) ((hX.cell hg0).trans HG.out) _ l (HC.out.kept hX)
    rw [show sortI (1) = 4 from rfl] at kS
    have KS := lhid kS
    clear kS
    go_enter Tryd.func12, Tryd.ntmps12
    go_wp2_with (first | (go_at_call 10; refine (KS.out _ (Below.refl _ _)).mono ?_; rintro e w1 ⟨rfl, hb1⟩) | (go_at_call 19; refine (number_any29 (1) ((hb1.cell hg0).trans HG.out) _ l (HC.out.kept hb1)).mono ?_; rintro e w2 ⟨rfl, hb2⟩))
    go_ret
    exact ⟨rfl, hb1.trans (hb2.mono hb1.size)⟩
  · have kS := fun (X : World) (hX : Below W.heap.size W X) => sort_any29 (22) ((hX.cell hg0).trans HG.out) _ l (HC.out.kept hX)
    rw [show sortI (22) = 4 from rfl] at kS
    have KS := lhid kS
    clear kS
    go_enter Tryd.func12, Tryd.ntmps12
    go_wp2_with (first | (go_at_call 10; refine (KS.out _ (Below.refl _ _)).mono ?_; rintro e w1 ⟨rfl, hb1⟩) | (go_at_call 19; refine (number_any29 (22) ((hb1.cell hg0).trans HG.out) _ l (HC.out.kept hb1)).mono ?_; rintro e w2 ⟨rfl, hb2⟩))
    go_ret
    exact ⟨rfl, hb1.trans (hb2.mono hb1.size)⟩
  · have kS := fun (X : World) (hX : Below W.heap.size W X) => sort_any29 (10) ((hX.cell hg0).trans HG.out) _ l (HC.out.kept hX)
    rw [show sortI (10) = 4 from rfl] at kS
    have KS := lhid kS
    clear kS
    go_enter Tryd.func12, Tryd.ntmps12
    go_wp2_with (first | (go_at_call 10; refine (KS.out _ (Below.refl _ _)).mono ?_; rintro e w1 ⟨rfl, hb1⟩) | (go_at_call 19; refine (number_any29 (10) ((hb1.cell hg0).trans HG.out) _ l (HC.out.kept hb1)).mono ?_; rintro e w2 ⟨rfl, hb2⟩))
    go_ret
    exact ⟨rfl, hb1.trans (hb2.mono hb1.size)⟩
  · have tb0 : (n == 0) = false := beq_eq_false_iff_ne.2 h0
    have tb26 : (n == 26) = false := beq_eq_false_iff_ne.2 h26
    have tb25 : (n == 25) = false := beq_eq_false_iff_ne.2 h25
    have tb27 : (n == 27) = false := beq_eq_false_iff_ne.2 h27
    have tb5 : (n == 5) = false := beq_eq_false_iff_ne.2 h5
    have tb4 : (n == 4) = false := beq_eq_false_iff_ne.2 h4
    have tb6 : (n == 6) = false := beq_eq_false_iff_ne.2 h6
    have tb24 : (n == 24) = false := beq_eq_false_iff_ne.2 h24
    have tb2 : (n == 2) = false := beq_eq_false_iff_ne.2 h2
    have tb3 : (n == 3) = false := beq_eq_false_iff_ne.2 h3
    have tb20 : (n == 20) = false := beq_eq_false_iff_ne.2 h20
    have tb21 : (n == 21) = false := beq_eq_false_iff_ne.2 h21
    have tb23 : (n == 23) = false := beq_eq_false_iff_ne.2 h23
    have tb1 : (n == 1) = false := beq_eq_false_iff_ne.2 h1
    have tb22 : (n == 22) = false := beq_eq_false_iff_ne.2 h22
    have tb10 : (n == 10) = false := beq_eq_false_iff_ne.2 h10
    have hdef : Hid (codeI n = 500) := lhid (by unfold codeI; simp only [h0, h26, h25, h27, h5, h4, h6, h24, h2, h3, h20, h21, h23, h1, h22, h10, if_false])
    have hsort : Hid (sortI n = 4) := lhid (by unfold sortI; simp only [h0, h26, h25, h27, h5, h4, h6, h24, if_false])
    clear h0 h26 h25 h27 h5 h4 h6 h24 h2 h3 h20 h21 h23 h1 h22 h10
    have kS := fun (X : World) (hX : Below W.heap.size W X) => sort_any29 (n) ((hX.cell hg0).trans HG.out) _ l (HC.out.kept hX)
    rw [show sortI (n) = 4 from hsort.out] at kS
    have KS := lhid kS
    clear kS
    go_enter Tryd.func12, Tryd.ntmps12
    go_wp2_with (first | (go_at_call 10; refine (KS.out _ (Below.refl _ _)).mono ?_; rintro e w1 ⟨rfl, hb1⟩) | (go_at_call 19; refine (number_any29 (n) ((hb1.cell hg0).trans HG.out) _ l (HC.out.kept hb1)).mono ?_; rintro e w2 ⟨rfl, hb2⟩))
    go_ret
    exact ⟨by rw [hdef.out]; rfl, hb1.trans (hb2.mono hb1.size)⟩

set_option maxRecDepth 100000 in
set_option maxHeartbeats 4000000 in
theorem code_any41 (v : Value) {W : World} (hg : W.cell? ⟨0, 0, none⟩ = some (.iface 63 (.agg #[.pointer (some ⟨1, 25, none⟩)]))) (E : Value) (l : List ByteArray) (hch : Chain W (.iface 41 v) E l) :
    Calls Tryd.prog 12 #[E] W fun e w' => e = .returned (.int .i64 500) ∧ Below W.heap.size W w' := by
  obtain ⟨u1, v1, rfl⟩ := hch.iface ⟨_, _, rfl⟩
  have hg0 : (⟨0, 0, none⟩ : Addr).block < W.heap.size := block_lt_of_cell' hg
  have HG := lhid hg
  have HC := lhid hch
  clear hg hch
  go_enter Tryd.func12, Tryd.ntmps12
  go_wp2_with (first | (go_at_call 10; refine (sort_any41 v HG.out _ l HC.out).mono ?_; rintro e w1 ⟨rfl, hb1⟩) | (go_at_call 19; refine (number_any41 v ((hb1.cell hg0).trans HG.out) _ l (HC.out.kept hb1)).mono ?_; rintro e w2 ⟨rfl, hb2⟩))
  go_ret
  exact ⟨rfl, hb1.trans (hb2.mono hb1.size)⟩

end Go.Proofs.YtccopcbemflemaaDoor
