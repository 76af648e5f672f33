/- What the machine computes. -/
import Derived.Test.YtpjnphonanbopaaV3
import Derived.Test.YtpjnphonanbopaaDb
namespace Go.Proofs.Ytpjnphonanbopaa
open Go.FL
attribute [local irreducible] JC JO JA JB thenQ blockQ retQ AC fill CellsAt QE Ev Mid

theorem w32_in {a : Int} (h1 : 0 ≤ a) (h2 : a < 4294967296) : IntKind.u32.wrap a = a := by rw [IntKind.wrap_u32]; omega
theorem wrapW (a : Int) : IntKind.u32.wrap a = w32 a := IntKind.wrap_u32 a
theorem divW {x y : Int} (hx : U32 x) (hy : U32 y) : w32 (x.tdiv y) = x / y := by
  obtain ⟨h1, h2⟩ := hx
  obtain ⟨h3, h4⟩ := hy
  rw [Int.tdiv_eq_ediv_of_nonneg h1]
  have h5 : 0 ≤ x / y := Int.ediv_nonneg h1 h3
  have h6 : x / y ≤ x := Int.ediv_le_self _ h1
  unfold w32; omega
theorem modW {x y : Int} (hx : U32 x) : x.tmod y = x % y := Int.tmod_eq_emod_of_nonneg hx.1
theorem modR {x y : Int} (hx : U32 x) (hy : U32 y) (h0 : y ≠ 0) : w32 (x - w32 (w32 (x.tdiv y) * y)) = x % y := by
  rw [divW hx hy]
  have h1 := Int.mul_ediv_add_emod x y
  have h2 := Int.emod_nonneg x h0
  have h3 : x % y < y := Int.emod_lt_of_pos x (by have := hy.1; omega)
  rw [Int.mul_comm] at h1
  have h4 := hx.1
  have h5 := hx.2
  have h6 : 0 ≤ x / y * y := Int.mul_nonneg (Int.ediv_nonneg h4 hy.1) hy.1
  unfold w32; omega
theorem sh_stepL {b : Bool} (h : b = true) (X k : Nat) : Value.int .u32 (IntKind.u32.wrap (((shN b X k : Nat) : Int) + ((shN b X k : Nat) : Int))) = .int .u32 ((shN b X (k + 1) : Nat) : Int) := by
  subst h; rw [IntKind.wrap_u32]; simp only [shN, if_true]; congr 1
theorem sh_stepR {b : Bool} (h : b = false) {X k : Nat} (hX : X < 4294967296) : Value.int .u32 (IntKind.u32.wrap (((shN b X k : Nat) : Int).tdiv 2)) = .int .u32 ((shN b X (k + 1) : Nat) : Int) := by
  have := shN_lt hX b k
  subst h; rw [IntKind.wrap_u32]; simp only [shN]; congr 1; rw [Int.tdiv_eq_ediv_of_nonneg (by omega)]; simp; omega
theorem half_step {X : Nat} (hX : X < 4294967296) (k : Nat) : Value.int .u32 (IntKind.u32.wrap (((X / 2 ^ k : Nat) : Int).tdiv 2)) = .int .u32 ((X / 2 ^ (k + 1) : Nat) : Int) := by
  have h1 : X / 2 ^ k ≤ X := Nat.div_le_self _ _
  rw [Nat.pow_succ, ← Nat.div_div_eq_div_mul]
  generalize X / 2 ^ k = Z at h1
  rw [IntKind.wrap_u32, Int.tdiv_eq_ediv_of_nonneg (by omega)]; congr 1; omega
theorem unit_step (k : Nat) : Value.int .u32 (IntKind.u32.wrap (((2 ^ k % 4294967296 : Nat) : Int) * 2)) = .int .u32 ((2 ^ (k + 1) % 4294967296 : Nat) : Int) := by
  rw [IntKind.wrap_u32, Nat.pow_succ]; congr 1; omega
theorem digit_step (a b : Nat) : Value.int .u8 (IntKind.u8.wrap (48 + IntKind.u8.wrap (IntKind.u32.wrap (((a : Nat) : Int).tmod 2 + ((b : Nat) : Int).tmod 2)))) = .int .u8 ((48 + (a % 2 + b % 2) : Nat) : Int) := by
  rw [IntKind.wrap_u32, IntKind.wrap_u8, IntKind.wrap_u8, Int.tmod_eq_emod_of_nonneg (by omega), Int.tmod_eq_emod_of_nonneg (by omega)]; congr 1; omega
def onesF (l : List UInt8) (d : Nat) : Bool := l.any fun x => decide ((x.toNat : Int) = ((48 + d : Nat) : Int))
theorem bw_hit {l : List UInt8} {X Y k : Nat} (hk : k < 32) (h : (l.any fun x => decide ((x.toNat : Int) = ((48 + (X / 2 ^ k % 2 + Y / 2 ^ k % 2) : Nat) : Int))) = true) : Value.int .u32 (IntKind.u32.wrap (((bwN (onesF l) X Y k : Nat) : Int) + ((2 ^ k % 4294967296 : Nat) : Int))) = .int .u32 ((bwN (onesF l) X Y (k + 1) : Nat) : Int) := by
  have h1 := bwN_lt (onesF l) X Y (k + 1)
  have h2 : (2 : Nat) ^ (k + 1) ≤ 2 ^ 32 := Nat.pow_le_pow_right (by omega) (by omega)
  have h3 : onesF l (X / 2 ^ k % 2 + Y / 2 ^ k % 2) = true := h
  have h5 : (2 : Nat) ^ k < 4294967296 := by rw [Nat.pow_succ] at h2; have : (0 : Nat) < 2 ^ k := Nat.pos_of_ne_zero (by simp); omega
  simp only [bwN, h3, if_true] at h1 ⊢
  rw [IntKind.wrap_u32, Nat.mod_eq_of_lt h5]; congr 1; omega
theorem bw_miss {l : List UInt8} {X Y k : Nat} (h : (l.any fun x => decide ((x.toNat : Int) = ((48 + (X / 2 ^ k % 2 + Y / 2 ^ k % 2) : Nat) : Int))) = false) : Value.int .u32 ((bwN (onesF l) X Y k : Nat) : Int) = .int .u32 ((bwN (onesF l) X Y (k + 1) : Nat) : Int) := by
  have h3 : onesF l (X / 2 ^ k % 2 + Y / 2 ^ k % 2) = false := h
  simp [bwN, h3]
theorem ones_2 : onesF [50] = fun d => decide (d = 2) := by funext d; unfold onesF; rw [Bool.eq_iff_iff]; simp; omega
theorem ones_1 : onesF [49] = fun d => decide (d = 1) := by funext d; unfold onesF; rw [Bool.eq_iff_iff]; simp; omega
theorem ones_12 : onesF [49, 50] = fun d => decide (d = 1) || decide (d = 2) := by funext d; unfold onesF; rw [Bool.eq_iff_iff]; simp; omega

set_option maxHeartbeats 1000000 in
set_option maxRecDepth 100000 in
theorem one_ac (D : Nat) (L : Hl) (s : World) (b : Bool) : AC Try.prog D 81 [.bool b] L s fun v L' _ => v = .int .u32 (if b then 1 else 0) ∧ L = L' := by
 refine AC_enter (TT := TT) (fn := Try.f81) TT_ok Try.func81 (by kernel_rfl) rfl Try.ntmps81 rfl (rs := [.tmp 2]) rfl [(0, _)] rfl ?_
 refine JC_seq ?_
 refine JC_region ?_
 refine JO_q (QE_as rfl) rfl ?_
 refine JO_nil ?_
 refine thenQ_n ?_
 refine JC_seq ?_
 refine JC_seq ?_
 refine JC_region ?_
 refine JO_q (QE_mv rfl) rfl ?_
 refine JO_nil ?_
 refine thenQ_n ?_
 refine JC_if rfl (fun c1 => ?_) (fun c1 => ?_)
 ·
  refine JC_seq ?_
  refine JC_region ?_
  refine JO_q (QE_as rfl) rfl ?_
  refine JO_nil ?_
  refine thenQ_n ?_
  refine JC_ret ?_
  refine thenQ_r ?_
  refine retQ_mk [] L (.inr rfl) (.tmp rfl (.nil)) rfl (Le.refl (D := D) _) (fun sR hS2 => ?_)
  exact ⟨by simp [resV, *], rfl⟩
 ·
  refine JC_skip ?_
  refine thenQ_n ?_
  refine JC_seq ?_
  refine JC_region ?_
  refine JO_q (QE_as rfl) rfl ?_
  refine JO_nil ?_
  refine thenQ_n ?_
  refine JC_ret ?_
  refine retQ_mk [] L (.inr rfl) (.tmp rfl (.nil)) rfl (Le.refl (D := D) _) (fun sR hS2 => ?_)
  exact ⟨by simp [resV, *], rfl⟩

set_option maxHeartbeats 1000000 in
set_option maxRecDepth 100000 in
theorem truth_ac (D : Nat) (L : Hl) (s : World) (b : Bool) : AC Try.prog D 80 [.bool b] L s fun v L' _ => v = .int .u32 (if b then 1 else 0) ∧ L = L' := by
 refine AC_enter (TT := TT) (fn := Try.f80) TT_ok Try.func80 (by kernel_rfl) rfl Try.ntmps80 rfl (rs := [.tmp 2]) rfl [(0, _)] rfl ?_
 refine JC_seq ?_
 refine JC_region ?_
 refine JO_q (QE_as rfl) rfl ?_
 refine JO_nil ?_
 refine thenQ_n ?_
 refine JC_seq ?_
 refine JC_seq ?_
 refine JC_region ?_
 refine JO_q (QE_mv rfl) rfl ?_
 refine JO_nil ?_
 refine thenQ_n ?_
 refine JC_if rfl (fun c1 => ?_) (fun c1 => ?_)
 ·
  refine JC_seq ?_
  refine JC_region ?_
  refine JO_q (QE_as rfl) rfl ?_
  refine JO_nil ?_
  refine thenQ_n ?_
  refine JC_ret ?_
  refine thenQ_r ?_
  refine retQ_mk [] L (.inr rfl) (.tmp rfl (.nil)) rfl (Le.refl (D := D) _) (fun sR hS2 => ?_)
  exact ⟨by simp [resV, *], rfl⟩
 ·
  refine JC_skip ?_
  refine thenQ_n ?_
  refine JC_seq ?_
  refine JC_region ?_
  refine JO_q (QE_as rfl) rfl ?_
  refine JO_nil ?_
  refine thenQ_n ?_
  refine JC_ret ?_
  refine retQ_mk [] L (.inr rfl) (.tmp rfl (.nil)) rfl (Le.refl (D := D) _) (fun sR hS2 => ?_)
  exact ⟨by simp [resV, *], rfl⟩

set_option maxHeartbeats 1000000 in
set_option maxRecDepth 100000 in
theorem compute_ac (D : Nat) (L : Hl) (s : World) (k : Int) (x y : Int) (hx : U32 x) (hy : U32 y) (hk : 1 ≤ k ∧ k ≤ 12 ∧ k ≠ 4 ∧ k ≠ 5) : AC Try.prog D 75 [.int .i64 k, .int .u32 x, .int .u32 y] L s fun v L' _ => v = .int .u32 (comp k x y) ∧ L = L' := by
 refine AC_enter (TT := TT) (fn := Try.f75) TT_ok Try.func75 (by kernel_rfl) rfl Try.ntmps75 rfl (rs := [.tmp 6]) rfl [(0, _), (1, _), (2, _)] rfl ?_
 refine JC_seq ?_
 refine JC_region ?_
 refine JO_q (QE_as rfl) rfl ?_
 refine JO_nil ?_
 refine thenQ_n ?_
 refine JC_seq ?_
 refine JC_seq ?_
 refine JC_region ?_
 refine JO_q (QE_mv rfl) rfl ?_
 refine JO_nil ?_
 refine thenQ_n ?_
 refine JC_block ?_
 refine JC_seq ?_
 refine JC_region ?_
 refine JO_q (QE_eq rfl rfl) rfl ?_
 refine JO_q (QE_as rfl) rfl ?_
 refine JO_nil ?_
 refine thenQ_n ?_
 refine JC_ifD rfl (fun c1 => ?_) (fun c1 => ?_)
 ·
  refine JC_seq ?_
  refine JC_region ?_
  refine JO_q (QE_mv rfl) rfl ?_
  refine JO_q (QE_mv rfl) rfl ?_
  refine JO_q (QE_add rfl rfl) rfl ?_
  refine JO_q (QE_as rfl) rfl ?_
  refine JO_nil ?_
  refine thenQ_n ?_
  refine JC_ret ?_
  refine blockQ_r ?_
  refine thenQ_r ?_
  refine retQ_mk [] L (.inr rfl) (.tmp rfl (.nil)) rfl (Le.refl (D := D) _) (fun sR hS2 => ?_)
  refine ⟨?_, rfl⟩
  simp [resV, comp, wrapW, *]; done
 ·
  refine JC_seq ?_
  refine JC_region ?_
  refine JO_q (QE_eq rfl rfl) rfl ?_
  refine JO_q (QE_as rfl) rfl ?_
  refine JO_nil ?_
  refine thenQ_n ?_
  refine JC_ifD rfl (fun c2 => ?_) (fun c2 => ?_)
  ·
   refine JC_seq ?_
   refine JC_region ?_
   refine JO_q (QE_mv rfl) rfl ?_
   refine JO_q (QE_mv rfl) rfl ?_
   refine JO_q (QE_sub rfl rfl) rfl ?_
   refine JO_q (QE_as rfl) rfl ?_
   refine JO_nil ?_
   refine thenQ_n ?_
   refine JC_ret ?_
   refine blockQ_r ?_
   refine thenQ_r ?_
   refine retQ_mk [] L (.inr rfl) (.tmp rfl (.nil)) rfl (Le.refl (D := D) _) (fun sR hS2 => ?_)
   refine ⟨?_, rfl⟩
   simp [resV, comp, wrapW, *]; done
  ·
   refine JC_seq ?_
   refine JC_region ?_
   refine JO_q (QE_eq rfl rfl) rfl ?_
   refine JO_q (QE_as rfl) rfl ?_
   refine JO_nil ?_
   refine thenQ_n ?_
   refine JC_ifD rfl (fun c3 => ?_) (fun c3 => ?_)
   ·
    refine JC_seq ?_
    refine JC_region ?_
    refine JO_q (QE_mv rfl) rfl ?_
    refine JO_q (QE_mv rfl) rfl ?_
    refine JO_q (QE_mul rfl rfl) rfl ?_
    refine JO_q (QE_as rfl) rfl ?_
    refine JO_nil ?_
    refine thenQ_n ?_
    refine JC_ret ?_
    refine blockQ_r ?_
    refine thenQ_r ?_
    refine retQ_mk [] L (.inr rfl) (.tmp rfl (.nil)) rfl (Le.refl (D := D) _) (fun sR hS2 => ?_)
    refine ⟨?_, rfl⟩
    simp [resV, comp, wrapW, *]; done
   ·
    refine JC_seq ?_
    refine JC_region ?_
    refine JO_q (QE_eq rfl rfl) rfl ?_
    refine JO_q (QE_as rfl) rfl ?_
    refine JO_nil ?_
    refine thenQ_n ?_
    refine JC_ifD rfl (fun c4 => ?_) (fun c4 => ?_)
    ·
     refine JC_seq ?_
     refine JC_region ?_
     refine JO_q (QE_mv rfl) rfl ?_
     refine JO_q (QE_mv rfl) rfl ?_
     refine JO_q (QE_bin rfl rfl notEq_and (run_and32 hx hy)) rfl ?_
     refine JO_q (QE_as rfl) rfl ?_
     refine JO_nil ?_
     refine thenQ_n ?_
     refine JC_ret ?_
     refine blockQ_r ?_
     refine thenQ_r ?_
     refine retQ_mk [] L (.inr rfl) (.tmp rfl (.nil)) rfl (Le.refl (D := D) _) (fun sR hS2 => ?_)
     refine ⟨?_, rfl⟩
     simp [resV, comp, wrapW, *]; done
    ·
     refine JC_seq ?_
     refine JC_region ?_
     refine JO_q (QE_eq rfl rfl) rfl ?_
     refine JO_q (QE_as rfl) rfl ?_
     refine JO_nil ?_
     refine thenQ_n ?_
     refine JC_ifD rfl (fun c5 => ?_) (fun c5 => ?_)
     ·
      refine JC_seq ?_
      refine JC_region ?_
      refine JO_q (QE_mv rfl) rfl ?_
      refine JO_q (QE_mv rfl) rfl ?_
      refine JO_q (QE_bin rfl rfl notEq_or (run_or32 hx hy)) rfl ?_
      refine JO_q (QE_as rfl) rfl ?_
      refine JO_nil ?_
      refine thenQ_n ?_
      refine JC_ret ?_
      refine blockQ_r ?_
      refine thenQ_r ?_
      refine retQ_mk [] L (.inr rfl) (.tmp rfl (.nil)) rfl (Le.refl (D := D) _) (fun sR hS2 => ?_)
      refine ⟨?_, rfl⟩
      simp [resV, comp, wrapW, *]; done
     ·
      refine JC_seq ?_
      refine JC_region ?_
      refine JO_q (QE_eq rfl rfl) rfl ?_
      refine JO_q (QE_as rfl) rfl ?_
      refine JO_nil ?_
      refine thenQ_n ?_
      refine JC_ifD rfl (fun c6 => ?_) (fun c6 => ?_)
      ·
       refine JC_seq ?_
       refine JC_region ?_
       refine JO_q (QE_mv rfl) rfl ?_
       refine JO_q (QE_mv rfl) rfl ?_
       refine JO_q (QE_bin rfl rfl notEq_xor (run_xor32 hx hy)) rfl ?_
       refine JO_q (QE_as rfl) rfl ?_
       refine JO_nil ?_
       refine thenQ_n ?_
       refine JC_ret ?_
       refine blockQ_r ?_
       refine thenQ_r ?_
       refine retQ_mk [] L (.inr rfl) (.tmp rfl (.nil)) rfl (Le.refl (D := D) _) (fun sR hS2 => ?_)
       refine ⟨?_, rfl⟩
       simp [resV, comp, wrapW, *]; done
      ·
       refine JC_seq ?_
       refine JC_region ?_
       refine JO_q (QE_eq rfl rfl) rfl ?_
       refine JO_q (QE_as rfl) rfl ?_
       refine JO_nil ?_
       refine thenQ_n ?_
       refine JC_ifD rfl (fun c7 => ?_) (fun c7 => ?_)
       ·
        refine JC_seq ?_
        refine JC_region ?_
        refine JO_q (QE_mv rfl) rfl ?_
        refine JO_q (QE_mv rfl) rfl ?_
        refine JO_q (QE_bin rfl rfl notEq_shl (run_shl32 hx hy)) rfl ?_
        refine JO_q (QE_as rfl) rfl ?_
        refine JO_nil ?_
        refine thenQ_n ?_
        refine JC_ret ?_
        refine blockQ_r ?_
        refine thenQ_r ?_
        refine retQ_mk [] L (.inr rfl) (.tmp rfl (.nil)) rfl (Le.refl (D := D) _) (fun sR hS2 => ?_)
        refine ⟨?_, rfl⟩
        simp [resV, comp, wrapW, *]; done
       ·
        refine JC_seq ?_
        refine JC_region ?_
        refine JO_q (QE_eq rfl rfl) rfl ?_
        refine JO_q (QE_as rfl) rfl ?_
        refine JO_nil ?_
        refine thenQ_n ?_
        refine JC_ifD rfl (fun c8 => ?_) (fun c8 => ?_)
        ·
         refine JC_seq ?_
         refine JC_region ?_
         refine JO_q (QE_mv rfl) rfl ?_
         refine JO_q (QE_mv rfl) rfl ?_
         refine JO_q (QE_bin rfl rfl notEq_shr (run_shr32 hx hy)) rfl ?_
         refine JO_q (QE_as rfl) rfl ?_
         refine JO_nil ?_
         refine thenQ_n ?_
         refine JC_ret ?_
         refine blockQ_r ?_
         refine thenQ_r ?_
         refine retQ_mk [] L (.inr rfl) (.tmp rfl (.nil)) rfl (Le.refl (D := D) _) (fun sR hS2 => ?_)
         refine ⟨?_, rfl⟩
         simp [resV, comp, wrapW, *]; done
        ·
         refine JC_seq ?_
         refine JC_region ?_
         refine JO_q (QE_eq rfl rfl) rfl ?_
         refine JO_q (QE_as rfl) rfl ?_
         refine JO_nil ?_
         refine thenQ_n ?_
         refine JC_ifD rfl (fun c9 => ?_) (fun c9 => ?_)
         ·
          refine JC_seq ?_
          refine JC_region ?_
          refine JO_q (QE_mv rfl) rfl ?_
          refine JO_q (QE_mv rfl) rfl ?_
          refine JO_q (QE_eq rfl rfl) rfl ?_
          refine JO_call (first := []) (captured := []) rfl rfl rfl (one_ac D _ _ _) ?_
          rintro _ _ s10 h10 ⟨rfl, rfl⟩
          refine JO_q (QE_as rfl) rfl ?_
          refine JO_nil ?_
          refine thenQ_n ?_
          refine JC_ret ?_
          refine blockQ_r ?_
          refine thenQ_r ?_
          refine retQ_mk [] L (.inr rfl) (.tmp rfl (.nil)) rfl h10 (fun sR hS2 => ?_)
          refine ⟨?_, rfl⟩
          simp [resV, comp, wrapW, *]; done
         ·
          refine JC_skip ?_
          refine blockQ_n ?_
          refine thenQ_n ?_
          refine JC_seq ?_
          refine JC_region ?_
          refine JO_q (QE_mv rfl) rfl ?_
          refine JO_q (QE_mv rfl) rfl ?_
          refine JO_q (QE_lt rfl rfl) rfl ?_
          refine JO_call (first := []) (captured := []) rfl rfl rfl (one_ac D _ _ _) ?_
          rintro _ _ s11 h11 ⟨rfl, rfl⟩
          refine JO_q (QE_as rfl) rfl ?_
          refine JO_nil ?_
          refine thenQ_n ?_
          refine JC_ret ?_
          refine retQ_mk [] L (.inr rfl) (.tmp rfl (.nil)) rfl h11 (fun sR hS2 => ?_)
          refine ⟨?_, rfl⟩
          have h12 : k = 12 := by omega
          simp [resV, comp, h12]; done

set_option maxHeartbeats 1000000 in
set_option maxRecDepth 100000 in
theorem shifted_ac (D : Nat) (L : Hl) (s : World) (x y : Int) (hx : U32 x) (hy : U32 y) (b : Bool) : AC Try.prog D 79 [.int .u32 x, .int .u32 y, .bool b] L s fun v L' _ => v = .int .u32 ((shN b x.toNat y.toNat : Nat) : Int) ∧ L = L' := by
 obtain ⟨X, rfl⟩ := Int.eq_ofNat_of_zero_le hx.1
 obtain ⟨Y, rfl⟩ := Int.eq_ofNat_of_zero_le hy.1
 have hX : X < 4294967296 := by have := hx.2; omega
 refine AC_enter (TT := TT) (fn := Try.f79) TT_ok Try.func79 (by kernel_rfl) rfl Try.ntmps79 rfl (rs := [.tmp 6]) rfl [(0, _), (1, _), (2, _)] rfl ?_
 refine JC_seq ?_
 refine JC_region ?_
 refine JO_q (QE_as rfl) rfl ?_
 refine JO_nil ?_
 refine thenQ_n ?_
 refine JC_seq ?_
 refine JC_seq ?_
 refine JC_region ?_
 refine JO_q (QE_mv rfl) rfl ?_
 refine JO_q (QE_gt rfl rfl) rfl ?_
 refine JO_nil ?_
 refine thenQ_n ?_
 refine JC_ifD rfl (fun c1 => ?_) (fun c1 => ?_)
 ·
  refine JC_seq ?_
  refine JC_region ?_
  refine JO_q (QE_as rfl) rfl ?_
  refine JO_nil ?_
  refine thenQ_n ?_
  refine JC_ret ?_
  refine thenQ_r ?_
  refine retQ_mk [] L (.inr rfl) (.tmp rfl (.nil)) rfl (Le.refl (D := D) _) (fun sR hS2 => ?_)
  refine ⟨?_, rfl⟩
  have hf := sh_far hX (show 32 < Y by omega) b
  simp [resV, hf]; done
 ·
  refine JC_skip ?_
  refine thenQ_n ?_
  refine JC_seq ?_
  refine JC_seq ?_
  refine JC_region ?_
  refine JO_q (QE_as rfl) rfl ?_
  refine JO_nil ?_
  refine thenQ_n ?_
  refine JC_block ?_
  refine JC_loop (γ := Nat) (fun k => [(0, .int .u32 ((shN b X k : Nat) : Int)), (1, _), (2, _), (6, _), (7, .int .u32 (k : Int))]) (fun _ => _) (fun k tw => Le D s tw ∧ (k ≤ Y)) (fun k => Y - k) (fun _ _ _ h hl => ⟨h.1.trans hl, h.2⟩) 0 (Keeps.cons rfl (Keeps.cons rfl (Keeps.cons rfl (Keeps.cons rfl (Keeps.cons rfl (Keeps.nil _)))))) rfl ⟨Le.refl _, Nat.zero_le _⟩ ?_
  intro k s2 I2
  have hk0 := I2.2
  refine JC_seq ?_
  refine JC_seq ?_
  refine JC_region ?_
  refine JO_q (QE_mv rfl) rfl ?_
  refine JO_q (QE_mv rfl) rfl ?_
  refine JO_q (QE_lt rfl rfl) rfl ?_
  refine JO_nil ?_
  refine thenQ_n ?_
  refine JC_ifD rfl (fun c3 => ?_) (fun c3 => ?_)
  ·
   refine JC_skip ?_
   refine thenQ_n ?_
   refine JC_seq ?_
   refine JC_block ?_
   refine JC_seq ?_
   refine JC_region ?_
   refine JO_q (QE_mv rfl) rfl ?_
   refine JO_nil ?_
   refine thenQ_n ?_
   refine JC_if rfl (fun c4 => ?_) (fun c4 => ?_)
   ·
    have hl := c4
    refine JC_region ?_
    refine JO_q (QE_mv rfl) rfl ?_
    refine JO_q (QE_mv rfl) rfl ?_
    refine JO_q (QE_cast (QE_add rfl rfl) (sh_stepL hl X k)) rfl ?_
    refine JO_q (QE_as rfl) rfl ?_
    refine JO_nil ?_
    refine blockQ_n ?_
    refine thenQ_n ?_
    refine JC_region ?_
    refine JO_q (QE_mv rfl) rfl ?_
    refine JO_q (QE_add' rfl rfl (w32_in (by omega) (by omega))) rfl ?_
    refine JO_q (QE_as rfl) rfl ?_
    refine JO_nil ?_
    refine thenQ_n ⟨(k + 1), [], (Keeps.cons rfl (Keeps.cons rfl (Keeps.cons rfl (Keeps.cons rfl (Keeps.cons rfl (Keeps.nil _)))))), rfl, ⟨I2.1, (by omega)⟩, (by omega)⟩
   ·
    have hl := c4
    refine JC_region ?_
    refine JO_q (QE_mv rfl) rfl ?_
    refine JO_q (QE_cast (QE_quo rfl rfl (by decide)) (sh_stepR hl hX)) rfl ?_
    refine JO_q (QE_as rfl) rfl ?_
    refine JO_nil ?_
    refine blockQ_n ?_
    refine thenQ_n ?_
    refine JC_region ?_
    refine JO_q (QE_mv rfl) rfl ?_
    refine JO_q (QE_add' rfl rfl (w32_in (by omega) (by omega))) rfl ?_
    refine JO_q (QE_as rfl) rfl ?_
    refine JO_nil ?_
    refine thenQ_n ⟨(k + 1), [], (Keeps.cons rfl (Keeps.cons rfl (Keeps.cons rfl (Keeps.cons rfl (Keeps.cons rfl (Keeps.nil _)))))), rfl, ⟨I2.1, (by omega)⟩, (by omega)⟩
  ·
   refine JC_exit ?_
   refine thenQ_x ?_
   refine thenQ_x ?_
   refine blockQ_x ?_
   refine thenQ_n ?_
   refine JC_seq ?_
   refine JC_region ?_
   refine JO_q (QE_mv rfl) rfl ?_
   refine JO_q (QE_as rfl) rfl ?_
   refine JO_nil ?_
   refine thenQ_n ?_
   refine JC_ret ?_
   refine retQ_mk [] L (.inr rfl) (.tmp rfl (.nil)) rfl I2.1 (fun sR hS2 => ?_)
   refine ⟨?_, rfl⟩
   have he : k = Y := by omega
   subst he
   simp [resV]; done

set_option maxHeartbeats 1000000 in
set_option maxRecDepth 100000 in
theorem bitwise_ac (D : Nat) (L : Hl) (s : World) (x y : Int) (hx : U32 x) (hy : U32 y) (l : List UInt8) (hl : l.length ≤ 9223372036854775807) : AC Try.prog D 78 [.int .u32 x, .int .u32 y, St l] L s fun v L' _ => v = .int .u32 ((bwN (onesF l) x.toNat y.toNat 32 : Nat) : Int) ∧ L = L' := by
 obtain ⟨X, rfl⟩ := Int.eq_ofNat_of_zero_le hx.1
 obtain ⟨Y, rfl⟩ := Int.eq_ofNat_of_zero_le hy.1
 have hX : X < 4294967296 := by have := hx.2; omega
 have hY : Y < 4294967296 := by have := hy.2; omega
 refine AC_enter (TT := TT) (fn := Try.f78) TT_ok Try.func78 (by kernel_rfl) rfl Try.ntmps78 rfl (rs := [.tmp 6]) rfl [(0, _), (1, _), (2, _)] rfl ?_
 refine JC_seq ?_
 refine JC_region ?_
 refine JO_q (QE_as rfl) rfl ?_
 refine JO_nil ?_
 refine thenQ_n ?_
 refine JC_seq ?_
 refine JC_region ?_
 refine JO_q (QE_as rfl) rfl ?_
 refine JO_nil ?_
 refine thenQ_n ?_
 refine JC_seq ?_
 refine JC_region ?_
 refine JO_q (QE_as rfl) rfl ?_
 refine JO_nil ?_
 refine thenQ_n ?_
 refine JC_seq ?_
 refine JC_seq ?_
 refine JC_region ?_
 refine JO_q (QE_as rfl) rfl ?_
 refine JO_nil ?_
 refine thenQ_n ?_
 refine JC_block ?_
 refine JC_loop (γ := Nat) (fun k => [(0, .int .u32 ((X / 2 ^ k : Nat) : Int)), (1, .int .u32 ((Y / 2 ^ k : Nat) : Int)), (2, _), (6, _), (7, .int .u32 ((bwN (onesF l) X Y k : Nat) : Int)), (8, .int .u32 ((2 ^ k % 4294967296 : Nat) : Int)), (9, .int .i64 (k : Int))]) (fun _ => _) (fun k tw => Le D s tw ∧ (k ≤ 32)) (fun k => 32 - k) (fun _ _ _ h hl => ⟨h.1.trans hl, h.2⟩) 0 (Keeps.cons (by simp; rfl) (Keeps.cons (by simp; rfl) (Keeps.cons rfl (Keeps.cons rfl (Keeps.cons (by simp [bwN]; rfl) (Keeps.cons (by simp; rfl) (Keeps.cons rfl (Keeps.nil _)))))))) rfl ⟨Le.refl _, Nat.zero_le _⟩ ?_
 intro k s1 I1
 have hk0 := I1.2
 refine JC_seq ?_
 refine JC_seq ?_
 refine JC_region ?_
 refine JO_q (QE_mv rfl) rfl ?_
 refine JO_q (QE_lt rfl rfl) rfl ?_
 refine JO_nil ?_
 refine thenQ_n ?_
 refine JC_ifD rfl (fun c2 => ?_) (fun c2 => ?_)
 ·
  refine JC_skip ?_
  refine thenQ_n ?_
  refine JC_seq ?_
  refine JC_block ?_
  refine JC_seq ?_
  refine JC_region ?_
  refine JO_q (QE_mv rfl) rfl ?_
  refine JO_q (QE_rem rfl rfl (by omega)) rfl ?_
  refine JO_q (QE_mv rfl) rfl ?_
  refine JO_q (QE_rem rfl rfl (by omega)) rfl ?_
  refine JO_q (QE_add rfl rfl) rfl ?_
  refine JO_q (QE_conv rfl rfl rfl rfl rfl) rfl ?_
  refine JO_q (QE_cast (QE_add rfl rfl) (digit_step (X / 2 ^ k) (Y / 2 ^ k))) rfl ?_
  refine JO_q (QE_as rfl) rfl ?_
  refine JO_nil ?_
  refine thenQ_n ?_
  refine JC_seq ?_
  refine JC_seq ?_
  refine JC_region ?_
  refine JO_q (QE_mv rfl) rfl ?_
  refine JO_q (QE_mv rfl) rfl ?_
  refine JO_call (first := []) (captured := []) rfl rfl rfl (has_ac D _ _ _ _ hl) ?_
  rintro _ _ s3 h3 ⟨rfl, rfl⟩
  refine JO_nil ?_
  refine thenQ_n ?_
  refine JC_if rfl (fun c4 => ?_) (fun c4 => ?_)
  ·
   have hb := c4
   refine JC_region ?_
   refine JO_q (QE_mv rfl) rfl ?_
   refine JO_q (QE_mv rfl) rfl ?_
   refine JO_q (QE_cast (QE_add rfl rfl) (bw_hit (by omega) hb)) rfl ?_
   refine JO_q (QE_as rfl) rfl ?_
   refine JO_nil ?_
   refine thenQ_n ?_
   refine JC_seq ?_
   refine JC_region ?_
   refine JO_q (QE_mv rfl) rfl ?_
   refine JO_q (QE_cast (QE_mul rfl rfl) (unit_step k)) rfl ?_
   refine JO_q (QE_as rfl) rfl ?_
   refine JO_nil ?_
   refine thenQ_n ?_
   refine JC_seq ?_
   refine JC_region ?_
   refine JO_q (QE_mv rfl) rfl ?_
   refine JO_q (QE_cast (QE_quo rfl rfl (by decide)) (half_step hX k)) rfl ?_
   refine JO_q (QE_as rfl) rfl ?_
   refine JO_nil ?_
   refine thenQ_n ?_
   refine JC_region ?_
   refine JO_q (QE_mv rfl) rfl ?_
   refine JO_q (QE_cast (QE_quo rfl rfl (by decide)) (half_step hY k)) rfl ?_
   refine JO_q (QE_as rfl) rfl ?_
   refine JO_nil ?_
   refine blockQ_n ?_
   refine thenQ_n ?_
   refine JC_region ?_
   refine JO_q (QE_mv rfl) rfl ?_
   refine JO_q (QE_add' rfl rfl (w64 (by omega) (by omega))) rfl ?_
   refine JO_q (QE_as rfl) rfl ?_
   refine JO_nil ?_
   refine thenQ_n ⟨(k + 1), [], (Keeps.cons rfl (Keeps.cons rfl (Keeps.cons rfl (Keeps.cons rfl (Keeps.cons (by first | rfl | exact congrArg some (bw_miss hb)) (Keeps.cons rfl (Keeps.cons rfl (Keeps.nil _)))))))), rfl, ⟨(Le.trans I1.1 h3), (by omega)⟩, (by omega)⟩
  ·
   have hb := c4
   refine JC_skip ?_
   refine thenQ_n ?_
   refine JC_seq ?_
   refine JC_region ?_
   refine JO_q (QE_mv rfl) rfl ?_
   refine JO_q (QE_cast (QE_mul rfl rfl) (unit_step k)) rfl ?_
   refine JO_q (QE_as rfl) rfl ?_
   refine JO_nil ?_
   refine thenQ_n ?_
   refine JC_seq ?_
   refine JC_region ?_
   refine JO_q (QE_mv rfl) rfl ?_
   refine JO_q (QE_cast (QE_quo rfl rfl (by decide)) (half_step hX k)) rfl ?_
   refine JO_q (QE_as rfl) rfl ?_
   refine JO_nil ?_
   refine thenQ_n ?_
   refine JC_region ?_
   refine JO_q (QE_mv rfl) rfl ?_
   refine JO_q (QE_cast (QE_quo rfl rfl (by decide)) (half_step hY k)) rfl ?_
   refine JO_q (QE_as rfl) rfl ?_
   refine JO_nil ?_
   refine blockQ_n ?_
   refine thenQ_n ?_
   refine JC_region ?_
   refine JO_q (QE_mv rfl) rfl ?_
   refine JO_q (QE_add' rfl rfl (w64 (by omega) (by omega))) rfl ?_
   refine JO_q (QE_as rfl) rfl ?_
   refine JO_nil ?_
   refine thenQ_n ⟨(k + 1), [], (Keeps.cons rfl (Keeps.cons rfl (Keeps.cons rfl (Keeps.cons rfl (Keeps.cons (by first | rfl | exact congrArg some (bw_miss hb)) (Keeps.cons rfl (Keeps.cons rfl (Keeps.nil _)))))))), rfl, ⟨(Le.trans I1.1 h3), (by omega)⟩, (by omega)⟩
 ·
  refine JC_exit ?_
  refine thenQ_x ?_
  refine thenQ_x ?_
  refine blockQ_x ?_
  refine thenQ_n ?_
  refine JC_seq ?_
  refine JC_region ?_
  refine JO_q (QE_mv rfl) rfl ?_
  refine JO_q (QE_as rfl) rfl ?_
  refine JO_nil ?_
  refine thenQ_n ?_
  refine JC_ret ?_
  refine retQ_mk [] L (.inr rfl) (.tmp rfl (.nil)) rfl I1.1 (fun sR hS2 => ?_)
  have he : k = 32 := by omega
  subst he
  exact ⟨by simp [resV], rfl⟩

set_option maxHeartbeats 1000000 in
set_option maxRecDepth 100000 in
theorem computed_ac (D : Nat) (L : Hl) (s : World) (k : Int) (x y : Int) (hx : U32 x) (hy : U32 y) (hz : k = 4 ∨ k = 5 → y ≠ 0) : AC Try.prog D 72 [.int .i64 k, .int .u32 x, .int .u32 y] L s fun v L' _ => v = .int .u32 (comp k x y) ∧ L = L' := by
 have hX : x.toNat < 4294967296 := by have := hx.2; omega
 have hY : y.toNat < 4294967296 := by have := hy.2; omega
 have e2 := bw_and (Y := y.toNat) hX
 have e1 := bw_xor hX hY
 have e3 := bw_or hX hY
 have e4 := shN_left hX y.toNat
 have e5 := shN_right x.toNat y.toNat
 refine AC_enter (TT := TT) (fn := Try.f72) TT_ok Try.func72 (by kernel_rfl) rfl Try.ntmps72 rfl (rs := [.tmp 6]) rfl [(0, _), (1, _), (2, _)] rfl ?_
 refine JC_seq ?_
 refine JC_region ?_
 refine JO_q (QE_as rfl) rfl ?_
 refine JO_nil ?_
 refine thenQ_n ?_
 refine JC_seq ?_
 refine JC_seq ?_
 refine JC_region ?_
 refine JO_q (QE_mv rfl) rfl ?_
 refine JO_q (QE_eq rfl rfl) rfl ?_
 refine JO_nil ?_
 refine thenQ_n ?_
 refine JC_ifD rfl (fun c1 => ?_) (fun c1 => ?_)
 ·
  refine JC_seq ?_
  refine JC_region ?_
  refine JO_q (QE_mv rfl) rfl ?_
  refine JO_q (QE_mv rfl) rfl ?_
  refine JO_q (QE_add rfl rfl) rfl ?_
  refine JO_q (QE_as rfl) rfl ?_
  refine JO_nil ?_
  refine thenQ_n ?_
  refine JC_ret ?_
  refine thenQ_r ?_
  refine retQ_mk [] L (.inr rfl) (.tmp rfl (.nil)) rfl (Le.refl (D := D) _) (fun sR hS2 => ?_)
  refine ⟨?_, rfl⟩
  simp [resV, comp, wrapW, *]; done
 ·
  refine JC_skip ?_
  refine thenQ_n ?_
  refine JC_seq ?_
  refine JC_seq ?_
  refine JC_region ?_
  refine JO_q (QE_mv rfl) rfl ?_
  refine JO_q (QE_eq rfl rfl) rfl ?_
  refine JO_nil ?_
  refine thenQ_n ?_
  refine JC_ifD rfl (fun c2 => ?_) (fun c2 => ?_)
  ·
   refine JC_seq ?_
   refine JC_region ?_
   refine JO_q (QE_mv rfl) rfl ?_
   refine JO_q (QE_mv rfl) rfl ?_
   refine JO_q (QE_sub rfl rfl) rfl ?_
   refine JO_q (QE_as rfl) rfl ?_
   refine JO_nil ?_
   refine thenQ_n ?_
   refine JC_ret ?_
   refine thenQ_r ?_
   refine retQ_mk [] L (.inr rfl) (.tmp rfl (.nil)) rfl (Le.refl (D := D) _) (fun sR hS2 => ?_)
   refine ⟨?_, rfl⟩
   simp [resV, comp, wrapW, *]; done
  ·
   refine JC_skip ?_
   refine thenQ_n ?_
   refine JC_seq ?_
   refine JC_seq ?_
   refine JC_region ?_
   refine JO_q (QE_mv rfl) rfl ?_
   refine JO_q (QE_eq rfl rfl) rfl ?_
   refine JO_nil ?_
   refine thenQ_n ?_
   refine JC_ifD rfl (fun c3 => ?_) (fun c3 => ?_)
   ·
    refine JC_seq ?_
    refine JC_region ?_
    refine JO_q (QE_mv rfl) rfl ?_
    refine JO_q (QE_mv rfl) rfl ?_
    refine JO_q (QE_mul rfl rfl) rfl ?_
    refine JO_q (QE_as rfl) rfl ?_
    refine JO_nil ?_
    refine thenQ_n ?_
    refine JC_ret ?_
    refine thenQ_r ?_
    refine retQ_mk [] L (.inr rfl) (.tmp rfl (.nil)) rfl (Le.refl (D := D) _) (fun sR hS2 => ?_)
    refine ⟨?_, rfl⟩
    simp [resV, comp, wrapW, *]; done
   ·
    refine JC_skip ?_
    refine thenQ_n ?_
    refine JC_seq ?_
    refine JC_seq ?_
    refine JC_region ?_
    refine JO_q (QE_mv rfl) rfl ?_
    refine JO_q (QE_eq rfl rfl) rfl ?_
    refine JO_nil ?_
    refine thenQ_n ?_
    refine JC_ifD rfl (fun c4 => ?_) (fun c4 => ?_)
    ·
     refine JC_seq ?_
     refine JC_region ?_
     refine JO_q (QE_mv rfl) rfl ?_
     refine JO_q (QE_mv rfl) rfl ?_
     refine JO_q (QE_quo rfl rfl (hz (.inl (by assumption)))) rfl ?_
     refine JO_q (QE_as rfl) rfl ?_
     refine JO_nil ?_
     refine thenQ_n ?_
     refine JC_ret ?_
     refine thenQ_r ?_
     refine retQ_mk [] L (.inr rfl) (.tmp rfl (.nil)) rfl (Le.refl (D := D) _) (fun sR hS2 => ?_)
     refine ⟨?_, rfl⟩
     have h4 : k = 4 := by assumption
     simp [resV, comp, wrapW, divW hx hy, h4]; done
    ·
     refine JC_skip ?_
     refine thenQ_n ?_
     refine JC_seq ?_
     refine JC_seq ?_
     refine JC_region ?_
     refine JO_q (QE_mv rfl) rfl ?_
     refine JO_q (QE_eq rfl rfl) rfl ?_
     refine JO_nil ?_
     refine thenQ_n ?_
     refine JC_ifD rfl (fun c5 => ?_) (fun c5 => ?_)
     ·
      refine JC_seq ?_
      refine JC_region ?_
      refine JO_q (QE_mv rfl) rfl ?_
      refine JO_q (QE_mv rfl) rfl ?_
      refine JO_q (QE_mv rfl) rfl ?_
      refine JO_q (QE_quo rfl rfl (hz (.inr (by assumption)))) rfl ?_
      refine JO_q (QE_mv rfl) rfl ?_
      refine JO_q (QE_mul rfl rfl) rfl ?_
      refine JO_q (QE_sub rfl rfl) rfl ?_
      refine JO_q (QE_as rfl) rfl ?_
      refine JO_nil ?_
      refine thenQ_n ?_
      refine JC_ret ?_
      refine thenQ_r ?_
      refine retQ_mk [] L (.inr rfl) (.tmp rfl (.nil)) rfl (Le.refl (D := D) _) (fun sR hS2 => ?_)
      refine ⟨?_, rfl⟩
      have h5 : k = 5 := by assumption
      simp [resV, comp, wrapW, modR hx hy (hz (.inr h5)), h5]; done
     ·
      refine JC_skip ?_
      refine thenQ_n ?_
      refine JC_seq ?_
      refine JC_seq ?_
      refine JC_region ?_
      refine JO_q (QE_mv rfl) rfl ?_
      refine JO_q (QE_eq rfl rfl) rfl ?_
      refine JO_nil ?_
      refine thenQ_n ?_
      refine JC_ifD rfl (fun c6 => ?_) (fun c6 => ?_)
      ·
       refine JC_seq ?_
       refine JC_region ?_
       refine JO_q (QE_mv rfl) rfl ?_
       refine JO_q (QE_mv rfl) rfl ?_
       refine JO_call (first := []) (captured := []) rfl rfl rfl (bitwise_ac D _ _ _ _ hx hy [50] (by decide)) ?_
       rintro _ _ s7 h7 ⟨rfl, rfl⟩
       refine JO_q (QE_as rfl) rfl ?_
       refine JO_nil ?_
       refine thenQ_n ?_
       refine JC_ret ?_
       refine thenQ_r ?_
       refine retQ_mk [] L (.inr rfl) (.tmp rfl (.nil)) rfl h7 (fun sR hS2 => ?_)
       refine ⟨?_, rfl⟩
       have h6 : k = 6 := by assumption
       simp [resV, comp, ones_2, e2, h6]; done
      ·
       refine JC_skip ?_
       refine thenQ_n ?_
       refine JC_seq ?_
       refine JC_seq ?_
       refine JC_region ?_
       refine JO_q (QE_mv rfl) rfl ?_
       refine JO_q (QE_eq rfl rfl) rfl ?_
       refine JO_nil ?_
       refine thenQ_n ?_
       refine JC_ifD rfl (fun c8 => ?_) (fun c8 => ?_)
       ·
        refine JC_seq ?_
        refine JC_region ?_
        refine JO_q (QE_mv rfl) rfl ?_
        refine JO_q (QE_mv rfl) rfl ?_
        refine JO_call (first := []) (captured := []) rfl rfl rfl (bitwise_ac D _ _ _ _ hx hy [49, 50] (by decide)) ?_
        rintro _ _ s9 h9 ⟨rfl, rfl⟩
        refine JO_q (QE_as rfl) rfl ?_
        refine JO_nil ?_
        refine thenQ_n ?_
        refine JC_ret ?_
        refine thenQ_r ?_
        refine retQ_mk [] L (.inr rfl) (.tmp rfl (.nil)) rfl h9 (fun sR hS2 => ?_)
        refine ⟨?_, rfl⟩
        have h7 : k = 7 := by assumption
        simp only [resV, comp, ones_12, e3, h7]; simp; done
       ·
        refine JC_skip ?_
        refine thenQ_n ?_
        refine JC_seq ?_
        refine JC_seq ?_
        refine JC_region ?_
        refine JO_q (QE_mv rfl) rfl ?_
        refine JO_q (QE_eq rfl rfl) rfl ?_
        refine JO_nil ?_
        refine thenQ_n ?_
        refine JC_ifD rfl (fun c10 => ?_) (fun c10 => ?_)
        ·
         refine JC_seq ?_
         refine JC_region ?_
         refine JO_q (QE_mv rfl) rfl ?_
         refine JO_q (QE_mv rfl) rfl ?_
         refine JO_call (first := []) (captured := []) rfl rfl rfl (bitwise_ac D _ _ _ _ hx hy [49] (by decide)) ?_
         rintro _ _ s11 h11 ⟨rfl, rfl⟩
         refine JO_q (QE_as rfl) rfl ?_
         refine JO_nil ?_
         refine thenQ_n ?_
         refine JC_ret ?_
         refine thenQ_r ?_
         refine retQ_mk [] L (.inr rfl) (.tmp rfl (.nil)) rfl h11 (fun sR hS2 => ?_)
         refine ⟨?_, rfl⟩
         have h8 : k = 8 := by assumption
         simp [resV, comp, ones_1, e1, h8]; done
        ·
         refine JC_skip ?_
         refine thenQ_n ?_
         refine JC_seq ?_
         refine JC_seq ?_
         refine JC_region ?_
         refine JO_q (QE_mv rfl) rfl ?_
         refine JO_q (QE_eq rfl rfl) rfl ?_
         refine JO_q (QE_mv rfl) rfl ?_
         refine JO_caseD (t := 53) rfl (fun c12 => ?_) (fun c12 => ?_)
         ·
          refine JO_gF rfl rfl rfl rfl ?_
          refine JO_gF rfl rfl rfl rfl ?_
          refine JO_q (QE_pickT rfl rfl) rfl ?_
          refine JO_nil ?_
          refine thenQ_n ?_
          refine JC_ifT rfl ?_
          refine JC_seq ?_
          refine JC_region ?_
          refine JO_q (QE_mv rfl) rfl ?_
          refine JO_q (QE_mv rfl) rfl ?_
          refine JO_q (QE_mv rfl) rfl ?_
          refine JO_q (QE_eq rfl rfl) rfl ?_
          refine JO_call (first := []) (captured := []) rfl rfl rfl (shifted_ac D _ _ _ _ hx hy _) ?_
          rintro _ _ s13 h13 ⟨rfl, rfl⟩
          refine JO_q (QE_as rfl) rfl ?_
          refine JO_nil ?_
          refine thenQ_n ?_
          refine JC_ret ?_
          refine thenQ_r ?_
          refine retQ_mk [] L (.inr rfl) (.tmp rfl (.nil)) rfl h13 (fun sR hS2 => ?_)
          refine ⟨?_, rfl⟩
          have h9 : k = 9 := by assumption
          simp [resV, comp, e4, h9]; done
         ·
          refine JO_gT rfl rfl ?_
          refine JO_q (QE_mv rfl) rfl ?_
          refine JO_gT rfl rfl ?_
          refine JO_q (QE_eq rfl rfl) rfl ?_
          refine JO_q (QE_pickF rfl rfl) rfl ?_
          refine JO_nil ?_
          refine thenQ_n ?_
          refine JC_ifD rfl (fun c14 => ?_) (fun c14 => ?_)
          ·
           refine JC_seq ?_
           refine JC_region ?_
           refine JO_q (QE_mv rfl) rfl ?_
           refine JO_q (QE_mv rfl) rfl ?_
           refine JO_q (QE_mv rfl) rfl ?_
           refine JO_q (QE_eq rfl rfl) rfl ?_
           refine JO_call (first := []) (captured := []) rfl rfl rfl (shifted_ac D _ _ _ _ hx hy _) ?_
           rintro _ _ s15 h15 ⟨rfl, rfl⟩
           refine JO_q (QE_as rfl) rfl ?_
           refine JO_nil ?_
           refine thenQ_n ?_
           refine JC_ret ?_
           refine thenQ_r ?_
           refine retQ_mk [] L (.inr rfl) (.tmp rfl (.nil)) rfl h15 (fun sR hS2 => ?_)
           refine ⟨?_, rfl⟩
           have h10 : k = 10 := by assumption
           simp [resV, comp, e5, h10]; done
          ·
           refine JC_skip ?_
           refine thenQ_n ?_
           refine JC_seq ?_
           refine JC_seq ?_
           refine JC_region ?_
           refine JO_q (QE_mv rfl) rfl ?_
           refine JO_q (QE_eq rfl rfl) rfl ?_
           refine JO_nil ?_
           refine thenQ_n ?_
           refine JC_ifD rfl (fun c16 => ?_) (fun c16 => ?_)
           ·
            refine JC_seq ?_
            refine JC_region ?_
            refine JO_q (QE_mv rfl) rfl ?_
            refine JO_q (QE_mv rfl) rfl ?_
            refine JO_q (QE_eq rfl rfl) rfl ?_
            refine JO_call (first := []) (captured := []) rfl rfl rfl (truth_ac D _ _ _) ?_
            rintro _ _ s17 h17 ⟨rfl, rfl⟩
            refine JO_q (QE_as rfl) rfl ?_
            refine JO_nil ?_
            refine thenQ_n ?_
            refine JC_ret ?_
            refine thenQ_r ?_
            refine retQ_mk [] L (.inr rfl) (.tmp rfl (.nil)) rfl h17 (fun sR hS2 => ?_)
            refine ⟨?_, rfl⟩
            simp [resV, comp, wrapW, *]; done
           ·
            refine JC_skip ?_
            refine thenQ_n ?_
            refine JC_seq ?_
            refine JC_seq ?_
            refine JC_region ?_
            refine JO_q (QE_mv rfl) rfl ?_
            refine JO_q (QE_eq rfl rfl) rfl ?_
            refine JO_nil ?_
            refine thenQ_n ?_
            refine JC_ifD rfl (fun c18 => ?_) (fun c18 => ?_)
            ·
             refine JC_seq ?_
             refine JC_region ?_
             refine JO_q (QE_mv rfl) rfl ?_
             refine JO_q (QE_mv rfl) rfl ?_
             refine JO_q (QE_lt rfl rfl) rfl ?_
             refine JO_call (first := []) (captured := []) rfl rfl rfl (truth_ac D _ _ _) ?_
             rintro _ _ s19 h19 ⟨rfl, rfl⟩
             refine JO_q (QE_as rfl) rfl ?_
             refine JO_nil ?_
             refine thenQ_n ?_
             refine JC_ret ?_
             refine thenQ_r ?_
             refine retQ_mk [] L (.inr rfl) (.tmp rfl (.nil)) rfl h19 (fun sR hS2 => ?_)
             refine ⟨?_, rfl⟩
             simp [resV, comp, wrapW, *]; done
            ·
             refine JC_skip ?_
             refine thenQ_n ?_
             refine JC_seq ?_
             refine JC_region ?_
             refine JO_q (QE_mv rfl) rfl ?_
             refine JO_q (QE_as rfl) rfl ?_
             refine JO_nil ?_
             refine thenQ_n ?_
             refine JC_ret ?_
             refine retQ_mk [] L (.inr rfl) (.tmp rfl (.nil)) rfl (Le.refl (D := D) _) (fun sR hS2 => ?_)
             refine ⟨?_, rfl⟩
             simp [resV, comp, wrapW, *]; done
end Go.Proofs.Ytpjnphonanbopaa
