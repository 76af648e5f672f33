/- The default table of the program. -/
import Derived.Test.YtpjnphonanbopaaV19
namespace Go.Proofs.Ytpjnphonanbopaa
open Go.FL
attribute [local irreducible] JC JO JA JB thenQ blockQ retQ AC fill CellsAt QE Ev Mid

set_option maxHeartbeats 1000000 in
set_option maxRecDepth 100000 in
theorem reg_ac (D : Nat) (L : Hl) (s : World) (r : Int) : AC Try.prog D 49 [.int .u32 r] L s fun v L' _ => v = .agg #[.int .i64 1, .int .u32 r] ∧ L = L' := by
 refine AC_enter (TT := TT) (fn := Try.f49) TT_ok Try.func49 (by kernel_rfl) rfl Try.ntmps49 rfl (rs := [.cell 2 84]) rfl [(0, _)] rfl ?_
 refine JC_seq ?_
 refine JC_region ?_
 refine JO_allocZ rfl [_, _] rfl rfl ?_
 intro β1 s1 h1
 refine JO_nil ?_
 refine thenQ_n ?_
 refine JC_seq ?_
 refine JC_region ?_
 refine JO_q (QE_mv rfl) rfl ?_
 refine JO_q (QE_build [(_, _), (_, _)] [_, _] rfl rfl rfl rfl rfl rfl) rfl ?_
 refine JO_st 0 [_, _] rfl rfl rfl rfl rfl rfl rfl rfl rfl ?_
 refine JO_nil ?_
 refine thenQ_n ?_
 refine JC_ret ?_
 refine retQ_mk [_] L (.inr rfl) (.agg (us := [_, _]) 0 rfl rfl rfl rfl rfl (.nil)) rfl h1 (fun sR hS2 => ?_)
 exact ⟨rfl, rfl⟩

set_option maxHeartbeats 1000000 in
set_option maxRecDepth 100000 in
theorem num_ac (D : Nat) (L : Hl) (s : World) (r : Int) : AC Try.prog D 52 [.int .u32 r] L s fun v L' _ => v = .agg #[.int .i64 0, .int .u32 r] ∧ L = L' := by
 refine AC_enter (TT := TT) (fn := Try.f52) TT_ok Try.func52 (by kernel_rfl) rfl Try.ntmps52 rfl (rs := [.cell 2 84]) rfl [(0, _)] rfl ?_
 refine JC_seq ?_
 refine JC_region ?_
 refine JO_allocZ rfl [_, _] rfl rfl ?_
 intro β1 s1 h1
 refine JO_nil ?_
 refine thenQ_n ?_
 refine JC_seq ?_
 refine JC_region ?_
 refine JO_q (QE_mv rfl) rfl ?_
 refine JO_q (QE_build [(_, _), (_, _)] [_, _] rfl rfl rfl rfl rfl rfl) rfl ?_
 refine JO_st 0 [_, _] rfl rfl rfl rfl rfl rfl rfl rfl rfl ?_
 refine JO_nil ?_
 refine thenQ_n ?_
 refine JC_ret ?_
 refine retQ_mk [_] L (.inr rfl) (.agg (us := [_, _]) 0 rfl rfl rfl rfl rfl (.nil)) rfl h1 (fun sR hS2 => ?_)
 exact ⟨rfl, rfl⟩

theorem tm_at0 {l : List Tm} {x : Tm} (h : l[0]? = some x) : l.getD 0 ⟨0, 0⟩ = x := by simp [List.getD, h]
theorem tm_at1 {l : List Tm} {x : Tm} (h : l[1]? = some x) : l.getD 1 ⟨0, 0⟩ = x := by simp [List.getD, h]
theorem do_inv0 {l : List Tm} {n j : Nat} {y e : Tm} (hj : j < n) (hz : (j : Int) = 0) (he : l[j]? = some e) (hy : y = if 1 < j then l.getD 1 ⟨0, 0⟩ else ⟨0, 0⟩) : j + 1 ≤ n ∧ e = (if 0 < j + 1 then l.getD 0 ⟨0, 0⟩ else ⟨0, 0⟩) ∧ y = (if 1 < j + 1 then l.getD 1 ⟨0, 0⟩ else ⟨0, 0⟩) := by
  have h0 : j = 0 := by omega
  subst h0
  exact ⟨hj, by rw [if_pos (by omega), tm_at0 he], by rw [hy]; rfl⟩
theorem do_inv1 {l : List Tm} {n j : Nat} {x e : Tm} (hj : j < n) (hz : ¬ (j : Int) = 0) (hn : n ≤ 2) (he : l[j]? = some e) (hx : x = if 0 < j then l.getD 0 ⟨0, 0⟩ else ⟨0, 0⟩) : j + 1 ≤ n ∧ x = (if 0 < j + 1 then l.getD 0 ⟨0, 0⟩ else ⟨0, 0⟩) ∧ e = (if 1 < j + 1 then l.getD 1 ⟨0, 0⟩ else ⟨0, 0⟩) := by
  have h0 : j = 1 := by omega
  subst h0
  exact ⟨hj, by rw [hx]; rfl, by rw [if_pos (by omega), tm_at1 he]⟩
theorem tm_no {l : List Tm} {i : Nat} (h : l.length ≤ i) : l.getD i ⟨0, 0⟩ = ⟨0, 0⟩ := by simp [List.getD, List.getElem?_eq_none h]

set_option maxHeartbeats 2000000 in
set_option maxRecDepth 100000 in
theorem do_ac (D : Nat) (L : Hl) (s : World) (kd to : Int) (A : Option Addr) (n c : Nat) (l : List Tm) (hA : Tms s A n c l) (hl : l.length ≤ 2) : AC Try.prog D 51 [.int .i64 kd, .int .i64 to, .slice A n c] L s fun v L' _ => v = .agg #[.int .i64 kd, .int .i64 to, .int .i64 (l.getD 0 ⟨0, 0⟩).kind, .int .u32 (l.getD 0 ⟨0, 0⟩).val, .int .i64 (l.getD 1 ⟨0, 0⟩).kind, .int .u32 (l.getD 1 ⟨0, 0⟩).val] ∧ L = L' := by
 have hn := hA.1
 refine AC_enter (TT := TT) (fn := Try.f51) TT_ok Try.func51 (by kernel_rfl) rfl Try.ntmps51 rfl (rs := [.cell 6 86]) rfl [(0, _), (1, _), (2, _)] rfl ?_
 refine JC_seq ?_
 refine JC_region ?_
 refine JO_allocZ rfl [_, _, _, _, _, _] rfl rfl ?_
 intro β1 s1 h1
 refine JO_nil ?_
 refine thenQ_n ?_
 refine JC_seq ?_
 refine JC_region ?_
 refine JO_q (QE_mv rfl) rfl ?_
 refine JO_q (QE_mv rfl) rfl ?_
 refine JO_q (QE_build [(_, _), (_, _)] [_, _, _, _, _, _] rfl rfl rfl rfl rfl rfl) rfl ?_
 refine JO_allocZ rfl [_, _, _, _, _, _] rfl rfl ?_
 intro β2 s2 h2
 refine JO_st 0 [_, _, _, _, _, _] rfl rfl rfl rfl rfl rfl rfl rfl rfl ?_
 refine JO_nil ?_
 refine thenQ_n ?_
 refine JC_seq ?_
 refine JC_seq ?_
 refine JC_region ?_
 refine JO_q (QE_mv rfl) rfl ?_
 refine JO_q (QE_lenS rfl rfl rfl) rfl ?_
 refine JO_q (QE_mv rfl) rfl ?_
 refine JO_nil ?_
 refine thenQ_n ?_
 refine JC_block ?_
 refine JC_loop (γ := Nat × Tm × Tm) (fun g => [(6, _), (7, _), (13, _), (14, _), (15, .int .i64 (g.1 : Int))]) (fun g => (β2, cb [.int .i64 kd, .int .i64 to, .int .i64 g.2.1.kind, .int .u32 g.2.1.val, .int .i64 g.2.2.kind, .int .u32 g.2.2.val] 86) :: (β1, cb [.int .i64 0, .int .i64 0, .int .i64 0, .int .u32 0, .int .i64 0, .int .u32 0] 86) :: L) (fun g tw => Le D s2 tw ∧ (g.1 ≤ n ∧ g.2.1 = (if 0 < g.1 then l.getD 0 ⟨0, 0⟩ else ⟨0, 0⟩) ∧ g.2.2 = (if 1 < g.1 then l.getD 1 ⟨0, 0⟩ else ⟨0, 0⟩))) (fun g => n - g.1) (fun _ _ _ h hl => ⟨h.1.trans hl, h.2⟩) (0, ⟨0, 0⟩, ⟨0, 0⟩) (Keeps.cons rfl (Keeps.cons rfl (Keeps.cons rfl (Keeps.cons rfl (Keeps.cons rfl (Keeps.nil _)))))) rfl ⟨Le.refl _, ⟨Nat.zero_le _, rfl, rfl⟩⟩ ?_
 intro g s3 I3
 obtain ⟨j, x, y⟩ := g
 obtain ⟨hj0, hx, hy⟩ := I3.2
 simp only at hj0 hx hy
 dsimp only
 refine JC_seq ?_
 refine JC_region ?_
 refine JO_q (QE_lt rfl rfl) rfl ?_
 refine JO_nil ?_
 refine thenQ_n ?_
 refine JC_seq ?_
 refine JC_ifD rfl (fun c4 => ?_) (fun c4 => ?_)
 ·
  have hk : j < n := by omega
  obtain ⟨b, off, e, rfl, he, hce, hue⟩ := Tms.at_ (hA.le (Le.trans (Le.trans h1 h2) I3.1)) hk
  refine JC_skip ?_
  refine thenQ_n ?_
  refine JC_seq ?_
  refine JC_block ?_
  refine JC_seq ?_
  refine JC_region ?_
  refine JO_q (QE_mv rfl) rfl ?_
  refine JO_q (QE_iaN rfl rfl rfl rfl rfl rfl hk) rfl ?_
  refine JO_q (QE_ldsA rfl rfl rfl (hce.le (Le.refl (D := D) _)) rfl) rfl ?_
  refine JO_allocZ rfl [_, _] rfl rfl ?_
  intro β5 s5 h5
  refine JO_q (QE_as rfl) rfl ?_
  refine JO_st 0 [_, _] rfl rfl rfl rfl rfl rfl rfl rfl rfl ?_
  refine JO_nil ?_
  refine thenQ_n ?_
  refine JC_seq ?_
  refine JC_region ?_
  refine JO_q (QE_mv rfl) rfl ?_
  refine JO_q (QE_eq rfl rfl) rfl ?_
  refine JO_nil ?_
  refine thenQ_n ?_
  refine JC_ifD rfl (fun c6 => ?_) (fun c6 => ?_)
  ·
   have hz0 := c6
   refine JC_region ?_
   refine JO_q (QE_ldA 0 [_, _] rfl rfl rfl rfl rfl) rfl ?_
   refine JO_q (QE_faB rfl rfl rfl rfl) rfl ?_
   refine JO_st 1 [_, _, _, _, _, _] rfl rfl rfl rfl rfl rfl rfl rfl rfl ?_
   refine JO_nil ?_
   refine blockQ_n ?_
   refine thenQ_n ?_
   refine JC_region ?_
   refine JO_q (QE_add' rfl rfl (w64 (by omega) (by omega))) rfl ?_
   refine JO_q (QE_mv rfl) rfl ?_
   refine JO_nil ?_
   refine thenQ_n ⟨(j + 1, e, y), [_], (Keeps.cons rfl (Keeps.cons rfl (Keeps.cons rfl (Keeps.cons rfl (Keeps.cons rfl (Keeps.nil _)))))), rfl, ⟨(Le.trans I3.1 h5), by first | exact do_inv0 hk hz0 he hy | exact do_inv1 hk hz0 (by omega) he hx⟩, (by simp only; omega)⟩
  ·
   have hz0 := c6
   refine JC_region ?_
   refine JO_q (QE_ldA 0 [_, _] rfl rfl rfl rfl rfl) rfl ?_
   refine JO_q (QE_faB rfl rfl rfl rfl) rfl ?_
   refine JO_st 1 [_, _, _, _, _, _] rfl rfl rfl rfl rfl rfl rfl rfl rfl ?_
   refine JO_nil ?_
   refine blockQ_n ?_
   refine thenQ_n ?_
   refine JC_region ?_
   refine JO_q (QE_add' rfl rfl (w64 (by omega) (by omega))) rfl ?_
   refine JO_q (QE_mv rfl) rfl ?_
   refine JO_nil ?_
   refine thenQ_n ⟨(j + 1, x, e), [_], (Keeps.cons rfl (Keeps.cons rfl (Keeps.cons rfl (Keeps.cons rfl (Keeps.cons rfl (Keeps.nil _)))))), rfl, ⟨(Le.trans I3.1 h5), by first | exact do_inv0 hk hz0 he hy | exact do_inv1 hk hz0 (by omega) he hx⟩, (by simp only; omega)⟩
 ·
  refine JC_exit ?_
  refine thenQ_x ?_
  refine thenQ_x ?_
  refine blockQ_x ?_
  refine thenQ_n ?_
  refine JC_seq ?_
  refine JC_region ?_
  refine JO_q (QE_ldA 0 [_, _, _, _, _, _] rfl rfl rfl rfl rfl) rfl ?_
  refine JO_st 1 [_, _, _, _, _, _] rfl rfl rfl rfl rfl rfl rfl rfl rfl ?_
  refine JO_nil ?_
  refine thenQ_n ?_
  refine JC_ret ?_
  refine retQ_mk [_, _] L (.inr rfl) (.agg (us := [_, _, _, _, _, _]) 1 rfl rfl rfl rfl rfl (.nil)) rfl (Le.trans (Le.trans h1 h2) I3.1) (fun sR hS2 => ?_)
  refine ⟨?_, rfl⟩
  have hjn : j = n := by omega
  have e1 : x = l.getD 0 ⟨0, 0⟩ := by
    rw [hx]; split
    · rfl
    · rw [tm_no (by omega)]
  have e2 : y = l.getD 1 ⟨0, 0⟩ := by
    rw [hy]; split
    · rfl
    · rw [tm_no (by omega)]
  rw [← e1, ← e2]; rfl

set_option maxHeartbeats 2000000 in
set_option maxRecDepth 100000 in
theorem add_ac (D : Nat) (L : Hl) (s : World) (name : List UInt8) (op : Bool) (A : Option Addr) (n c : Nat) (β : Nat) (v : Value) (M : Hl) (i : Nat) (xs : List Value) (hO : Own 60 4 M v i xs) (hi : i ≤ 1000) : AC Try.prog D 50 [St name, .bool op, .slice A n c, .pointer (some ⟨β, 0, none⟩)] (((β, cb [.int .i64 65536, v] 24) :: M) ++ L) s fun w L' s' => ∃ M', L' = M' ++ L ∧ w = .tuple #[] ∧ ∃ v2 M2, M' = (β, cb [.int .i64 65536, v2] 24) :: M2 ∧ Own 60 4 M2 v2 (i + 1) (xs ++ [St name, .int .u32 ((i : Int) + 1), .bool op, .slice A n c]) := by
 obtain ⟨Av, cv, rfl, kv1, kv2⟩ := Own.slice hO
 simp only [List.cons_append]
 refine AC_enter (TT := TT) (fn := Try.f50) TT_ok Try.func50 (by kernel_rfl) rfl Try.ntmps50 rfl (rs := []) rfl [(0, _), (1, _), (2, _), (3, _)] rfl ?_
 refine JC_region ?_
 refine JO_q (QE_faB rfl rfl rfl rfl) rfl ?_
 refine JO_q (QE_ld1 0 rfl rfl rfl rfl rfl) rfl ?_
 refine JO_q (QE_mv rfl) rfl ?_
 refine JO_q (QE_faB rfl rfl rfl rfl) rfl ?_
 refine JO_q (QE_ld1 0 rfl rfl rfl rfl rfl) rfl ?_
 refine JO_q (QE_lenS rfl rfl rfl) rfl ?_
 refine JO_q (QE_add' rfl rfl (w64 (by omega) (by omega))) rfl ?_
 refine JO_q (QE_conv' rfl rfl rfl rfl rfl (w32_in (by omega) (by omega))) rfl ?_
 refine JO_q (QE_mv rfl) rfl ?_
 refine JO_q (QE_mv rfl) rfl ?_
 refine JO_q (QE_build [(_, _), (_, _), (_, _), (_, _)] [_, _, _, _] rfl rfl rfl rfl rfl rfl) rfl ?_
 refine JO_bs [(_, _)] [_, _, _, _] rfl rfl rfl rfl rfl rfl rfl rfl rfl ?_
 intro βn s1 h1 hcb
 refine JO_app (sz := 4) [_] M L rfl rfl rfl rfl rfl rfl rfl hO (Row.of_cells (hcb.le (Le.refl (D := D) _)) rfl rfl) ⟨by simp [ti60]; omega, by omega⟩ rfl ?_
 intro v2 M2 s2 h2 o2
 obtain ⟨Av2, cv2, rfl, _, _⟩ := Own.slice o2
 simp only [List.cons_append, List.nil_append]
 refine JO_q (QE_faB rfl rfl rfl rfl) rfl ?_
 refine JO_st 0 [_, _] rfl rfl rfl rfl rfl rfl rfl rfl rfl ?_
 refine JO_nil ?_
 refine retQ_mk [] _ (.inl rfl) (.nil) rfl (Le.trans h1 h2) (fun sR hS2 => ?_)
 exact ⟨_ :: M2, rfl, rfl, _, M2, rfl, o2⟩

set_option maxHeartbeats 2000000 in
set_option maxRecDepth 100000 in
theorem poppedO_ac (D : Nat) (L : Hl) (s : World) (A : Option Addr) (n c : Nat) (l : List Ac) (hA : Acs s A n c l) (β : Nat) (Ap : Option Addr) (np cp : Nat) (lp : List Ac) (hP : Acs s Ap np cp lp) (hn : n + np ≤ 1000) : AC Try.prog D 53 [.slice A n c, .pointer (some ⟨β, 0, none⟩)] ((β, cb [.slice Ap np cp] 58) :: L) s fun v L' s' => ∃ M', L' = M' ++ ((β, cb [.slice Ap np cp] 58) :: L) ∧ ∀ s2, Le D s' s2 → Pub M' s2 → ∃ A2 n2 c2, v = .slice A2 n2 c2 ∧ Acs s2 A2 n2 c2 (lp ++ l) := by
 refine AC_enter (TT := TT) (fn := Try.f53) TT_ok Try.func53 (by kernel_rfl) rfl Try.ntmps53 rfl (rs := [.tmp 3]) rfl [(0, _), (1, _)] rfl ?_
 refine JC_seq ?_
 refine JC_region ?_
 refine JO_q (QE_as rfl) rfl ?_
 refine JO_nil ?_
 refine thenQ_n ?_
 refine JC_seq ?_
 refine JC_region ?_
 refine JO_bs0 (sz := 6) rfl rfl rfl rfl ?_
 intro βo s1 h1 oo
 refine JO_q (QE_ld1 1 rfl rfl rfl rfl rfl) rfl ?_
 refine JO_app [] [_] _ rfl rfl rfl rfl rfl rfl rfl oo (hP.row.le h1) ⟨by simp [ti86]; omega, by omega⟩ rfl ?_
 intro v1 A1 s2 h2 o1
 simp only [List.nil_append]
 refine JO_q (QE_mv rfl) rfl ?_
 refine JO_app [] A1 _ rfl rfl rfl rfl rfl rfl rfl o1 (hA.row.le (Le.trans h1 h2)) ⟨by simp [ti86]; omega, by omega⟩ rfl ?_
 intro v2 A2x s3 h3 o2
 simp only [List.nil_append]
 refine JO_q (QE_as rfl) rfl ?_
 refine JO_nil ?_
 refine thenQ_n ?_
 refine JC_ret ?_
 refine retQ_mk [] _ (.inr rfl) (.tmp rfl (.nil)) rfl (Le.trans (Le.trans h1 h2) h3) (fun sR hS2 => ?_)
 simp only [List.nil_append, Nat.zero_add, ← acv_app] at o2
 obtain ⟨Av2, cv2, rfl, _, _⟩ := Own.slice o2
 exact ⟨A2x, rfl, fun s2 hs2 hp => ⟨_, _, _, rfl, Own.acs o2 (fun a ha => (List.mem_append.1 ha).elim (hP.u a) (hA.u a)) hp (by have := hA.1; have := hP.1; simp; omega)⟩⟩

theorem popped_ac (D : Nat) (L : Hl) (s : World) (A : Option Addr) (n c : Nat) (l : List Ac) (hA : Acs s A n c l) (β : Nat) (Ap : Option Addr) (np cp : Nat) (lp : List Ac) (hP : Acs s Ap np cp lp) (hn : n + np ≤ 1000) : AC Try.prog D 53 [.slice A n c, .pointer (some ⟨β, 0, none⟩)] ((β, cb [.slice Ap np cp] 58) :: L) s fun v L' s' => (β, cb [.slice Ap np cp] 58) :: L = L' ∧ ∃ A2 n2 c2, v = .slice A2 n2 c2 ∧ Acs s' A2 n2 c2 (lp ++ l) := AC.pubW (poppedO_ac D L s A n c l hA β Ap np cp lp hP hn)

theorem popped_mid (D : Nat) (L : Hl) (s : World) (A : Option Addr) (n c : Nat) (l : List Ac) (hA : Acs s A n c l) (β : Nat) (Ap : Option Addr) (np cp : Nat) (lp : List Ac) (hP : Acs s Ap np cp lp) (hn : n + np ≤ 1000) : AC Try.prog D 53 [.slice A n c, .pointer (some ⟨β, 0, none⟩)] ([(β, cb [.slice Ap np cp] 58)] ++ L) s fun v L' s' => ∃ M', L' = M' ++ L ∧ M' = [(β, cb [.slice Ap np cp] 58)] ∧ ∃ A2 n2 c2, v = .slice A2 n2 c2 ∧ Acs s' A2 n2 c2 (lp ++ l) :=
  (popped_ac D L s A n c l hA β Ap np cp lp hP hn).mono fun v L' s' _ h => ⟨_, h.1.symm, rfl, h.2⟩
theorem insA_le {D : Nat} {s s' : World} {l : List Ins} {m : List (List Value)} (h : All2 (fun x cs => cs.length = 4 ∧ InsR s x cs) l m) (hl : Le D s s') : All2 (fun x cs => cs.length = 4 ∧ InsR s' x cs) l m := h.mono fun a b h => ⟨h.1, h.2.le hl⟩
theorem uD {x : Int} (h : (decide (0 ≤ x) && decide (x < 4294967296)) = true) : U32 x := by simpa [U32] using h
def popL : List Ac := [⟨2, 2, ⟨1, 2⟩, ⟨0, 1⟩⟩, ⟨13, 1, ⟨1, 2⟩, ⟨0, 0⟩⟩]

def defT : Tab := ⟨65536, [
  ⟨[115, 116, 111, 112], 1, false, [⟨17, 0, ⟨1, 0⟩, ⟨0, 0⟩⟩]⟩,
  ⟨[110, 117, 109], 2, true, [⟨0, 0, ⟨2, 0⟩, ⟨0, 0⟩⟩]⟩,
  ⟨[108, 111, 97, 100], 3, true, [⟨13, 0, ⟨2, 0⟩, ⟨0, 0⟩⟩]⟩,
  ⟨[115, 116, 111, 114, 101], 4, true, [⟨14, 0, ⟨2, 0⟩, ⟨1, 0⟩⟩]⟩,
  ⟨[108, 111, 99, 97, 108], 5, true, [⟨2, 1, ⟨1, 2⟩, ⟨2, 0⟩⟩, ⟨13, 0, ⟨1, 1⟩, ⟨0, 0⟩⟩]⟩,
  ⟨[97, 115, 115, 105, 103, 110], 6, true, [⟨2, 1, ⟨1, 2⟩, ⟨2, 0⟩⟩, ⟨14, 0, ⟨1, 1⟩, ⟨1, 0⟩⟩]⟩,
  ⟨[102, 101, 116, 99, 104], 7, true, [⟨1, 1, ⟨1, 0⟩, ⟨2, 0⟩⟩, ⟨13, 0, ⟨1, 1⟩, ⟨0, 0⟩⟩]⟩,
  ⟨[112, 117, 116, 97, 116], 8, true, [⟨2, 2, ⟨1, 2⟩, ⟨0, 1⟩⟩, ⟨13, 1, ⟨1, 2⟩, ⟨0, 0⟩⟩, ⟨1, 1, ⟨1, 1⟩, ⟨2, 0⟩⟩, ⟨14, 0, ⟨1, 1⟩, ⟨1, 0⟩⟩]⟩,
  ⟨[112, 117, 115, 104], 9, false, [⟨14, 0, ⟨1, 2⟩, ⟨1, 0⟩⟩, ⟨1, 2, ⟨1, 2⟩, ⟨0, 1⟩⟩]⟩,
  ⟨[100, 114, 111, 112], 10, true, [⟨2, 2, ⟨1, 2⟩, ⟨2, 0⟩⟩]⟩,
  ⟨[97, 100, 100], 11, false, [⟨2, 2, ⟨1, 2⟩, ⟨0, 1⟩⟩, ⟨13, 1, ⟨1, 2⟩, ⟨0, 0⟩⟩, ⟨1, 0, ⟨1, 1⟩, ⟨1, 0⟩⟩]⟩,
  ⟨[115, 117, 98], 12, false, [⟨2, 2, ⟨1, 2⟩, ⟨0, 1⟩⟩, ⟨13, 1, ⟨1, 2⟩, ⟨0, 0⟩⟩, ⟨2, 0, ⟨1, 1⟩, ⟨1, 0⟩⟩]⟩,
  ⟨[109, 117, 108], 13, false, [⟨2, 2, ⟨1, 2⟩, ⟨0, 1⟩⟩, ⟨13, 1, ⟨1, 2⟩, ⟨0, 0⟩⟩, ⟨3, 0, ⟨1, 1⟩, ⟨1, 0⟩⟩]⟩,
  ⟨[100, 105, 118], 14, false, [⟨2, 2, ⟨1, 2⟩, ⟨0, 1⟩⟩, ⟨13, 1, ⟨1, 2⟩, ⟨0, 0⟩⟩, ⟨18, 0, ⟨0, 2⟩, ⟨1, 0⟩⟩, ⟨4, 0, ⟨1, 1⟩, ⟨1, 0⟩⟩]⟩,
  ⟨[109, 111, 100], 15, false, [⟨2, 2, ⟨1, 2⟩, ⟨0, 1⟩⟩, ⟨13, 1, ⟨1, 2⟩, ⟨0, 0⟩⟩, ⟨18, 0, ⟨0, 2⟩, ⟨1, 0⟩⟩, ⟨5, 0, ⟨1, 1⟩, ⟨1, 0⟩⟩]⟩,
  ⟨[97, 110, 100], 16, false, [⟨2, 2, ⟨1, 2⟩, ⟨0, 1⟩⟩, ⟨13, 1, ⟨1, 2⟩, ⟨0, 0⟩⟩, ⟨6, 0, ⟨1, 1⟩, ⟨1, 0⟩⟩]⟩,
  ⟨[111, 114], 17, false, [⟨2, 2, ⟨1, 2⟩, ⟨0, 1⟩⟩, ⟨13, 1, ⟨1, 2⟩, ⟨0, 0⟩⟩, ⟨7, 0, ⟨1, 1⟩, ⟨1, 0⟩⟩]⟩,
  ⟨[120, 111, 114], 18, false, [⟨2, 2, ⟨1, 2⟩, ⟨0, 1⟩⟩, ⟨13, 1, ⟨1, 2⟩, ⟨0, 0⟩⟩, ⟨8, 0, ⟨1, 1⟩, ⟨1, 0⟩⟩]⟩,
  ⟨[108, 101, 102, 116], 19, false, [⟨2, 2, ⟨1, 2⟩, ⟨0, 1⟩⟩, ⟨13, 1, ⟨1, 2⟩, ⟨0, 0⟩⟩, ⟨9, 0, ⟨1, 1⟩, ⟨1, 0⟩⟩]⟩,
  ⟨[114, 105, 103, 104, 116], 20, false, [⟨2, 2, ⟨1, 2⟩, ⟨0, 1⟩⟩, ⟨13, 1, ⟨1, 2⟩, ⟨0, 0⟩⟩, ⟨10, 0, ⟨1, 1⟩, ⟨1, 0⟩⟩]⟩,
  ⟨[101, 113], 21, false, [⟨2, 2, ⟨1, 2⟩, ⟨0, 1⟩⟩, ⟨13, 1, ⟨1, 2⟩, ⟨0, 0⟩⟩, ⟨11, 0, ⟨1, 1⟩, ⟨1, 0⟩⟩]⟩,
  ⟨[108, 101, 115, 115], 22, false, [⟨2, 2, ⟨1, 2⟩, ⟨0, 1⟩⟩, ⟨13, 1, ⟨1, 2⟩, ⟨0, 0⟩⟩, ⟨12, 0, ⟨1, 1⟩, ⟨1, 0⟩⟩]⟩,
  ⟨[109, 111, 114, 101], 23, false, [⟨2, 2, ⟨1, 2⟩, ⟨0, 1⟩⟩, ⟨13, 1, ⟨1, 2⟩, ⟨0, 0⟩⟩, ⟨12, 0, ⟨1, 0⟩, ⟨1, 1⟩⟩]⟩,
  ⟨[122, 101, 114, 111], 24, false, [⟨11, 0, ⟨1, 0⟩, ⟨0, 0⟩⟩]⟩,
  ⟨[98, 111, 117, 110, 100], 25, true, [⟨12, 1, ⟨1, 0⟩, ⟨2, 0⟩⟩, ⟨18, 0, ⟨0, 1⟩, ⟨1, 1⟩⟩]⟩,
  ⟨[106, 117, 109, 112], 26, true, [⟨0, 4, ⟨2, 0⟩, ⟨0, 0⟩⟩]⟩,
  ⟨[106, 122, 101, 114, 111], 27, true, [⟨19, 4, ⟨2, 0⟩, ⟨1, 0⟩⟩]⟩,
  ⟨[99, 97, 108, 108], 28, true, [⟨1, 3, ⟨1, 3⟩, ⟨0, 1⟩⟩, ⟨12, 1, ⟨1, 3⟩, ⟨0, 101⟩⟩, ⟨18, 0, ⟨0, 3⟩, ⟨1, 1⟩⟩, ⟨14, 0, ⟨1, 2⟩, ⟨1, 4⟩⟩, ⟨1, 2, ⟨1, 2⟩, ⟨0, 1⟩⟩, ⟨0, 4, ⟨2, 0⟩, ⟨0, 0⟩⟩]⟩,
  ⟨[114, 101, 116], 29, true, [⟨2, 2, ⟨1, 2⟩, ⟨2, 0⟩⟩, ⟨13, 4, ⟨1, 2⟩, ⟨0, 0⟩⟩, ⟨2, 3, ⟨1, 3⟩, ⟨0, 1⟩⟩]⟩,
  ⟨[103, 101, 116], 30, false, [⟨15, 0, ⟨0, 0⟩, ⟨0, 0⟩⟩]⟩,
  ⟨[112, 117, 116], 31, false, [⟨16, 0, ⟨1, 0⟩, ⟨0, 0⟩⟩]⟩,
  ⟨[115, 116, 97, 99, 107], 32, true, [⟨0, 2, ⟨2, 0⟩, ⟨0, 0⟩⟩]⟩]⟩
theorem def_std : stdT = defT := by decide +kernel
end Go.Proofs.Ytpjnphonanbopaa
