/- Part 5 of the proof of syntaxParseMatchesSpec_holds: texts S9, S10, S11, S12, S13, S14, FlR, Pv, FlW, FlY, S15. -/
import Derived.Test.YtiljephghfngnaaGreatDoorQ27x4
import Derived.RangeFuncIn
import Derived.RangeFuncLeaves
import Derived.RangeFuncCalls
import Derived.RangeFuncRecord
import Derived.TacticsIn
import Derived.Sort.LoopGhostIn
import Derived.OrdersIn
import Derived.Recover
import Derived.ControlIn
set_option linter.unusedVariables false
set_option linter.unusedSimpArgs false
set_option linter.unnecessarySimpa false
set_option maxRecDepth 100000
set_option maxHeartbeats 8000000
namespace Go.Proofs.YtiljephghfngnaaGreatDoor
open Go.FL
attribute [local irreducible] JC JO JA JB thenQ blockQ retQ AC fill CellsAt QE Ev Mid
theorem u32z : U32 0 := ⟨by decide, by decide⟩
theorem nilz : ([] : Str).length ≤ 9223372036854775807 := by decide
def argR (l : Str) (n : Nat) (t : PS) : PR Ex :=
  if t.next.kind = 2 then .ok (.mk 1 0 t.next.num [] []) (advP l t)
  else if isP t [103, 101, 116] = true then .ok (.mk 5 0 0 [] []) (advP l t)
  else if isP t [40] = true then (pExpr l n 1 (advP l t)).and fun x t => (expP l [[41]] t).and fun _ t => .ok x t
  else (nameP l t).and fun w t =>
    if isP t [91] = true then (pExpr l n 1 (advP l t)).and fun x t => (expP l [[93]] t).and fun _ t => .ok (.mk 3 0 0 w [x]) t
    else if isP t [40] = true then (pArgs l n (advP l t)).and fun a t => .ok (.mk 4 0 0 w a) t
    else .ok (.mk 2 0 0 w []) t
def argU (l : Str) (n : Nat) (t : PS) : Nat → PR Ex
  | 0 => argR l n t
  | j + 1 => if isP t (sgnT (4 - ((j + 1 : Nat) : Int))) = true then (pArg l n (advP l t)).and fun x t => .ok (.mk 6 (4 - ((j + 1 : Nat) : Int)) 0 [] [x]) t else argU l n t j
theorem pArg_U (l : Str) (n : Nat) (t : PS) : pArg l (n + 1) t = argU l n t 3 := by rw [pArg]; rfl
theorem arg_st (n : Nat) (ihA : CA n) (ihE : CE n) (ihS : CS n) : CP 166 [] (fun l t => pArg l (n + 1) t) ExV := by
 intro D L s hG l t bp hl hg hr
 dsimp only at hr ⊢
 obtain ⟨r, hq⟩ : ∃ r, r = pArg l (n + 1) t := ⟨_, rfl⟩
 rw [← hq] at hr ⊢
 rw [pArg_U] at hq
 refine AP_enter (TT := TT) (fn := Tryz.f166) TT_ok Tryz.func166 V Z Tryz.ntmps166 Z (rs := [.cell 2 97]) Z [(0, _)] Z <| Sr <| JO_allocZ Z [_, _, _, _, _] Z Z ?_
 intro β1 s1 h1
 refine Nt <| Zs <| Sr <| At Z Z <| Zp <| JC_loop (γ := Nat) (fun j => [(0, _), (2, _), (3, .int .i64 (4 - (j : Int)))]) (fun _ => _) (fun j tw => Le D s1 tw ∧ (j ≤ 3 ∧ r = argU l n t j)) (fun j => j) (fun _ _ _ h hl => ⟨h.1.trans hl, h.2⟩) 3 (.cons Z (.cons Z (.cons Z (.nil _)))) Z ⟨Le.refl _, ⟨Nat.le_refl _, hq⟩⟩ ?_
 intro j s2 I2
 obtain ⟨hj, hq⟩ := I2.2
 refine Zs <| Sr <| Zqm Z Z <| Zqle Z Z Z <| Nt <| ?_
 refine JC_ifD Z (fun c3 => ?_) (fun c3 => ?_)
 ·
  obtain ⟨m, rfl⟩ : ∃ m, j = m + 1 := ⟨j - 1, by omega⟩
  rw [argU] at hq
  refine Zk <| Zt <| Zs <| Zp <| Sr <| Zqm Z Z <| Zqm Z Z <| Jc Z Z Z (sign_ac D _ _ (hG.le (h1.t I2.1)) _ ⟨by omega, by omega⟩) ?_
  rintro _ _ s4 h4 ⟨rfl, rfl⟩
  refine Jc Z Z Z (acc_ac D [_] _ _ (hG.le (h1.t I2.1|>.t h4)) l t bp (sgnT (4 - ((m + 1 : Nat) : Int))) hl hg) ?_
  rintro _ _ s5 h5 ⟨_, (⟨hb5, rfl, rfl⟩ | ⟨hb5, rfl, rfl⟩), rfl⟩
  ·
   simp only [cQ9, nQ9]
   rw [if_pos hb5] at hq
   refine Nt <| Zy Z <| Sr <| Zqm Z Z <| Zqm Z Z <| ?_
   refine JO_callP (first := []) (captured := []) Z Z Z (CP.at_ (ihA) D [_] _ _ (hG.le (h1.t I2.1|>.t h4|>.t h5)) l (advP l t) bp hl hg.adv (and_out hq hr)) ?_ ?_
   ·
    rintro _ _ sx6 hx6 ⟨hp9, t9, he9, hg9, rfl⟩ fr9
    repeat (first | refine thenQ_p ?_ | refine blockQ_p ?_)
    refine retP_x [_] _ (List.Perm.refl _) (h1.t I2.1|>.t h4|>.t h5|>.t hx6) (fun sR hS2 => ?_)
    rw [he9] at hq
    exact ⟨hp9, t9, hq, hg9, rfl⟩
   rintro _ _ s6 h6 ⟨x6, t6, he6, hg6, ⟨d6, A6, n6, c6, rfl, hE6, hu6, hn6⟩, rfl⟩
   rw [he6] at hq
   simp only [PR.and] at hq
   simp only [cQ9, nQ9]
   refine JO_bs [(_, _)] [_, _, _, _, _] Z Z Z Z Z Z Z Z Z ?_
   intro β7 s7 h7 hc7
   refine JO_q (QE_build [(_, _), (_, _), (_, _)] [_, _, _, _, _] Z Z Z Z Z Z) Z <| Wt 0 [_, _, _, _, _] Y9 <| Nt <| Zo <| Zc <| Zu <| Zu <| Zc <| Zu <| ?_
   refine retP_mk [_] _ (.inr Z) (.agg (us := [_, _, _, _, _]) 0 Z Z Z Z Z (.nil)) Z (h1.t I2.1|>.t h4|>.t h5|>.t h6|>.t h7) (fun sR hS2 => ?_)
   exact ⟨_, _, hq, hg6, ⟨_, _, 1, 1, rfl, ex_one (hc7.le ((Lr D).t hS2)) (hE6.le (h7.t hS2)) hu6 hn6, u32z, nilz⟩, rfl⟩
  simp only [cQ9, nQ9]
  rw [if_neg (bNe hb5)] at hq
  refine Nt <| Zz Z <| Zk <| Zb <| Zt <| Zr <| Zqm Z Z <| JO_q (QE_add' (c := 4 - (m : Int)) Z Z (by rw [w64 O O]; omega)) Z <| Zqa Z Z <| Zn <| ?_
  refine thenQ_n ⟨m, [], kp, Z, ⟨(I2.1.t h4|>.t h5), ⟨by omega, hq⟩⟩, O⟩
 obtain rfl : j = 0 := by omega
 rw [argU, argR] at hq
 refine Zl <| Zv <| Zv <| Zd <| Zt <| Zs <| Zp <| Sr <| Zqm Z Z <| Zqni Z Z <| Wb Y5 <| W0 Y5 <| Wl 1 Y6 <| Zqeq Z Z Z <| At Z Z <| ?_
 refine JC_ifD Z (fun c8 => ?_) (fun c8 => ?_)
 ·
  replace hq : r = (numbP l t).and fun x t => .ok (.mk 1 0 x [] []) t := by rw [hq, if_pos c8, numbP, if_pos c8]; rfl
  refine Sr <| Zqm Z Z <| ?_
  refine JO_callP (first := []) (captured := []) Z Z Z (numb_ap D _ _ (hG.le (h1.t I2.1)) l t bp hl hg [_]  ) ?_ ?_
  ·
   rintro _ _ sx9 hx9 ⟨hp9, t9, he9, hg9, rfl⟩ fr9
   repeat (first | refine thenQ_p ?_ | refine blockQ_p ?_)
   refine retP_x [_] _ (List.Perm.refl _) (h1.t I2.1|>.t hx9) (fun sR hS2 => ?_)
   rw [he9] at hq
   exact ⟨hp9, t9, hq, hg9, rfl⟩
  rintro _ _ s9 h9 ⟨x9, t9, he9, hg9, ⟨rfl, hu9⟩, rfl⟩
  rw [he9] at hq
  simp only [PR.and] at hq
  simp only [cQ9, nQ9]
  refine JO_q (QE_build [(_, _), (_, _)] [_, _, _, _, _] Z Z Z Z Z Z) Z <| Wt 0 [_, _, _, _, _] Y9 <| Nt <| Zo <| Zc <| Zu <| ?_
  refine retP_mk [_] _ (.inr Z) (.agg (us := [_, _, _, _, _]) 0 Z Z Z Z Z (.nil)) Z (h1.t I2.1|>.t h9) (fun sR hS2 => ?_)
  exact ⟨_, _, hq, hg9, ⟨0, none, 0, 0, rfl, exs_nil 0 _, hu9, nilz⟩, rfl⟩
 rw [if_neg c8] at hq
 refine Sr <| Zqm Z Z <| Jc Z Z Z (acc_ac D [_] _ _ (hG.le (h1.t I2.1)) l t bp [103, 101, 116] hl hg) ?_
 rintro _ _ s10 h10 ⟨_, (⟨hb10, rfl, rfl⟩ | ⟨hb10, rfl, rfl⟩), rfl⟩
 ·
  simp only [cQ9, nQ9]
  rw [if_pos hb10] at hq
  refine At Z Z <| Zy Z <| Sr <| JO_q (QE_build [(_, _)] [_, _, _, _, _] Z Z Z Z Z Z) Z <| Wt 0 [_, _, _, _, _] Y9 <| Nt <| Zo <| Zc <| Zu <| ?_
  refine retP_mk [_] _ (.inr Z) (.agg (us := [_, _, _, _, _]) 0 Z Z Z Z Z (.nil)) Z (h1.t I2.1|>.t h10) (fun sR hS2 => ?_)
  exact ⟨_, _, hq, hg.adv, ⟨0, none, 0, 0, rfl, exs_nil 0 _, u32z, nilz⟩, rfl⟩
 simp only [cQ9, nQ9]
 rw [if_neg (bNe hb10)] at hq
 refine At Z Z <| Zz Z <| Sr <| Zqm Z Z <| Jc Z Z Z (acc_ac D [_] _ _ (hG.le (h1.t I2.1|>.t h10)) l t bp [40] hl hg) ?_
 rintro _ _ s11 h11 ⟨_, (⟨hb11, rfl, rfl⟩ | ⟨hb11, rfl, rfl⟩), rfl⟩
 ·
  simp only [cQ9, nQ9]
  rw [if_pos hb11] at hq
  refine At Z Z <| Zy Z <| Sr <| Zqm Z Z <| ?_
  refine JO_callP (first := []) (captured := []) Z Z Z (CP.at_ (ihE 1) D [_] _ _ (hG.le (h1.t I2.1|>.t h10|>.t h11)) l (advP l t) bp hl hg.adv (and_out hq hr)) ?_ ?_
  ·
   rintro _ _ sx12 hx12 ⟨hp9, t9, he9, hg9, rfl⟩ fr9
   repeat (first | refine thenQ_p ?_ | refine blockQ_p ?_)
   refine retP_x [_] _ (List.Perm.refl _) (h1.t I2.1|>.t h10|>.t h11|>.t hx12) (fun sR hS2 => ?_)
   rw [he9] at hq
   exact ⟨hp9, t9, hq, hg9, rfl⟩
  rintro _ _ s12 h12 ⟨x12, t12, he12, hg12, ⟨d12, A12, n12, c12, rfl, hE12, hu12, hn12⟩, rfl⟩
  rw [he12] at hq
  simp only [PR.and] at hq
  simp only [cQ9, nQ9]
  refine JO_allocZ Z [_, _, _, _, _] Z Z ?_
  intro β13 s13 h13
  refine Wt 0 [_, _, _, _, _] Y9 <| Nt <| Sr <| Zqm Z Z <| JO_bs [(_, _)] [_] Z Z Z Z Z Z Z Z Z ?_
  intro β14 s14 h14 hc14
  refine JO_callP (first := []) (captured := []) Z Z Z (exp_ap D _ _ (hG.le (h1.t I2.1|>.t h10|>.t h11|>.t h12|>.t h13|>.t h14)) l t12 bp hl hg12 [_, _] [[41]] _ _ _ (str1 (hc14.le (Lr D)) (by decide)) ) ?_ ?_
  ·
   rintro _ _ sx15 hx15 ⟨hp9, t9, he9, hg9, rfl⟩ fr9
   repeat (first | refine thenQ_p ?_ | refine blockQ_p ?_)
   refine retP_x [_, _] _ (List.Perm.refl _) (h1.t I2.1|>.t h10|>.t h11|>.t h12|>.t h13|>.t h14|>.t hx15) (fun sR hS2 => ?_)
   rw [he9] at hq
   exact ⟨hp9, t9, hq, hg9, rfl⟩
  rintro _ _ s15 h15 ⟨_, t15, he15, hg15, _, rfl⟩
  rw [he15] at hq
  simp only [PR.and] at hq
  simp only [cQ9, nQ9]
  refine Nt <| Sr <| JO_q (QE_ldA 0 [_, _, _, _, _] Z Z Z Z Z) Z <| Wt 1 [_, _, _, _, _] Y9 <| Nt <| Zo <| Zc <| Zu <| ?_
  refine retP_mk [_, _] _ (.inr Z) (.agg (us := [_, _, _, _, _]) 1 Z Z Z Z Z (.nil)) Z (h1.t I2.1|>.t h10|>.t h11|>.t h12|>.t h13|>.t h14|>.t h15) (fun sR hS2 => ?_)
  exact ⟨_, _, hq, hg15, ⟨d12, A12, n12, c12, rfl, hE12.le (h13.t h14|>.t h15|>.t hS2), hu12, hn12⟩, rfl⟩
 simp only [cQ9, nQ9]
 rw [if_neg (bNe hb11)] at hq
 refine At Z Z <| Zz Z <| Zk <| Zb <| Zt <| Sr <| Zqm Z Z <| ?_
 refine JO_callP (first := []) (captured := []) Z Z Z (name_ap D _ _ (hG.le (h1.t I2.1|>.t h10|>.t h11)) l t bp hl hg [_]  ) ?_ ?_
 ·
  rintro _ _ sx16 hx16 ⟨hp9, t9, he9, hg9, rfl⟩ fr9
  repeat (first | refine thenQ_p ?_ | refine blockQ_p ?_)
  refine retP_x [_] _ (List.Perm.refl _) (h1.t I2.1|>.t h10|>.t h11|>.t hx16) (fun sR hS2 => ?_)
  rw [he9] at hq
  exact ⟨hp9, t9, hq, hg9, rfl⟩
 rintro _ _ s16 h16 ⟨x16, t16, he16, hg16, ⟨rfl, hx16⟩, rfl⟩
 rw [he16] at hq
 simp only [PR.and] at hq
 simp only [cQ9, nQ9]
 refine At Z Z <| Zs <| Zp <| Sr <| Zqm Z Z <| Jc Z Z Z (acc_ac D [_] _ _ (hG.le (h1.t I2.1|>.t h10|>.t h11|>.t h16)) l t16 bp [91] hl hg16) ?_
 rintro _ _ s17 h17 ⟨_, (⟨hb17, rfl, rfl⟩ | ⟨hb17, rfl, rfl⟩), rfl⟩
 ·
  simp only [cQ9, nQ9]
  rw [if_pos hb17] at hq
  refine At Z Z <| Zy Z <| Sr <| Zqm Z Z <| Zqm Z Z <| ?_
  refine JO_callP (first := []) (captured := []) Z Z Z (CP.at_ (ihE 1) D [_] _ _ (hG.le (h1.t I2.1|>.t h10|>.t h11|>.t h16|>.t h17)) l (advP l t16) bp hl hg16.adv (and_out hq hr)) ?_ ?_
  ·
   rintro _ _ sx18 hx18 ⟨hp9, t9, he9, hg9, rfl⟩ fr9
   repeat (first | refine thenQ_p ?_ | refine blockQ_p ?_)
   refine retP_x [_] _ (List.Perm.refl _) (h1.t I2.1|>.t h10|>.t h11|>.t h16|>.t h17|>.t hx18) (fun sR hS2 => ?_)
   rw [he9] at hq
   exact ⟨hp9, t9, hq, hg9, rfl⟩
  rintro _ _ s18 h18 ⟨x18, t18, he18, hg18, ⟨d18, A18, n18, c18, rfl, hE18, hu18, hn18⟩, rfl⟩
  rw [he18] at hq
  simp only [PR.and] at hq
  simp only [cQ9, nQ9]
  refine JO_bs [(_, _)] [_, _, _, _, _] Z Z Z Z Z Z Z Z Z ?_
  intro β19 s19 h19 hc19
  refine JO_q (QE_build [(_, _), (_, _), (_, _)] [_, _, _, _, _] Z Z Z Z Z Z) Z <| JO_allocZ Z [_, _, _, _, _] Z Z ?_
  intro β20 s20 h20
  refine Wt 0 [_, _, _, _, _] Y9 <| Nt <| Sr <| Zqm Z Z <| JO_bs [(_, _)] [_] Z Z Z Z Z Z Z Z Z ?_
  intro β21 s21 h21 hc21
  refine JO_callP (first := []) (captured := []) Z Z Z (exp_ap D _ _ (hG.le (h1.t I2.1|>.t h10|>.t h11|>.t h16|>.t h17|>.t h18|>.t h19|>.t h20|>.t h21)) l t18 bp hl hg18 [_, _] [[93]] _ _ _ (str1 (hc21.le (Lr D)) (by decide)) ) ?_ ?_
  ·
   rintro _ _ sx22 hx22 ⟨hp9, t9, he9, hg9, rfl⟩ fr9
   repeat (first | refine thenQ_p ?_ | refine blockQ_p ?_)
   refine retP_x [_, _] _ (List.Perm.refl _) (h1.t I2.1|>.t h10|>.t h11|>.t h16|>.t h17|>.t h18|>.t h19|>.t h20|>.t h21|>.t hx22) (fun sR hS2 => ?_)
   rw [he9] at hq
   exact ⟨hp9, t9, hq, hg9, rfl⟩
  rintro _ _ s22 h22 ⟨_, t22, he22, hg22, _, rfl⟩
  rw [he22] at hq
  simp only [PR.and] at hq
  simp only [cQ9, nQ9]
  refine Nt <| Sr <| JO_q (QE_ldA 0 [_, _, _, _, _] Z Z Z Z Z) Z <| Wt 1 [_, _, _, _, _] Y9 <| Nt <| Zo <| Zc <| Zu <| ?_
  refine retP_mk [_, _] _ (.inr Z) (.agg (us := [_, _, _, _, _]) 1 Z Z Z Z Z (.nil)) Z (h1.t I2.1|>.t h10|>.t h11|>.t h16|>.t h17|>.t h18|>.t h19|>.t h20|>.t h21|>.t h22) (fun sR hS2 => ?_)
  exact ⟨_, _, hq, hg22, ⟨_, _, 1, 1, rfl, ex_one (hc19.le (h20.t h21|>.t h22|>.t hS2)) (hE18.le (h19.t h20|>.t h21|>.t h22|>.t hS2)) hu18 hn18, u32z, (Nat.le_trans hx16 O)⟩, rfl⟩
 simp only [cQ9, nQ9]
 rw [if_neg (bNe hb17)] at hq
 refine At Z Z <| Zz Z <| Sr <| Zqm Z Z <| Jc Z Z Z (acc_ac D [_] _ _ (hG.le (h1.t I2.1|>.t h10|>.t h11|>.t h16|>.t h17)) l t16 bp [40] hl hg16) ?_
 rintro _ _ s23 h23 ⟨_, (⟨hb23, rfl, rfl⟩ | ⟨hb23, rfl, rfl⟩), rfl⟩
 ·
  simp only [cQ9, nQ9]
  rw [if_pos hb23] at hq
  refine At Z Z <| Zy Z <| Sr <| Zqm Z Z <| Zqm Z Z <| ?_
  refine JO_callP (first := []) (captured := []) Z Z Z (CP.at_ (ihS) D [_] _ _ (hG.le (h1.t I2.1|>.t h10|>.t h11|>.t h16|>.t h17|>.t h23)) l (advP l t16) bp hl hg16.adv (and_out hq hr)) ?_ ?_
  ·
   rintro _ _ sx24 hx24 ⟨hp9, t9, he9, hg9, rfl⟩ fr9
   repeat (first | refine thenQ_p ?_ | refine blockQ_p ?_)
   refine retP_x [_] _ (List.Perm.refl _) (h1.t I2.1|>.t h10|>.t h11|>.t h16|>.t h17|>.t h23|>.t hx24) (fun sR hS2 => ?_)
   rw [he9] at hq
   exact ⟨hp9, t9, hq, hg9, rfl⟩
  rintro _ _ s24 h24 ⟨x24, t24, he24, hg24, ⟨d24, A24, n24, c24, rfl, hE24⟩, rfl⟩
  rw [he24] at hq
  simp only [PR.and] at hq
  simp only [cQ9, nQ9]
  refine JO_q (QE_build [(_, _), (_, _), (_, _)] [_, _, _, _, _] Z Z Z Z Z Z) Z <| Wt 0 [_, _, _, _, _] Y9 <| Nt <| Zo <| Zc <| Zu <| ?_
  refine retP_mk [_] _ (.inr Z) (.agg (us := [_, _, _, _, _]) 0 Z Z Z Z Z (.nil)) Z (h1.t I2.1|>.t h10|>.t h11|>.t h16|>.t h17|>.t h23|>.t h24) (fun sR hS2 => ?_)
  exact ⟨_, _, hq, hg24, ⟨d24, A24, n24, c24, rfl, hE24.le ((Lr D).t hS2), u32z, (Nat.le_trans hx16 O)⟩, rfl⟩
 simp only [cQ9, nQ9]
 rw [if_neg (bNe hb23)] at hq
 refine At Z Z <| Zz Z <| Zk <| Zb <| Zt <| Sr <| Zqm Z Z <| JO_q (QE_build [(_, _), (_, _)] [_, _, _, _, _] Z Z Z Z Z Z) Z <| Wt 0 [_, _, _, _, _] Y9 <| Nt <| Zo <| ?_
 refine retP_mk [_] _ (.inr Z) (.agg (us := [_, _, _, _, _]) 0 Z Z Z Z Z (.nil)) Z (h1.t I2.1|>.t h10|>.t h11|>.t h16|>.t h17|>.t h23) (fun sR hS2 => ?_)
 exact ⟨_, _, hq, hg16, ⟨0, none, 0, 0, rfl, exs_nil 0 _, u32z, (Nat.le_trans hx16 O)⟩, rfl⟩
theorem expr_all (n : Nat) : n ≤ 1000000 → CE n ∧ CA n ∧ CS n := by
  induction n using Nat.strongRecOn with
  | _ n ih =>
    intro hN
    cases n with
    | zero => exact ⟨fun least D L s hG l t bp hl hg hr => absurd (show pExpr l 0 least t = .out by simp only [pExpr]) hr, fun D L s hG l t bp hl hg hr => absurd (show pArg l 0 t = .out by simp only [pArg]) hr, fun D L s hG l t bp hl hg hr => absurd (show pArgs l 0 t = .out by simp only [pArgs]) hr⟩
    | succ n =>
      have h := ih n (Nat.lt_succ_self n) O
      exact ⟨fun least => expr_st n h.2.1 (fun j hj => (ih j O O).1) least, arg_st n h.2.1 h.1 h.2.2, args_st n O fun j hj => (ih j O O).1⟩
def StV (s : World) (x : Stm) (v : Value) : Prop := ∃ d A1 n1 c1 A2 n2 c2 A3 n3 c3, v = .agg #[.int .i64 x.kind, St x.name, .slice A1 n1 c1, .slice A2 n2 c2, .slice A3 n3 c3] ∧ Exs d s A1 n1 c1 x.exprs ∧ Stms d s A2 n2 c2 x.body ∧ Stms d s A3 n3 c3 x.els ∧ x.name.length ≤ 9223372036854775807
def StsV (s : World) (x : List Stm) (v : Value) : Prop := ∃ d A n c, v = .slice A n c ∧ Stms d s A n c x
theorem st_row {s : World} {d : Nat} {x : Stm} {A1 : Option Addr} {n1 c1 : Nat} {A2 : Option Addr} {n2 c2 : Nat} {A3 : Option Addr} {n3 c3 : Nat} (h1 : Exs d s A1 n1 c1 x.exprs) (h2 : Stms d s A2 n2 c2 x.body) (h3 : Stms d s A3 n3 c3 x.els) (hn : x.name.length ≤ 9223372036854775807) :
    ([.int .i64 x.kind, St x.name, .slice A1 n1 c1, .slice A2 n2 c2, .slice A3 n3 c3] : List Value).length = 5 ∧ StR (d + 1) s x [.int .i64 x.kind, St x.name, .slice A1 n1 c1, .slice A2 n2 c2, .slice A3 n3 c3] := ⟨rfl, _, _, _, _, _, _, _, _, _, rfl, h1, h2, h3, hn⟩
def CT (k : Nat) : Prop := CP 120 [] (fun l t => pStm l k t) StV
def CI (k : Nat) : Prop := CP 148 [] (fun l t => pIf l k t) StV
def CR (k : Nat) : Prop := CP 96 [] (fun l t => pRest l k [] t) StsV
def CC (k : Nat) : Prop := ∀ (D : Nat) (L : Hl) (s : World) (hG : GP s) (l : Str) (t : PS) (bp bx : Nat) (hl : l.length ≤ 12000) (hg : PG l t) (kd : Int) (nm : Str) (A0 : Option Addr) (n0 c0 : Nat) (A1 : Option Addr) (n1 c1 : Nat) (A2 : Option Addr) (n2 c2 : Nat) (hr : pCond l k t ≠ .out),
  AP Tryz.prog D 149 [.pointer (some ⟨bp, 0, none⟩), .pointer (some ⟨bx, 0, none⟩)] (psB bp l t :: (bx, cb [.int .i64 kd, St nm, .slice A0 n0 c0, .slice A1 n1 c1, .slice A2 n2 c2] 100) :: L) s
    (fun _ L' s' => ∃ x b t' A n c A' n' c' d, pCond l k t = .ok (x, b) t' ∧ PG l t' ∧ L' = psB bp l t' :: (bx, cb [.int .i64 kd, St nm, .slice A n c, .slice A' n' c', .slice A2 n2 c2] 100) :: L ∧ Exs d s' A n c [x] ∧ Stms d s' A' n' c' b)
    fun ch L' _ => Pan ch ∧ ∃ t' cs, pCond l k t = .er t' ∧ PG l t' ∧ L' = psB bp l t' :: (bx, cb cs 100) :: L
def pNmd (l : Str) (n : Nat) (t : PS) : PR Stm := (nameP l t).and fun w t =>
  if isP t [61] = true then (pExpr l n 1 (advP l t)).and fun x t => (expP l [[59]] t).and fun _ t => .ok (.mk 1 w [x] [] []) t
  else if isP t [91] = true then (pExpr l n 1 (advP l t)).and fun x t => (expP l [[93], [61]] t).and fun _ t => (pExpr l n 1 t).and fun y t => (expP l [[59]] t).and fun _ t => .ok (.mk 2 w [x, y] [] []) t
  else (expP l [[40]] t).and fun _ t => (pArgs l n t).and fun a t => (expP l [[59]] t).and fun _ t => .ok (.mk 5 w a [] []) t
structure RG where
  xs : List Stm
  v : Value
  M : Hl
  css : List (List Value)
  t : PS
  k : Nat
theorem rest_pos {l : Str} {k : Nat} {xs : List Stm} {t : PS} {r : PR (List Stm)} (h : r = pRest l k xs t) (hr : r ≠ .out) : ∃ m, k = m + 1 := by
  cases k with
  | zero => exact absurd (h.trans (by simp only [pRest])) hr
  | succ m => exact ⟨m, rfl⟩
theorem own_snoc {α : Type} {e sz : Nat} {M : Hl} {v : Value} {xs : List α} {x : α} {css : List (List Value)} {w : List Value} (h : FL.Own e sz M v (xs.length + 1) (css.flatten ++ w)) : FL.Own e sz M v (xs ++ [x]).length (css ++ [w]).flatten := by
  rw [List.length_append, List.flatten_append]; simpa using h
theorem stA_le {D d e : Nat} {s s' : World} {l : List Stm} {css : List (List Value)} (hle : Le D s s') (hd : d ≤ e) (h : All2 (fun x cs => cs.length = 5 ∧ StR d s x cs) l css) : All2 (fun x cs => cs.length = 5 ∧ StR e s' x cs) l css := all2_imp h fun x cs hx => ⟨hx.1, (hx.2.le hle).up hd⟩
theorem rest_st (n : Nat) (hN : n ≤ 1000000) (ihT : ∀ j, j < n → CT j) : CP 96 [] (fun l t => pRest l n [] t) StsV := by
 intro D L s hG l t bp hl hg hr
 dsimp only at hr ⊢
 obtain ⟨r, hq⟩ : ∃ r, r = pRest l n [] t := ⟨_, rfl⟩
 rw [← hq] at hr ⊢
 refine AP_enter (TT := TT) (fn := Tryz.f96) TT_ok Tryz.func96 V Z Tryz.ntmps96 Z (rs := [.tmp 2]) Z [(0, _)] Z <| Sr <| At Z Z <| Sr <| At Z Z <| Zs <| Zp <| ?_
 refine JC_loop (γ := RG) (fun g => [(0, _), (2, _), (3, g.v)]) (fun g => psB bp l g.t :: (g.M ++ L)) (fun g tw => Le D s tw ∧ (PG l g.t ∧ r = pRest l g.k g.xs g.t ∧ g.xs.length + g.k ≤ n ∧ FL.Own 100 5 g.M g.v g.xs.length g.css.flatten ∧ ∃ d, All2 (fun x cs => cs.length = 5 ∧ StR d tw x cs) g.xs g.css)) (fun g => g.k) (fun _ _ _ h hl => ⟨h.1.trans hl, ⟨h.2.1, h.2.2.1, h.2.2.2.1, h.2.2.2.2.1, _, stA_le hl (Nat.le_refl _) h.2.2.2.2.2.choose_spec⟩⟩) ⟨[], .slice none 0 0, [], [], t, n⟩ (.cons Z (.cons Z (.cons Z (.nil _)))) Z ⟨Le.refl _, ⟨hg, hq, by simp, .nil, 0, .nil⟩⟩ ?_
 intro g s1 I1
 obtain ⟨xs, v, M, css, t1, k⟩ := g
 obtain ⟨hg1, hq, hkn, hO, d1, hA⟩ : PG l t1 ∧ r = pRest l k xs t1 ∧ xs.length + k ≤ n ∧ FL.Own 100 5 M v xs.length css.flatten ∧ ∃ d, All2 (fun x cs => cs.length = 5 ∧ StR d s1 x cs) xs css := I1.2
 obtain ⟨k, rfl⟩ := rest_pos hq hr
 rw [pRest] at hq
 obtain ⟨A0, c0, rfl, hz1, hz2⟩ := Own.slice hO
 dsimp only
 refine Zs <| Sr <| Zqm Z Z <| Jc Z Z Z (acc_ac D [] _ _ (hG.le I1.1) l t1 bp [125] hl hg1) ?_
 rintro _ _ s2 h2 ⟨_, (⟨hb2, rfl, rfl⟩ | ⟨hb2, rfl, rfl⟩), rfl⟩
 ·
  simp only [cQ9, nQ9]
  rw [if_pos hb2] at hq
  refine ZqnT Z Z <| Nt <| Zz Z <| Zl <| Zv <| Zv <| Zd <| Zt <| Zs <| JC_pubX [_] M _ ?_
  intro s3 h3 hpub3
  simp only [cQ9, nQ9]
  have hSt : Stms d1 s3 A0 xs.length c0 xs := Own.rows (R := StR d1) hO hpub3 (stA_le (h2.t h3) (Nat.le_refl _) hA) rfl
  refine Zr <| Zqm Z Z <| At Z Z <| Zo <| ?_
  refine retP_mk [] _ (.inr Z) (.tmp Z (.nil)) Z (I1.1.t h2|>.t h3) (fun sR hS2 => ?_)
  exact ⟨_, _, hq, hg1.adv, ⟨d1, A0, _, c0, rfl, hSt.le ((Lr D).t hS2)⟩, rfl⟩
 simp only [cQ9, nQ9]
 rw [if_neg (bNe hb2)] at hq
 refine ZqnF Z Z <| Nt <| Zy Z <| Zk <| Zt <| Zp <| Zr <| Zqm Z Z <| Zqm Z Z <| ?_
 refine JO_callP (first := []) (captured := []) Z Z Z (CP.at_ (ihT k O) D [] _ _ (hG.le (I1.1.t h2)) l t1 bp hl hg1 (and_out hq hr)) ?_ ?_
 ·
  rintro _ _ sx4 hx4 ⟨hp9, t9, he9, hg9, rfl⟩ fr9
  repeat (first | refine thenQ_p ?_ | refine blockQ_p ?_)
  refine retP_x M _ (List.perm_middle (l₁ := M)).symm (I1.1.t h2|>.t hx4) (fun sR hS2 => ?_)
  rw [he9] at hq
  exact ⟨hp9, t9, hq, hg9, rfl⟩
 rintro _ _ s4 h4 ⟨x4, t4, he4, hg4, ⟨d4, P4, p4, o4, Q4, q4, u4, R4, m4, e4, rfl, hE4, hB4, hL4, hn4⟩, rfl⟩
 rw [he4] at hq
 simp only [PR.and] at hq
 simp only [cQ9, nQ9]
 refine JO_bs [(_, _)] [_, _, _, _, _] Z Z Z Z Z Z Z Z Z ?_
 intro β5 s5 h5 hc5
 refine JO_app (sz := 5) [_] M L Z Z Z Z Z Z Z hO (Row.of_cells (hc5.le (Lr D)) Z Z) ⟨by simp [ti100]; omega, by omega⟩ Z ?_
 intro v9 M9 s6 h6 oq
 simp only [cQ9, nQ9]
 refine Zqa Z Z <| Zn <| Zb <| ?_
 refine thenQ_n ⟨⟨xs ++ [x4], v9, M9, css ++ [[.int .i64 x4.kind, St x4.name, .slice P4 p4 o4, .slice Q4 q4 u4, .slice R4 m4 e4]], t4, k⟩, [], kp, Z, ⟨(I1.1.t h2|>.t h4|>.t h5|>.t h6), ⟨hg4, hq, (by rw [List.length_append]; simp only [List.length_cons, List.length_nil]; omega), own_snoc oq, d1 + d4 + 1, all2_snoc (stA_le (h2.t h4|>.t h5|>.t h6) O hA) (by have h := st_row (hE4.le (h5.t h6)) (hB4.le (h5.t h6)) (hL4.le (h5.t h6)) hn4; exact ⟨h.1, h.2.up O⟩)⟩⟩, (by show k < k + 1; omega)⟩
theorem cond_st (n : Nat) (ihE : CE n) (ihR : CR n) : CC (n + 1) := by
 intro D L s hG l t bp bx hl hg kd nm A0 n0 c0 A1 n1 c1 A2 n2 c2 hr
 obtain ⟨r, hq⟩ : ∃ r, r = pCond l (n + 1) t := ⟨_, rfl⟩
 rw [← hq] at hr ⊢
 rw [pCond] at hq
 refine AP_enter (TT := TT) (fn := Tryz.f149) TT_ok Tryz.func149 V Z Tryz.ntmps149 Z (rs := []) Z [(0, _), (1, _)] Z <| Sr <| Zqm Z Z <| JO_bs [(_, _)] [_] Z Z Z Z Z Z Z Z Z ?_
 intro β1 s1 h1 hc1
 refine JO_callP (first := []) (captured := []) Z Z Z (exp_ap D _ _ (hG.le h1) l t bp hl hg [] [[40]] _ _ _ (str1 (hc1.le (Lr D)) (by decide)) ) ?_ ?_
 ·
  rintro _ _ sx2 hx2 ⟨hp9, t9, he9, hg9, rfl⟩ fr9
  repeat (first | refine thenQ_p ?_ | refine blockQ_p ?_)
  refine retP_x [] _ (List.Perm.refl _) (h1.t hx2) (fun sR hS2 => ?_)
  rw [he9] at hq
  exact ⟨hp9, t9, _, hq, hg9, rfl⟩
 rintro _ _ s2 h2 ⟨_, t2, he2, hg2, _, rfl⟩
 rw [he2] at hq
 simp only [PR.and] at hq
 simp only [cQ9, nQ9]
 refine Nt <| Sr <| Zqm Z Z <| Zqm Z Z <| ?_
 refine JO_callP (first := []) (captured := []) Z Z Z (CP.at_ (ihE 1) D [] _ _ (hG.le (h1.t h2)) l t2 bp hl hg2 (and_out hq hr)) ?_ ?_
 ·
  rintro _ _ sx3 hx3 ⟨hp9, t9, he9, hg9, rfl⟩ fr9
  repeat (first | refine thenQ_p ?_ | refine blockQ_p ?_)
  refine retP_x [] _ (List.Perm.refl _) (h1.t h2|>.t hx3) (fun sR hS2 => ?_)
  rw [he9] at hq
  exact ⟨hp9, t9, _, hq, hg9, rfl⟩
 rintro _ _ s3 h3 ⟨x3, t3, he3, hg3, ⟨d3, A3, n3, c3, rfl, hE3, hu3, hn3⟩, rfl⟩
 rw [he3] at hq
 simp only [PR.and] at hq
 simp only [cQ9, nQ9]
 refine JO_bs [(_, _)] [_, _, _, _, _] Z Z Z Z Z Z Z Z Z ?_
 intro β4 s4 h4 hc4
 refine Zqni Z Z <| Wb Y5 <| Wt 1 [_, _, _, _, _] Y9 <| Nt <| Sr <| Zqm Z Z <| JO_bs [(_, _), (_, _)] [_, _] Z Z Z Z Z Z Z Z Z ?_
 intro β5 s5 h5 hc5
 refine JO_callP (first := []) (captured := []) Z Z Z (exp_ap D _ _ (hG.le (h1.t h2|>.t h3|>.t h4|>.t h5)) l t3 bp hl hg3 [] [[41], [123]] _ _ _ (str2 (hc5.le (Lr D)) (by decide)) ) ?_ ?_
 ·
  rintro _ _ sx6 hx6 ⟨hp9, t9, he9, hg9, rfl⟩ fr9
  repeat (first | refine thenQ_p ?_ | refine blockQ_p ?_)
  refine retP_x [] _ (List.Perm.refl _) (h1.t h2|>.t h3|>.t h4|>.t h5|>.t hx6) (fun sR hS2 => ?_)
  rw [he9] at hq
  exact ⟨hp9, t9, _, hq, hg9, rfl⟩
 rintro _ _ s6 h6 ⟨_, t6, he6, hg6, _, rfl⟩
 rw [he6] at hq
 simp only [PR.and] at hq
 simp only [cQ9, nQ9]
 refine Nt <| Zr <| Zqm Z Z <| Zqm Z Z <| ?_
 refine JO_callP (first := []) (captured := []) Z Z Z (CP.at_ (ihR) D [] _ _ (hG.le (h1.t h2|>.t h3|>.t h4|>.t h5|>.t h6)) l t6 bp hl hg6 (and_out hq hr)) ?_ ?_
 ·
  rintro _ _ sx7 hx7 ⟨hp9, t9, he9, hg9, rfl⟩ fr9
  repeat (first | refine thenQ_p ?_ | refine blockQ_p ?_)
  refine retP_x [] _ (List.Perm.refl _) (h1.t h2|>.t h3|>.t h4|>.t h5|>.t h6|>.t hx7) (fun sR hS2 => ?_)
  rw [he9] at hq
  exact ⟨hp9, t9, _, hq, hg9, rfl⟩
 rintro _ _ s7 h7 ⟨x7, t7, he7, hg7, ⟨d7, A7, n7, c7, rfl, hE7⟩, rfl⟩
 rw [he7] at hq
 simp only [PR.and] at hq
 simp only [cQ9, nQ9]
 refine Zqni Z Z <| Wb Y5 <| Wt 1 [_, _, _, _, _] Y9 <| Zn ?_
 refine retP_mk [] _ (.inl Z) (.nil) Z (h1.t h2|>.t h3|>.t h4|>.t h5|>.t h6|>.t h7) (fun sR hS2 => ?_)
 exact ⟨x3, _, _, _, 1, 1, _, _, _, d3 + d7 + 1, hq, hg7, rfl, (ex_one (hc4.le (h5.t h6|>.t h7|>.t hS2)) (hE3.le (h4.t h5|>.t h6|>.t h7|>.t hS2)) hu3 hn3).up O, (hE7.le ((Lr D).t hS2)).up O⟩
theorem named_st (n : Nat) (ihE : CE n) (ihS : CS n) : CP 147 [] (fun l t => pNmd l n t) StV := by
 intro D L s hG l t bp hl hg hr
 dsimp only at hr ⊢
 obtain ⟨r, hq⟩ : ∃ r, r = pNmd l n t := ⟨_, rfl⟩
 rw [← hq] at hr ⊢
 rw [pNmd] at hq
 refine AP_enter (TT := TT) (fn := Tryz.f147) TT_ok Tryz.func147 V Z Tryz.ntmps147 Z (rs := [.cell 2 100]) Z [(0, _)] Z <| Sr <| JO_allocZ Z [_, _, _, _, _] Z Z ?_
 intro β1 s1 h1
 refine Nt <| Sr <| Zqm Z Z <| ?_
 refine JO_callP (first := []) (captured := []) Z Z Z (name_ap D _ _ (hG.le h1) l t bp hl hg [_]  ) ?_ ?_
 ·
  rintro _ _ sx2 hx2 ⟨hp9, t9, he9, hg9, rfl⟩ fr9
  repeat (first | refine thenQ_p ?_ | refine blockQ_p ?_)
  refine retP_x [_] _ (List.Perm.refl _) (h1.t hx2) (fun sR hS2 => ?_)
  rw [he9] at hq
  exact ⟨hp9, t9, hq, hg9, rfl⟩
 rintro _ _ s2 h2 ⟨x2, t2, he2, hg2, ⟨rfl, hx2⟩, rfl⟩
 rw [he2] at hq
 simp only [PR.and] at hq
 simp only [cQ9, nQ9]
 refine JO_q (QE_build [(_, _)] [_, _, _, _, _] Z Z Z Z Z Z) Z <| JO_allocZ Z [_, _, _, _, _] Z Z ?_
 intro β3 s3 h3
 refine Wt 0 [_, _, _, _, _] Y9 <| Nt <| Zs <| Zp <| Sr <| Zqm Z Z <| Jc Z Z Z (acc_ac D [_, _] _ _ (hG.le (h1.t h2|>.t h3)) l t2 bp [61] hl hg2) ?_
 rintro _ _ s4 h4 ⟨_, (⟨hb4, rfl, rfl⟩ | ⟨hb4, rfl, rfl⟩), rfl⟩
 ·
  simp only [cQ9, nQ9]
  rw [if_pos hb4] at hq
  refine At Z Z <| Zy Z <| Zr <| Zqm Z Z <| ?_
  refine JO_callP (first := []) (captured := []) Z Z Z (CP.at_ (ihE 1) D [_, _] _ _ (hG.le (h1.t h2|>.t h3|>.t h4)) l (advP l t2) bp hl hg2.adv (and_out hq hr)) ?_ ?_
  ·
   rintro _ _ sx5 hx5 ⟨hp9, t9, he9, hg9, rfl⟩ fr9
   repeat (first | refine thenQ_p ?_ | refine blockQ_p ?_)
   refine retP_x [_, _] _ (List.Perm.refl _) (h1.t h2|>.t h3|>.t h4|>.t hx5) (fun sR hS2 => ?_)
   rw [he9] at hq
   exact ⟨hp9, t9, hq, hg9, rfl⟩
  rintro _ _ s5 h5 ⟨x5, t5, he5, hg5, ⟨d5, A5, n5, c5, rfl, hE5, hu5, hn5⟩, rfl⟩
  rw [he5] at hq
  simp only [PR.and] at hq
  simp only [cQ9, nQ9]
  refine JO_bs [(_, _)] [_, _, _, _, _] Z Z Z Z Z Z Z Z Z ?_
  intro β6 s6 h6 hc6
  refine W0 Y5 <| Wt 0 [_, _, _, _, _] Y9 <| Wb Y5 <| Wt 0 [_, _, _, _, _] Y9 <| Zn <| Zb <| Zt <| Sr <| Zqm Z Z <| JO_bs [(_, _)] [_] Z Z Z Z Z Z Z Z Z ?_
  intro β7 s7 h7 hc7
  refine JO_callP (first := []) (captured := []) Z Z Z (exp_ap D _ _ (hG.le (h1.t h2|>.t h3|>.t h4|>.t h5|>.t h6|>.t h7)) l t5 bp hl hg5 [_, _] [[59]] _ _ _ (str1 (hc7.le (Lr D)) (by decide)) ) ?_ ?_
  ·
   rintro _ _ sx8 hx8 ⟨hp9, t9, he9, hg9, rfl⟩ fr9
   repeat (first | refine thenQ_p ?_ | refine blockQ_p ?_)
   refine retP_x [_, _] _ (List.Perm.refl _) (h1.t h2|>.t h3|>.t h4|>.t h5|>.t h6|>.t h7|>.t hx8) (fun sR hS2 => ?_)
   rw [he9] at hq
   exact ⟨hp9, t9, hq, hg9, rfl⟩
  rintro _ _ s8 h8 ⟨_, t8, he8, hg8, _, rfl⟩
  rw [he8] at hq
  simp only [PR.and] at hq
  simp only [cQ9, nQ9]
  refine Nt <| Sr <| JO_q (QE_ldA 0 [_, _, _, _, _] Z Z Z Z Z) Z <| Wt 1 [_, _, _, _, _] Y9 <| Nt <| Zo <| ?_
  refine retP_mk [_, _] _ (.inr Z) (.agg (us := [_, _, _, _, _]) 1 Z Z Z Z Z (.nil)) Z (h1.t h2|>.t h3|>.t h4|>.t h5|>.t h6|>.t h7|>.t h8) (fun sR hS2 => ?_)
  exact ⟨_, _, hq, hg8, ⟨_, _, 1, 1, none, 0, 0, none, 0, 0, rfl, ex_one (hc6.le (h7.t h8|>.t hS2)) (hE5.le (h6.t h7|>.t h8|>.t hS2)) hu5 hn5, stms_nil _ _, stms_nil _ _, Nat.le_trans hx2 O⟩, rfl⟩
 simp only [cQ9, nQ9]
 rw [if_neg (bNe hb4)] at hq
 refine At Z Z <| Zz Z <| Sr <| Zqm Z Z <| Jc Z Z Z (acc_ac D [_, _] _ _ (hG.le (h1.t h2|>.t h3|>.t h4)) l t2 bp [91] hl hg2) ?_
 rintro _ _ s9 h9 ⟨_, (⟨hb9, rfl, rfl⟩ | ⟨hb9, rfl, rfl⟩), rfl⟩
 ·
  simp only [cQ9, nQ9]
  rw [if_pos hb9] at hq
  refine At Z Z <| Zy Z <| Sr <| W0 Y5 <| Wt 0 [_, _, _, _, _] Y9 <| Nt <| Sr <| Zqm Z Z <| ?_
  refine JO_callP (first := []) (captured := []) Z Z Z (CP.at_ (ihE 1) D [_, _] _ _ (hG.le (h1.t h2|>.t h3|>.t h4|>.t h9)) l (advP l t2) bp hl hg2.adv (and_out hq hr)) ?_ ?_
  ·
   rintro _ _ sx10 hx10 ⟨hp9, t9, he9, hg9, rfl⟩ fr9
   repeat (first | refine thenQ_p ?_ | refine blockQ_p ?_)
   refine retP_x [_, _] _ (List.Perm.refl _) (h1.t h2|>.t h3|>.t h4|>.t h9|>.t hx10) (fun sR hS2 => ?_)
   rw [he9] at hq
   exact ⟨hp9, t9, hq, hg9, rfl⟩
  rintro _ _ s10 h10 ⟨x10, t10, he10, hg10, ⟨d10, A10, n10, c10, rfl, hE10, hu10, hn10⟩, rfl⟩
  rw [he10] at hq
  simp only [PR.and] at hq
  simp only [cQ9, nQ9]
  refine JO_allocZ Z [_, _, _, _, _] Z Z ?_
  intro β11 s11 h11
  refine Wt 0 [_, _, _, _, _] Y9 <| Nt <| Sr <| Zqm Z Z <| JO_bs [(_, _), (_, _)] [_, _] Z Z Z Z Z Z Z Z Z ?_
  intro β12 s12 h12 hc12
  refine JO_callP (first := []) (captured := []) Z Z Z (exp_ap D _ _ (hG.le (h1.t h2|>.t h3|>.t h4|>.t h9|>.t h10|>.t h11|>.t h12)) l t10 bp hl hg10 [_, _, _] [[93], [61]] _ _ _ (str2 (hc12.le (Lr D)) (by decide)) ) ?_ ?_
  ·
   rintro _ _ sx13 hx13 ⟨hp9, t9, he9, hg9, rfl⟩ fr9
   repeat (first | refine thenQ_p ?_ | refine blockQ_p ?_)
   refine retP_x [_, _, _] _ (List.Perm.refl _) (h1.t h2|>.t h3|>.t h4|>.t h9|>.t h10|>.t h11|>.t h12|>.t hx13) (fun sR hS2 => ?_)
   rw [he9] at hq
   exact ⟨hp9, t9, hq, hg9, rfl⟩
  rintro _ _ s13 h13 ⟨_, t13, he13, hg13, _, rfl⟩
  rw [he13] at hq
  simp only [PR.and] at hq
  simp only [cQ9, nQ9]
  refine Nt <| JC_drawE drawsMixed 6 Z [3, 1] (by intro x hx; exact eraseAll_mem hx) ?_
  intro s14 h14
  refine za 0 Z (QE_ldA 0 [_, _, _, _, _] Z Z Z Z Z) Z <| za 1 Z (QE_mv Z) Z <| JA_1 2 V ?_
  refine JB_callP Z trivial (first := []) (captured := []) Z Z Z (CP.at_ (ihE 1) D [_, _, _] _ _ (hG.le (h1.t h2|>.t h3|>.t h4|>.t h9|>.t h10|>.t h11|>.t h12|>.t h13|>.t h14)) l t13 bp hl hg13 (and_out hq hr)) ?_ ?_
  ·
   rintro _ _ sx15 hx15 ⟨hp9, t9, he9, hg9, rfl⟩ fr9
   repeat (first | refine thenQ_p ?_ | refine blockQ_p ?_)
   refine retP_x [_, _, _] _ (List.Perm.refl _) (h1.t h2|>.t h3|>.t h4|>.t h9|>.t h10|>.t h11|>.t h12|>.t h13|>.t h14|>.t hx15) (fun sR hS2 => ?_)
   rw [he9] at hq
   exact ⟨hp9, t9, hq, hg9, rfl⟩
  rintro _ _ s15 h15 ⟨x15, t15, he15, hg15, ⟨d15, A15, n15, c15, rfl, hE15, hu15, hn15⟩, rfl⟩
  refine ⟨(fun x hx _ => (fun _ hx => sub_mem (sbY (sbN (sbY (sbN (sbE _))))) hx) x hx), ?_⟩
  rw [he15] at hq
  simp only [PR.and] at hq
  simp only [cQ9, nQ9]
  refine JA_1 3 V <| JB_bs Z trivial [(_, _), (_, _)] [_, _, _, _, _, _, _, _, _, _] Z Z Z Z Z Z Z Z Z ?_
  intro β16 s16 h16 hc16
  refine za 4 Z (We Y4) Z <| JA_1 5 V <| Wu Z trivial 1 [_, _, _, _, _] Y9 (fun _ hx => sub_mem (sbY (sbY (sbN (sbE _)))) hx) <| JA_done V <| Zb <| Zt <| Sr <| Zqm Z Z <| JO_bs [(_, _)] [_] Z Z Z Z Z Z Z Z Z ?_
  intro β17 s17 h17 hc17
  refine JO_callP (first := []) (captured := []) Z Z Z (exp_ap D _ _ (hG.le (h1.t h2|>.t h3|>.t h4|>.t h9|>.t h10|>.t h11|>.t h12|>.t h13|>.t h14|>.t h15|>.t h16|>.t h17)) l t15 bp hl hg15 [_, _, _] [[59]] _ _ _ (str1 (hc17.le (Lr D)) (by decide)) ) ?_ ?_
  ·
   rintro _ _ sx18 hx18 ⟨hp9, t9, he9, hg9, rfl⟩ fr9
   repeat (first | refine thenQ_p ?_ | refine blockQ_p ?_)
   refine retP_x [_, _, _] _ (List.Perm.refl _) (h1.t h2|>.t h3|>.t h4|>.t h9|>.t h10|>.t h11|>.t h12|>.t h13|>.t h14|>.t h15|>.t h16|>.t h17|>.t hx18) (fun sR hS2 => ?_)
   rw [he9] at hq
   exact ⟨hp9, t9, hq, hg9, rfl⟩
  rintro _ _ s18 h18 ⟨_, t18, he18, hg18, _, rfl⟩
  rw [he18] at hq
  simp only [PR.and] at hq
  simp only [cQ9, nQ9]
  refine Nt <| Sr <| JO_q (QE_ldA 1 [_, _, _, _, _] Z Z Z Z Z) Z <| Wt 2 [_, _, _, _, _] Y9 <| Nt <| Zo <| ?_
  refine retP_mk [_, _, _] _ (.inr Z) (.agg (us := [_, _, _, _, _]) 2 Z Z Z Z Z (.nil)) Z (h1.t h2|>.t h3|>.t h4|>.t h9|>.t h10|>.t h11|>.t h12|>.t h13|>.t h14|>.t h15|>.t h16|>.t h17|>.t h18) (fun sR hS2 => ?_)
  exact ⟨_, _, hq, hg18, ⟨_, _, 2, 2, none, 0, 0, none, 0, 0, rfl, ex_two (hc16.le (h17.t h18|>.t hS2)) (hE10.le (h11.t h12|>.t h13|>.t h14|>.t h15|>.t h16|>.t h17|>.t h18|>.t hS2)) hu10 hn10 (hE15.le (h16.t h17|>.t h18|>.t hS2)) hu15 hn15, stms_nil _ _, stms_nil _ _, Nat.le_trans hx2 O⟩, rfl⟩
 simp only [cQ9, nQ9]
 rw [if_neg (bNe hb9)] at hq
 refine At Z Z <| Zz Z <| Sr <| Zqm Z Z <| JO_bs [(_, _)] [_] Z Z Z Z Z Z Z Z Z ?_
 intro β19 s19 h19 hc19
 refine JO_callP (first := []) (captured := []) Z Z Z (exp_ap D _ _ (hG.le (h1.t h2|>.t h3|>.t h4|>.t h9|>.t h19)) l t2 bp hl hg2 [_, _] [[40]] _ _ _ (str1 (hc19.le (Lr D)) (by decide)) ) ?_ ?_
 ·
  rintro _ _ sx20 hx20 ⟨hp9, t9, he9, hg9, rfl⟩ fr9
  repeat (first | refine thenQ_p ?_ | refine blockQ_p ?_)
  refine retP_x [_, _] _ (List.Perm.refl _) (h1.t h2|>.t h3|>.t h4|>.t h9|>.t h19|>.t hx20) (fun sR hS2 => ?_)
  rw [he9] at hq
  exact ⟨hp9, t9, hq, hg9, rfl⟩
 rintro _ _ s20 h20 ⟨_, t20, he20, hg20, _, rfl⟩
 rw [he20] at hq
 simp only [PR.and] at hq
 simp only [cQ9, nQ9]
 refine Nt <| Zr <| Zqm Z Z <| ?_
 refine JO_callP (first := []) (captured := []) Z Z Z (CP.at_ (ihS) D [_, _] _ _ (hG.le (h1.t h2|>.t h3|>.t h4|>.t h9|>.t h19|>.t h20)) l t20 bp hl hg20 (and_out hq hr)) ?_ ?_
 ·
  rintro _ _ sx21 hx21 ⟨hp9, t9, he9, hg9, rfl⟩ fr9
  repeat (first | refine thenQ_p ?_ | refine blockQ_p ?_)
  refine retP_x [_, _] _ (List.Perm.refl _) (h1.t h2|>.t h3|>.t h4|>.t h9|>.t h19|>.t h20|>.t hx21) (fun sR hS2 => ?_)
  rw [he9] at hq
  exact ⟨hp9, t9, hq, hg9, rfl⟩
 rintro _ _ s21 h21 ⟨x21, t21, he21, hg21, ⟨d21, A21, n21, c21, rfl, hE21⟩, rfl⟩
 rw [he21] at hq
 simp only [PR.and] at hq
 simp only [cQ9, nQ9]
 refine W0 Y5 <| Wt 0 [_, _, _, _, _] Y9 <| Wb Y5 <| Wt 0 [_, _, _, _, _] Y9 <| Zn <| Zb <| Zt <| Sr <| Zqm Z Z <| JO_bs [(_, _)] [_] Z Z Z Z Z Z Z Z Z ?_
 intro β22 s22 h22 hc22
 refine JO_callP (first := []) (captured := []) Z Z Z (exp_ap D _ _ (hG.le (h1.t h2|>.t h3|>.t h4|>.t h9|>.t h19|>.t h20|>.t h21|>.t h22)) l t21 bp hl hg21 [_, _] [[59]] _ _ _ (str1 (hc22.le (Lr D)) (by decide)) ) ?_ ?_
 ·
  rintro _ _ sx23 hx23 ⟨hp9, t9, he9, hg9, rfl⟩ fr9
  repeat (first | refine thenQ_p ?_ | refine blockQ_p ?_)
  refine retP_x [_, _] _ (List.Perm.refl _) (h1.t h2|>.t h3|>.t h4|>.t h9|>.t h19|>.t h20|>.t h21|>.t h22|>.t hx23) (fun sR hS2 => ?_)
  rw [he9] at hq
  exact ⟨hp9, t9, hq, hg9, rfl⟩
 rintro _ _ s23 h23 ⟨_, t23, he23, hg23, _, rfl⟩
 rw [he23] at hq
 simp only [PR.and] at hq
 simp only [cQ9, nQ9]
 refine Nt <| Sr <| JO_q (QE_ldA 0 [_, _, _, _, _] Z Z Z Z Z) Z <| Wt 1 [_, _, _, _, _] Y9 <| Nt <| Zo <| ?_
 refine retP_mk [_, _] _ (.inr Z) (.agg (us := [_, _, _, _, _]) 1 Z Z Z Z Z (.nil)) Z (h1.t h2|>.t h3|>.t h4|>.t h9|>.t h19|>.t h20|>.t h21|>.t h22|>.t h23) (fun sR hS2 => ?_)
 exact ⟨_, _, hq, hg23, ⟨_, _, _, _, none, 0, 0, none, 0, 0, rfl, hE21.le (h22.t h23|>.t hS2), stms_nil _ _, stms_nil _ _, Nat.le_trans hx2 O⟩, rfl⟩
theorem st_one {s : World} {b d : Nat} {x : Stm} {A1 : Option Addr} {n1 c1 : Nat} {A2 : Option Addr} {n2 c2 : Nat} {A3 : Option Addr} {n3 c3 : Nat} (hc : CellsAt s b 0 [.int .i64 x.kind, St x.name, .slice A1 n1 c1, .slice A2 n2 c2, .slice A3 n3 c3]) (h1 : Exs d s A1 n1 c1 x.exprs) (h2 : Stms d s A2 n2 c2 x.body) (h3 : Stms d s A3 n3 c3 x.els) (hn : x.name.length ≤ 9223372036854775807) : Stms (d + 1) s (some ⟨b, 0, none⟩) 1 1 [x] :=
  Sl.lit [[_, _, _, _, _]] hc rfl (.cons (st_row h1 h2 h3 hn) .nil) 1 rfl O
theorem if_st (n : Nat) (ihC : CC n) (ihI : CI n) (ihR : CR n) : CP 148 [] (fun l t => pIf l (n + 1) t) StV := by
 intro D L s hG l t bp hl hg hr
 dsimp only at hr ⊢
 obtain ⟨r, hq⟩ : ∃ r, r = pIf l (n + 1) t := ⟨_, rfl⟩
 rw [← hq] at hr ⊢
 rw [pIf] at hq
 refine AP_enter (TT := TT) (fn := Tryz.f148) TT_ok Tryz.func148 V Z Tryz.ntmps148 Z (rs := [.cell 2 100]) Z [(0, _)] Z <| Sr <| JO_allocZ Z [_, _, _, _, _] Z Z ?_
 intro β1 s1 h1
 refine Nt <| Sr <| JO_q (QE_build [(_, _)] [_, _, _, _, _] Z Z Z Z Z Z) Z <| JO_allocZ Z [_, _, _, _, _] Z Z ?_
 intro β2 s2 h2
 refine Wt 0 [_, _, _, _, _] Y9 <| Nt <| Zs <| JC_front 2 <| Zr <| Zqm Z Z <| ?_
 refine JO_callP (first := []) (captured := []) Z Z Z (ihC D _ _ (hG.le (h1.t h2)) l t bp _ hl hg 3 [] none 0 0 none 0 0 none 0 0 (and_out hq hr)) ?_ ?_
 ·
  rintro _ _ sx3 hx3 ⟨hp9, t9, cs9, he9, hg9, rfl⟩ fr9
  repeat (first | refine thenQ_p ?_ | refine blockQ_p ?_)
  refine retP_x [_, _] _ (List.perm_middle (l₁ := [_, _])).symm (h1.t h2|>.t hx3) (fun sR hS2 => ?_)
  rw [he9] at hq
  exact ⟨hp9, t9, hq, hg9, rfl⟩
 rintro _ _ s3 h3 ⟨x3, b3, t3, A3, n3, c3, P3, p3, q3, d3, he3, hg3, rfl, hE3, hB3⟩
 rw [he3] at hq
 simp only [PR.and] at hq
 refine Nt <| Zs <| Sr <| Zqm Z Z <| Jc Z Z Z (acc_ac D [] _ _ (hG.le (h1.t h2|>.t h3)) l t3 bp [101, 108, 115, 101] hl hg3) ?_
 rintro _ _ s4 h4 ⟨_, (⟨hb4, rfl, rfl⟩ | ⟨hb4, rfl, rfl⟩), rfl⟩
 ·
  simp only [cQ9, nQ9]
  rw [if_pos hb4] at hq
  refine Nt <| Zy Z <| Sr <| Zqm Z Z <| Jc Z Z Z (acc_ac D [] _ _ (hG.le (h1.t h2|>.t h3|>.t h4)) l (advP l t3) bp [105, 102] hl hg3.adv) ?_
  rintro _ _ s5 h5 ⟨_, (⟨hb5, rfl, rfl⟩ | ⟨hb5, rfl, rfl⟩), rfl⟩
  ·
   simp only [cQ9, nQ9]
   rw [if_pos hb5] at hq
   refine Nt <| Zy Z <| Zr <| Zqm Z Z <| ?_
   refine JO_callP (first := []) (captured := []) Z Z Z (CP.at_ (ihI) D [] _ _ (hG.le (h1.t h2|>.t h3|>.t h4|>.t h5)) l (advP l (advP l t3)) bp hl hg3.adv.adv (and_out hq hr)) ?_ ?_
   ·
    rintro _ _ sx6 hx6 ⟨hp9, t9, he9, hg9, rfl⟩ fr9
    repeat (first | refine thenQ_p ?_ | refine blockQ_p ?_)
    refine retP_x [_, _] _ (List.perm_middle (l₁ := [_, _])).symm (h1.t h2|>.t h3|>.t h4|>.t h5|>.t hx6) (fun sR hS2 => ?_)
    rw [he9] at hq
    exact ⟨hp9, t9, hq, hg9, rfl⟩
   rintro _ _ s6 h6 ⟨x6, t6, he6, hg6, ⟨d6, P6, p6, o6, Q6, q6, u6, R6, m6, e6, rfl, hE6, hB6, hL6, hn6⟩, rfl⟩
   rw [he6] at hq
   simp only [PR.and] at hq
   simp only [cQ9, nQ9]
   refine JO_bs [(_, _)] [_, _, _, _, _] Z Z Z Z Z Z Z Z Z ?_
   intro β7 s7 h7 hc7
   refine Wb Y5 <| Wt 1 [_, _, _, _, _] Y9 <| Nt <| Zs <| JC_front 2 <| JC_front 2 <| Zr <| JO_q (QE_ldA 0 [_, _, _, _, _] Z Z Z Z Z) Z <| Wt 1 [_, _, _, _, _] Y9 <| Nt <| Zo <| ?_
   refine retP_mk [_, _] _ (.inr Z) (.agg (us := [_, _, _, _, _]) 1 Z Z Z Z Z (.nil)) Z (h1.t h2|>.t h3|>.t h4|>.t h5|>.t h6|>.t h7) (fun sR hS2 => ?_)
   exact ⟨_, _, hq, hg6, ⟨d3 + d6 + 1, A3, n3, c3, P3, p3, q3, _, 1, 1, rfl, (hE3.le (h4.t h5|>.t h6|>.t h7|>.t hS2)).up O, (hB3.le (h4.t h5|>.t h6|>.t h7|>.t hS2)).up O, (st_one (hc7.le ((Lr D).t hS2)) (hE6.le (h7.t hS2)) (hB6.le (h7.t hS2)) (hL6.le (h7.t hS2)) hn6).up O, nilz⟩, rfl⟩
  simp only [cQ9, nQ9]
  rw [if_neg (bNe hb5)] at hq
  refine Nt <| Zz Z <| Sr <| Zqm Z Z <| JO_bs [(_, _)] [_] Z Z Z Z Z Z Z Z Z ?_
  intro β8 s8 h8 hc8
  refine JO_callP (first := []) (captured := []) Z Z Z (exp_ap D _ _ (hG.le (h1.t h2|>.t h3|>.t h4|>.t h5|>.t h8)) l (advP l t3) bp hl hg3.adv [] [[123]] _ _ _ (str1 (hc8.le (Lr D)) (by decide)) ) ?_ ?_
  ·
   rintro _ _ sx9 hx9 ⟨hp9, t9, he9, hg9, rfl⟩ fr9
   repeat (first | refine thenQ_p ?_ | refine blockQ_p ?_)
   refine retP_x [_, _] _ (List.perm_middle (l₁ := [_, _])).symm (h1.t h2|>.t h3|>.t h4|>.t h5|>.t h8|>.t hx9) (fun sR hS2 => ?_)
   rw [he9] at hq
   exact ⟨hp9, t9, hq, hg9, rfl⟩
  rintro _ _ s9 h9 ⟨_, t9, he9, hg9, _, rfl⟩
  rw [he9] at hq
  simp only [PR.and] at hq
  simp only [cQ9, nQ9]
  refine Nt <| Zr <| Zqm Z Z <| ?_
  refine JO_callP (first := []) (captured := []) Z Z Z (CP.at_ (ihR) D [] _ _ (hG.le (h1.t h2|>.t h3|>.t h4|>.t h5|>.t h8|>.t h9)) l t9 bp hl hg9 (and_out hq hr)) ?_ ?_
  ·
   rintro _ _ sx10 hx10 ⟨hp9, t9, he9, hg9, rfl⟩ fr9
   repeat (first | refine thenQ_p ?_ | refine blockQ_p ?_)
   refine retP_x [_, _] _ (List.perm_middle (l₁ := [_, _])).symm (h1.t h2|>.t h3|>.t h4|>.t h5|>.t h8|>.t h9|>.t hx10) (fun sR hS2 => ?_)
   rw [he9] at hq
   exact ⟨hp9, t9, hq, hg9, rfl⟩
  rintro _ _ s10 h10 ⟨x10, t10, he10, hg10, ⟨d10, A10, n10, c10, rfl, hE10⟩, rfl⟩
  rw [he10] at hq
  simp only [PR.and] at hq
  simp only [cQ9, nQ9]
  refine Wb Y5 <| Wt 1 [_, _, _, _, _] Y9 <| Nt <| Zs <| JC_front 2 <| JC_front 2 <| Zr <| JO_q (QE_ldA 0 [_, _, _, _, _] Z Z Z Z Z) Z <| Wt 1 [_, _, _, _, _] Y9 <| Nt <| Zo <| ?_
  refine retP_mk [_, _] _ (.inr Z) (.agg (us := [_, _, _, _, _]) 1 Z Z Z Z Z (.nil)) Z (h1.t h2|>.t h3|>.t h4|>.t h5|>.t h8|>.t h9|>.t h10) (fun sR hS2 => ?_)
  exact ⟨_, _, hq, hg10, ⟨d3 + d10, A3, n3, c3, P3, p3, q3, A10, n10, c10, rfl, (hE3.le (h4.t h5|>.t h8|>.t h9|>.t h10|>.t hS2)).up O, (hB3.le (h4.t h5|>.t h8|>.t h9|>.t h10|>.t hS2)).up O, (hE10.le ((Lr D).t hS2)).up O, nilz⟩, rfl⟩
 simp only [cQ9, nQ9]
 rw [if_neg (bNe hb4)] at hq
 refine Nt <| Zz Z <| Zk <| Zt <| Zs <| JC_front 2 <| JC_front 2 <| Zr <| JO_q (QE_ldA 0 [_, _, _, _, _] Z Z Z Z Z) Z <| Wt 1 [_, _, _, _, _] Y9 <| Nt <| Zo <| ?_
 refine retP_mk [_, _] _ (.inr Z) (.agg (us := [_, _, _, _, _]) 1 Z Z Z Z Z (.nil)) Z (h1.t h2|>.t h3|>.t h4) (fun sR hS2 => ?_)
 exact ⟨_, _, hq, hg3, ⟨d3, A3, n3, c3, P3, p3, q3, none, 0, 0, rfl, (hE3.le (h4.t hS2)).up O, (hB3.le (h4.t hS2)).up O, stms_nil _ _, nilz⟩, rfl⟩
theorem stm_st (n : Nat) (ihE : CE n) (ihN : CP 147 [] (fun l t => pNmd l n t) StV) (ihC : CC n) (ihI : CI n) : CP 120 [] (fun l t => pStm l (n + 1) t) StV := by
 intro D L s hG l t bp hl hg hr
 dsimp only at hr ⊢
 obtain ⟨r, hq⟩ : ∃ r, r = pStm l (n + 1) t := ⟨_, rfl⟩
 rw [← hq] at hr ⊢
 rw [pStm] at hq
 refine AP_enter (TT := TT) (fn := Tryz.f120) TT_ok Tryz.func120 V Z Tryz.ntmps120 Z (rs := [.cell 2 100]) Z [(0, _)] Z <| Sr <| JO_allocZ Z [_, _, _, _, _] Z Z ?_
 intro β1 s1 h1
 refine Nt <| Sr <| JO_allocZ Z [_, _, _, _, _] Z Z ?_
 intro β2 s2 h2
 refine Nt <| Zs <| Zp <| Sr <| Zqm Z Z <| Jc Z Z Z (isNm_ac D [_, _] _ _ (hG.le (h1.t h2)) l t bp) ?_
 rintro _ _ s3 h3 ⟨_, ⟨rfl, (⟨hb3, rfl⟩ | ⟨hb3, rfl⟩)⟩, rfl⟩
 ·
  simp only [cQ9, nQ9]
  rw [if_pos hb3] at hq
  replace hq : r = pNmd l n t := by rw [hq, pNmd, nameP, if_pos hb3]; rfl
  refine At Z Z <| Zy Z <| Sr <| Zqm Z Z <| ?_
  refine JO_callP (first := []) (captured := []) Z Z Z (CP.at_ (ihN) D [_, _] _ _ (hG.le (h1.t h2|>.t h3)) l t bp hl hg (hq ▸ hr)) ?_ ?_
  ·
   rintro _ _ sx4 hx4 ⟨hp9, t9, he9, hg9, rfl⟩ fr9
   repeat (first | refine thenQ_p ?_ | refine blockQ_p ?_)
   refine retP_x [_, _] _ (List.Perm.refl _) (h1.t h2|>.t h3|>.t hx4) (fun sR hS2 => ?_)
   rw [he9] at hq
   exact ⟨hp9, t9, hq, hg9, rfl⟩
  rintro _ _ s4 h4 ⟨x4, t4, he4, hg4, ⟨d4, P4, p4, o4, Q4, q4, u4, R4, m4, e4, rfl, hE4, hB4, hL4, hn4⟩, rfl⟩
  rw [he4] at hq
  simp only [cQ9, nQ9]
  refine Wt 1 [_, _, _, _, _] Y9 <| Nt <| Zo <| Zc <| Zu <| ?_
  refine retP_mk [_, _] _ (.inr Z) (.agg (us := [_, _, _, _, _]) 1 Z Z Z Z Z (.nil)) Z (h1.t h2|>.t h3|>.t h4) (fun sR hS2 => ?_)
  exact ⟨_, _, hq, hg4, ⟨d4, P4, p4, o4, Q4, q4, u4, R4, m4, e4, rfl, hE4.le ((Lr D).t hS2), hB4.le ((Lr D).t hS2), hL4.le ((Lr D).t hS2), hn4⟩, rfl⟩
 simp only [cQ9, nQ9]
 rw [if_neg (bNe hb3)] at hq
 refine At Z Z <| Zz Z <| Sr <| Zqm Z Z <| Jc Z Z Z (acc_ac D [_, _] _ _ (hG.le (h1.t h2|>.t h3)) l t bp [105, 102] hl hg) ?_
 rintro _ _ s5 h5 ⟨_, (⟨hb5, rfl, rfl⟩ | ⟨hb5, rfl, rfl⟩), rfl⟩
 ·
  simp only [cQ9, nQ9]
  rw [if_pos hb5] at hq
  refine At Z Z <| Zy Z <| Sr <| Zqm Z Z <| ?_
  refine JO_callP (first := []) (captured := []) Z Z Z (CP.at_ (ihI) D [_, _] _ _ (hG.le (h1.t h2|>.t h3|>.t h5)) l (advP l t) bp hl hg.adv (hq ▸ hr)) ?_ ?_
  ·
   rintro _ _ sx6 hx6 ⟨hp9, t9, he9, hg9, rfl⟩ fr9
   repeat (first | refine thenQ_p ?_ | refine blockQ_p ?_)
   refine retP_x [_, _] _ (List.Perm.refl _) (h1.t h2|>.t h3|>.t h5|>.t hx6) (fun sR hS2 => ?_)
   rw [he9] at hq
   exact ⟨hp9, t9, hq, hg9, rfl⟩
  rintro _ _ s6 h6 ⟨x6, t6, he6, hg6, ⟨d6, P6, p6, o6, Q6, q6, u6, R6, m6, e6, rfl, hE6, hB6, hL6, hn6⟩, rfl⟩
  rw [he6] at hq
  simp only [cQ9, nQ9]
  refine Wt 1 [_, _, _, _, _] Y9 <| Nt <| Zo <| Zc <| Zu <| ?_
  refine retP_mk [_, _] _ (.inr Z) (.agg (us := [_, _, _, _, _]) 1 Z Z Z Z Z (.nil)) Z (h1.t h2|>.t h3|>.t h5|>.t h6) (fun sR hS2 => ?_)
  exact ⟨_, _, hq, hg6, ⟨d6, P6, p6, o6, Q6, q6, u6, R6, m6, e6, rfl, hE6.le ((Lr D).t hS2), hB6.le ((Lr D).t hS2), hL6.le ((Lr D).t hS2), hn6⟩, rfl⟩
 simp only [cQ9, nQ9]
 rw [if_neg (bNe hb5)] at hq
 refine At Z Z <| Zz Z <| Sr <| Zqm Z Z <| Jc Z Z Z (acc_ac D [_, _] _ _ (hG.le (h1.t h2|>.t h3|>.t h5)) l t bp [119, 104, 105, 108, 101] hl hg) ?_
 rintro _ _ s7 h7 ⟨_, (⟨hb7, rfl, rfl⟩ | ⟨hb7, rfl, rfl⟩), rfl⟩
 ·
  simp only [cQ9, nQ9]
  rw [if_pos hb7] at hq
  refine At Z Z <| Zy Z <| Sr <| W0 Y5 <| Wt 0 [_, _, _, _, _] Y9 <| Nt <| Zs <| JC_front 2 <| Zr <| Zqm Z Z <| ?_
  refine JO_callP (first := []) (captured := []) Z Z Z (ihC D _ _ (hG.le (h1.t h2|>.t h3|>.t h5|>.t h7)) l (advP l t) bp _ hl hg.adv 4 [] none 0 0 none 0 0 none 0 0 (and_out hq hr)) ?_ ?_
  ·
   rintro _ _ sx8 hx8 ⟨hp9, t9, cs9, he9, hg9, rfl⟩ fr9
   repeat (first | refine thenQ_p ?_ | refine blockQ_p ?_)
   refine retP_x [_, _] _ (List.perm_middle (l₁ := [_, _])).symm (h1.t h2|>.t h3|>.t h5|>.t h7|>.t hx8) (fun sR hS2 => ?_)
   rw [he9] at hq
   exact ⟨hp9, t9, hq, hg9, rfl⟩
  rintro _ _ s8 h8 ⟨x8, b8, t8, A8, n8, c8, P8, p8, q8, d8, he8, hg8, rfl, hE8, hB8⟩
  rw [he8] at hq
  simp only [PR.and] at hq
  refine Nt <| Zs <| JC_front 2 <| JC_front 2 <| Zr <| JO_q (QE_ldA 0 [_, _, _, _, _] Z Z Z Z Z) Z <| Wt 1 [_, _, _, _, _] Y9 <| Nt <| Zo <| Zc <| Zu <| ?_
  refine retP_mk [_, _] _ (.inr Z) (.agg (us := [_, _, _, _, _]) 1 Z Z Z Z Z (.nil)) Z (h1.t h2|>.t h3|>.t h5|>.t h7|>.t h8) (fun sR hS2 => ?_)
  exact ⟨_, _, hq, hg8, ⟨d8, A8, n8, c8, P8, p8, q8, none, 0, 0, rfl, (hE8.le ((Lr D).t hS2)).up O, (hB8.le ((Lr D).t hS2)).up O, stms_nil _ _, nilz⟩, rfl⟩
 simp only [cQ9, nQ9]
 rw [if_neg (bNe hb7)] at hq
 refine At Z Z <| Zz Z <| Sr <| Zqm Z Z <| Jc Z Z Z (acc_ac D [_, _] _ _ (hG.le (h1.t h2|>.t h3|>.t h5|>.t h7)) l t bp [114, 101, 116, 117, 114, 110] hl hg) ?_
 rintro _ _ s9 h9 ⟨_, (⟨hb9, rfl, rfl⟩ | ⟨hb9, rfl, rfl⟩), rfl⟩
 ·
  simp only [cQ9, nQ9]
  rw [if_pos hb9] at hq
  refine At Z Z <| Zy Z <| Zr <| Zqm Z Z <| ?_
  refine JO_callP (first := []) (captured := []) Z Z Z (CP.at_ (ihE 1) D [_, _] _ _ (hG.le (h1.t h2|>.t h3|>.t h5|>.t h7|>.t h9)) l (advP l t) bp hl hg.adv (and_out hq hr)) ?_ ?_
  ·
   rintro _ _ sx10 hx10 ⟨hp9, t9, he9, hg9, rfl⟩ fr9
   repeat (first | refine thenQ_p ?_ | refine blockQ_p ?_)
   refine retP_x [_, _] _ (List.Perm.refl _) (h1.t h2|>.t h3|>.t h5|>.t h7|>.t h9|>.t hx10) (fun sR hS2 => ?_)
   rw [he9] at hq
   exact ⟨hp9, t9, hq, hg9, rfl⟩
  rintro _ _ s10 h10 ⟨x10, t10, he10, hg10, ⟨d10, A10, n10, c10, rfl, hE10, hu10, hn10⟩, rfl⟩
  rw [he10] at hq
  simp only [PR.and] at hq
  simp only [cQ9, nQ9]
  refine JO_bs [(_, _)] [_, _, _, _, _] Z Z Z Z Z Z Z Z Z ?_
  intro β11 s11 h11 hc11
  refine W0 Y5 <| Wt 0 [_, _, _, _, _] Y9 <| Wb Y5 <| Wt 0 [_, _, _, _, _] Y9 <| Zn <| Zb <| Zt <| Sr <| Zqm Z Z <| JO_bs [(_, _)] [_] Z Z Z Z Z Z Z Z Z ?_
  intro β12 s12 h12 hc12
  refine JO_callP (first := []) (captured := []) Z Z Z (exp_ap D _ _ (hG.le (h1.t h2|>.t h3|>.t h5|>.t h7|>.t h9|>.t h10|>.t h11|>.t h12)) l t10 bp hl hg10 [_, _] [[59]] _ _ _ (str1 (hc12.le (Lr D)) (by decide)) ) ?_ ?_
  ·
   rintro _ _ sx13 hx13 ⟨hp9, t9, he9, hg9, rfl⟩ fr9
   repeat (first | refine thenQ_p ?_ | refine blockQ_p ?_)
   refine retP_x [_, _] _ (List.Perm.refl _) (h1.t h2|>.t h3|>.t h5|>.t h7|>.t h9|>.t h10|>.t h11|>.t h12|>.t hx13) (fun sR hS2 => ?_)
   rw [he9] at hq
   exact ⟨hp9, t9, hq, hg9, rfl⟩
  rintro _ _ s13 h13 ⟨_, t13, he13, hg13, _, rfl⟩
  rw [he13] at hq
  simp only [PR.and] at hq
  simp only [cQ9, nQ9]
  refine Nt <| Sr <| JO_q (QE_ldA 0 [_, _, _, _, _] Z Z Z Z Z) Z <| Wt 1 [_, _, _, _, _] Y9 <| Nt <| Zo <| ?_
  refine retP_mk [_, _] _ (.inr Z) (.agg (us := [_, _, _, _, _]) 1 Z Z Z Z Z (.nil)) Z (h1.t h2|>.t h3|>.t h5|>.t h7|>.t h9|>.t h10|>.t h11|>.t h12|>.t h13) (fun sR hS2 => ?_)
  exact ⟨_, _, hq, hg13, ⟨_, _, 1, 1, none, 0, 0, none, 0, 0, rfl, ex_one (hc11.le (h12.t h13|>.t hS2)) (hE10.le (h11.t h12|>.t h13|>.t hS2)) hu10 hn10, stms_nil _ _, stms_nil _ _, nilz⟩, rfl⟩
 simp only [cQ9, nQ9]
 rw [if_neg (bNe hb9)] at hq
 refine At Z Z <| Zz Z <| Sr <| Zqm Z Z <| Jc Z Z Z (acc_ac D [_, _] _ _ (hG.le (h1.t h2|>.t h3|>.t h5|>.t h7|>.t h9)) l t bp [112, 117, 116] hl hg) ?_
 rintro _ _ s14 h14 ⟨_, (⟨hb14, rfl, rfl⟩ | ⟨hb14, rfl, rfl⟩), rfl⟩
 ·
  simp only [cQ9, nQ9]
  rw [if_pos hb14] at hq
  refine At Z Z <| Zy Z <| Zr <| Zqm Z Z <| ?_
  refine JO_callP (first := []) (captured := []) Z Z Z (CP.at_ (ihE 1) D [_, _] _ _ (hG.le (h1.t h2|>.t h3|>.t h5|>.t h7|>.t h9|>.t h14)) l (advP l t) bp hl hg.adv (and_out hq hr)) ?_ ?_
  ·
   rintro _ _ sx15 hx15 ⟨hp9, t9, he9, hg9, rfl⟩ fr9
   repeat (first | refine thenQ_p ?_ | refine blockQ_p ?_)
   refine retP_x [_, _] _ (List.Perm.refl _) (h1.t h2|>.t h3|>.t h5|>.t h7|>.t h9|>.t h14|>.t hx15) (fun sR hS2 => ?_)
   rw [he9] at hq
   exact ⟨hp9, t9, hq, hg9, rfl⟩
  rintro _ _ s15 h15 ⟨x15, t15, he15, hg15, ⟨d15, A15, n15, c15, rfl, hE15, hu15, hn15⟩, rfl⟩
  rw [he15] at hq
  simp only [PR.and] at hq
  simp only [cQ9, nQ9]
  refine JO_bs [(_, _)] [_, _, _, _, _] Z Z Z Z Z Z Z Z Z ?_
  intro β16 s16 h16 hc16
  refine W0 Y5 <| Wt 0 [_, _, _, _, _] Y9 <| Wb Y5 <| Wt 0 [_, _, _, _, _] Y9 <| Zn <| Zb <| Zt <| Sr <| Zqm Z Z <| JO_bs [(_, _)] [_] Z Z Z Z Z Z Z Z Z ?_
  intro β17 s17 h17 hc17
  refine JO_callP (first := []) (captured := []) Z Z Z (exp_ap D _ _ (hG.le (h1.t h2|>.t h3|>.t h5|>.t h7|>.t h9|>.t h14|>.t h15|>.t h16|>.t h17)) l t15 bp hl hg15 [_, _] [[59]] _ _ _ (str1 (hc17.le (Lr D)) (by decide)) ) ?_ ?_
  ·
   rintro _ _ sx18 hx18 ⟨hp9, t9, he9, hg9, rfl⟩ fr9
   repeat (first | refine thenQ_p ?_ | refine blockQ_p ?_)
   refine retP_x [_, _] _ (List.Perm.refl _) (h1.t h2|>.t h3|>.t h5|>.t h7|>.t h9|>.t h14|>.t h15|>.t h16|>.t h17|>.t hx18) (fun sR hS2 => ?_)
   rw [he9] at hq
   exact ⟨hp9, t9, hq, hg9, rfl⟩
  rintro _ _ s18 h18 ⟨_, t18, he18, hg18, _, rfl⟩
  rw [he18] at hq
  simp only [PR.and] at hq
  simp only [cQ9, nQ9]
  refine Nt <| Sr <| JO_q (QE_ldA 0 [_, _, _, _, _] Z Z Z Z Z) Z <| Wt 1 [_, _, _, _, _] Y9 <| Nt <| Zo <| ?_
  refine retP_mk [_, _] _ (.inr Z) (.agg (us := [_, _, _, _, _]) 1 Z Z Z Z Z (.nil)) Z (h1.t h2|>.t h3|>.t h5|>.t h7|>.t h9|>.t h14|>.t h15|>.t h16|>.t h17|>.t h18) (fun sR hS2 => ?_)
  exact ⟨_, _, hq, hg18, ⟨_, _, 1, 1, none, 0, 0, none, 0, 0, rfl, ex_one (hc16.le (h17.t h18|>.t hS2)) (hE15.le (h16.t h17|>.t h18|>.t hS2)) hu15 hn15, stms_nil _ _, stms_nil _ _, nilz⟩, rfl⟩
 simp only [cQ9, nQ9]
 rw [if_neg (bNe hb14)] at hq
 refine At Z Z <| Zz Z <| Sr <| Zqm Z Z <| Jc Z Z Z (acc_ac D [_, _] _ _ (hG.le (h1.t h2|>.t h3|>.t h5|>.t h7|>.t h9|>.t h14)) l t bp [115, 116, 111, 112] hl hg) ?_
 rintro _ _ s19 h19 ⟨_, (⟨hb19, rfl, rfl⟩ | ⟨hb19, rfl, rfl⟩), rfl⟩
 ·
  simp only [cQ9, nQ9]
  rw [if_pos hb19] at hq
  refine At Z Z <| Zy Z <| Zr <| Zqm Z Z <| ?_
  refine JO_callP (first := []) (captured := []) Z Z Z (CP.at_ (ihE 1) D [_, _] _ _ (hG.le (h1.t h2|>.t h3|>.t h5|>.t h7|>.t h9|>.t h14|>.t h19)) l (advP l t) bp hl hg.adv (and_out hq hr)) ?_ ?_
  ·
   rintro _ _ sx20 hx20 ⟨hp9, t9, he9, hg9, rfl⟩ fr9
   repeat (first | refine thenQ_p ?_ | refine blockQ_p ?_)
   refine retP_x [_, _] _ (List.Perm.refl _) (h1.t h2|>.t h3|>.t h5|>.t h7|>.t h9|>.t h14|>.t h19|>.t hx20) (fun sR hS2 => ?_)
   rw [he9] at hq
   exact ⟨hp9, t9, hq, hg9, rfl⟩
  rintro _ _ s20 h20 ⟨x20, t20, he20, hg20, ⟨d20, A20, n20, c20, rfl, hE20, hu20, hn20⟩, rfl⟩
  rw [he20] at hq
  simp only [PR.and] at hq
  simp only [cQ9, nQ9]
  refine JO_bs [(_, _)] [_, _, _, _, _] Z Z Z Z Z Z Z Z Z ?_
  intro β21 s21 h21 hc21
  refine W0 Y5 <| Wt 0 [_, _, _, _, _] Y9 <| Wb Y5 <| Wt 0 [_, _, _, _, _] Y9 <| Zn <| Zb <| Zt <| Sr <| Zqm Z Z <| JO_bs [(_, _)] [_] Z Z Z Z Z Z Z Z Z ?_
  intro β22 s22 h22 hc22
  refine JO_callP (first := []) (captured := []) Z Z Z (exp_ap D _ _ (hG.le (h1.t h2|>.t h3|>.t h5|>.t h7|>.t h9|>.t h14|>.t h19|>.t h20|>.t h21|>.t h22)) l t20 bp hl hg20 [_, _] [[59]] _ _ _ (str1 (hc22.le (Lr D)) (by decide)) ) ?_ ?_
  ·
   rintro _ _ sx23 hx23 ⟨hp9, t9, he9, hg9, rfl⟩ fr9
   repeat (first | refine thenQ_p ?_ | refine blockQ_p ?_)
   refine retP_x [_, _] _ (List.Perm.refl _) (h1.t h2|>.t h3|>.t h5|>.t h7|>.t h9|>.t h14|>.t h19|>.t h20|>.t h21|>.t h22|>.t hx23) (fun sR hS2 => ?_)
   rw [he9] at hq
   exact ⟨hp9, t9, hq, hg9, rfl⟩
  rintro _ _ s23 h23 ⟨_, t23, he23, hg23, _, rfl⟩
  rw [he23] at hq
  simp only [PR.and] at hq
  simp only [cQ9, nQ9]
  refine Nt <| Sr <| JO_q (QE_ldA 0 [_, _, _, _, _] Z Z Z Z Z) Z <| Wt 1 [_, _, _, _, _] Y9 <| Nt <| Zo <| ?_
  refine retP_mk [_, _] _ (.inr Z) (.agg (us := [_, _, _, _, _]) 1 Z Z Z Z Z (.nil)) Z (h1.t h2|>.t h3|>.t h5|>.t h7|>.t h9|>.t h14|>.t h19|>.t h20|>.t h21|>.t h22|>.t h23) (fun sR hS2 => ?_)
  exact ⟨_, _, hq, hg23, ⟨_, _, 1, 1, none, 0, 0, none, 0, 0, rfl, ex_one (hc21.le (h22.t h23|>.t hS2)) (hE20.le (h21.t h22|>.t h23|>.t hS2)) hu20 hn20, stms_nil _ _, stms_nil _ _, nilz⟩, rfl⟩
 simp only [cQ9, nQ9]
 rw [if_neg (bNe hb19)] at hq
 refine At Z Z <| Zz Z <| Sr <| Zqm Z Z <| Jc Z Z Z (acc_ac D [_, _] _ _ (hG.le (h1.t h2|>.t h3|>.t h5|>.t h7|>.t h9|>.t h14|>.t h19)) l t bp [98, 114, 101, 97, 107] hl hg) ?_
 rintro _ _ s24 h24 ⟨_, (⟨hb24, rfl, rfl⟩ | ⟨hb24, rfl, rfl⟩), rfl⟩
 ·
  simp only [cQ9, nQ9]
  rw [if_pos hb24] at hq
  refine At Z Z <| Zy Z <| Zr <| W0 Y5 <| Wt 0 [_, _, _, _, _] Y9 <| Zn <| Zb <| Zt <| Sr <| Zqm Z Z <| JO_bs [(_, _)] [_] Z Z Z Z Z Z Z Z Z ?_
  intro β25 s25 h25 hc25
  refine JO_callP (first := []) (captured := []) Z Z Z (exp_ap D _ _ (hG.le (h1.t h2|>.t h3|>.t h5|>.t h7|>.t h9|>.t h14|>.t h19|>.t h24|>.t h25)) l (advP l t) bp hl hg.adv [_, _] [[59]] _ _ _ (str1 (hc25.le (Lr D)) (by decide)) ) ?_ ?_
  ·
   rintro _ _ sx26 hx26 ⟨hp9, t9, he9, hg9, rfl⟩ fr9
   repeat (first | refine thenQ_p ?_ | refine blockQ_p ?_)
   refine retP_x [_, _] _ (List.Perm.refl _) (h1.t h2|>.t h3|>.t h5|>.t h7|>.t h9|>.t h14|>.t h19|>.t h24|>.t h25|>.t hx26) (fun sR hS2 => ?_)
   rw [he9] at hq
   exact ⟨hp9, t9, hq, hg9, rfl⟩
  rintro _ _ s26 h26 ⟨_, t26, he26, hg26, _, rfl⟩
  rw [he26] at hq
  simp only [PR.and] at hq
  simp only [cQ9, nQ9]
  refine Nt <| Sr <| JO_q (QE_ldA 0 [_, _, _, _, _] Z Z Z Z Z) Z <| Wt 1 [_, _, _, _, _] Y9 <| Nt <| Zo <| ?_
  refine retP_mk [_, _] _ (.inr Z) (.agg (us := [_, _, _, _, _]) 1 Z Z Z Z Z (.nil)) Z (h1.t h2|>.t h3|>.t h5|>.t h7|>.t h9|>.t h14|>.t h19|>.t h24|>.t h25|>.t h26) (fun sR hS2 => ?_)
  exact ⟨_, _, hq, hg26, ⟨0, none, 0, 0, none, 0, 0, none, 0, 0, rfl, exs_nil _ _, stms_nil _ _, stms_nil _ _, nilz⟩, rfl⟩
 simp only [cQ9, nQ9]
 rw [if_neg (bNe hb24)] at hq
 refine At Z Z <| Zz Z <| Sr <| Zqm Z Z <| Jc Z Z Z (acc_ac D [_, _] _ _ (hG.le (h1.t h2|>.t h3|>.t h5|>.t h7|>.t h9|>.t h14|>.t h19|>.t h24)) l t bp [99, 111, 110, 116, 105, 110, 117, 101] hl hg) ?_
 rintro _ _ s27 h27 ⟨_, (⟨hb27, rfl, rfl⟩ | ⟨hb27, rfl, rfl⟩), rfl⟩
 ·
  simp only [cQ9, nQ9]
  rw [if_pos hb27] at hq
  refine At Z Z <| Zy Z <| Zr <| W0 Y5 <| Wt 0 [_, _, _, _, _] Y9 <| Zn <| Zb <| Zt <| Sr <| Zqm Z Z <| JO_bs [(_, _)] [_] Z Z Z Z Z Z Z Z Z ?_
  intro β28 s28 h28 hc28
  refine JO_callP (first := []) (captured := []) Z Z Z (exp_ap D _ _ (hG.le (h1.t h2|>.t h3|>.t h5|>.t h7|>.t h9|>.t h14|>.t h19|>.t h24|>.t h27|>.t h28)) l (advP l t) bp hl hg.adv [_, _] [[59]] _ _ _ (str1 (hc28.le (Lr D)) (by decide)) ) ?_ ?_
  ·
   rintro _ _ sx29 hx29 ⟨hp9, t9, he9, hg9, rfl⟩ fr9
   repeat (first | refine thenQ_p ?_ | refine blockQ_p ?_)
   refine retP_x [_, _] _ (List.Perm.refl _) (h1.t h2|>.t h3|>.t h5|>.t h7|>.t h9|>.t h14|>.t h19|>.t h24|>.t h27|>.t h28|>.t hx29) (fun sR hS2 => ?_)
   rw [he9] at hq
   exact ⟨hp9, t9, hq, hg9, rfl⟩
  rintro _ _ s29 h29 ⟨_, t29, he29, hg29, _, rfl⟩
  rw [he29] at hq
  simp only [PR.and] at hq
  simp only [cQ9, nQ9]
  refine Nt <| Sr <| JO_q (QE_ldA 0 [_, _, _, _, _] Z Z Z Z Z) Z <| Wt 1 [_, _, _, _, _] Y9 <| Nt <| Zo <| ?_
  refine retP_mk [_, _] _ (.inr Z) (.agg (us := [_, _, _, _, _]) 1 Z Z Z Z Z (.nil)) Z (h1.t h2|>.t h3|>.t h5|>.t h7|>.t h9|>.t h14|>.t h19|>.t h24|>.t h27|>.t h28|>.t h29) (fun sR hS2 => ?_)
  exact ⟨_, _, hq, hg29, ⟨0, none, 0, 0, none, 0, 0, none, 0, 0, rfl, exs_nil _ _, stms_nil _ _, stms_nil _ _, nilz⟩, rfl⟩
 simp only [cQ9, nQ9]
 rw [if_neg (bNe hb27)] at hq
 refine At Z Z <| Zz Z <| Zr <| JO_q (QE_bldE V V) Z <| JO_q (QE_mif V Z) Z ?_
 refine JO_panic Z (fun fr9 => ?_)
 repeat (first | refine thenQ_p ?_ | refine blockQ_p ?_)
 refine retP_x [_, _] _ (List.Perm.refl _) (h1.t h2|>.t h3|>.t h5|>.t h7|>.t h9|>.t h14|>.t h19|>.t h24|>.t h27) (fun sR hS2 => ?_)
 exact ⟨⟨_, _, rfl⟩, t, hq, hg, rfl⟩
theorem stm_all (n : Nat) : n ≤ 1000000 → CR n ∧ CC n ∧ CI n ∧ CT n := by
  induction n using Nat.strongRecOn with
  | _ n ih =>
    intro hN
    have hR : CR n := rest_st n hN fun j hj => (ih j hj O).2.2.2
    cases n with
    | zero => exact ⟨hR, fun D L s hG l t bp bx hl hg kd nm A0 n0 c0 A1 n1 c1 A2 n2 c2 hr => absurd (show pCond l 0 t = .out by simp only [pCond]) hr, fun D L s hG l t bp hl hg hr => absurd (show pIf l 0 t = .out by simp only [pIf]) hr, fun D L s hG l t bp hl hg hr => absurd (show pStm l 0 t = .out by simp only [pStm]) hr⟩
    | succ n =>
      have h := ih n (Nat.lt_succ_self n) O
      have he := expr_all n O
      exact ⟨hR, cond_st n he.1 h.1, if_st n h.2.1 h.2.2.1 h.1, stm_st n he.1 (named_st n he.1 he.2.2) h.2.1 h.2.2.1⟩
theorem wv_snoc (w : List Int) (x : Int) : wv (w ++ [x]) = wv w ++ [.int .u32 x] := by simp [wv]
theorem pm2 {a x y z : Nat × Obj} {M L : Hl} : (a :: x :: y :: (M ++ (z :: L))).Perm ((x :: y :: (M ++ [z])) ++ a :: L) := by
  have := (List.perm_middle (l₁ := x :: y :: (M ++ [z])) (a := a) (l₂ := L)).symm
  simpa using this
theorem pm3 {a x y : Nat × Obj} {M N L : Hl} : (x :: y :: a :: (M ++ (N ++ L))).Perm ((x :: y :: (M ++ N)) ++ a :: L) := by
  have := (List.perm_middle (l₁ := M ++ N) (a := a) (l₂ := L)).symm
  simpa using (this.cons y).cons x
theorem glo1_ap (D : Nat) (L : Hl) (s : World) (hG : GP s) (l : List UInt8) (t : PS) (bp bg b1 : Nat) (hl : l.length ≤ 12000) (hg : PG l t) (u0 u1 u2 v : Value) (xs : List Int) (M : Hl) (hO : FL.Own 40 1 M v xs.length (wv xs)) (hx : xs.length ≤ 1000000) : AP Tryz.prog D 98 [.pointer (some ⟨bg, 0, none⟩), .pointer (some ⟨b1, 0, none⟩)] (psB bp l t :: (bg, cb [u0, u1, u2, v] 52) :: (b1, cb [.pointer (some ⟨bp, 0, none⟩)] 65) :: (M ++ L)) s (fun _ L' _ => ∃ x t' v' M', numbP l t = .ok x t' ∧ PG l t' ∧ L' = psB bp l t' :: (bg, cb [u0, u1, u2, v'] 52) :: (b1, cb [.pointer (some ⟨bp, 0, none⟩)] 65) :: (M' ++ L) ∧ FL.Own 40 1 M' v' (xs ++ [x]).length (wv (xs ++ [x])) ∧ U32 x) (fun ch L' _ => Pan ch ∧ ∃ t' v' M', numbP l t = .er t' ∧ PG l t' ∧ L' = psB bp l t' :: (bg, cb [u0, u1, u2, v'] 52) :: (b1, cb [.pointer (some ⟨bp, 0, none⟩)] 65) :: (M' ++ L)) := by
 obtain ⟨r, hq⟩ : ∃ r, r = numbP l t := ⟨_, rfl⟩
 rw [← hq]
 obtain ⟨A0, c0, rfl, hc1, hc2⟩ := Own.slice hO
 refine AP_enter (TT := TT) (fn := Tryz.f98) TT_ok Tryz.func98 V Z Tryz.ntmps98 Z (rs := []) Z [(0, _), (1, _)] Z <| JC_draw drawsMixed 8 Z [(b1, cb [.pointer (some ⟨bp, 0, none⟩)] 65)] (fun x hx => mK 2 hx Z) ?_
 intro s1 h1
 refine za 0 Z (We Y4) Z <| za 2 Z (Wd 0 Y5) Z ?_
 refine JA_2 1 3 V ?_ ?_
 ·
  refine JB_q Z trivial (Wd 1 Y5) Z <| JA_1 3 V ?_
  refine JB_callP Z trivial (first := []) (captured := []) Z Z Z (numb_ap D _ _ (hG.le h1) l t bp hl hg []) ?_ ?_
  ·
   rintro _ _ sx2 hx2 ⟨hp9, t9, he9, hg9, rfl⟩ fr9
   repeat (first | refine thenQ_p ?_ | refine blockQ_p ?_)
   refine retP_x [] _ (List.Perm.refl _) (h1.t hx2) (fun sR hS2 => ?_)
   rw [he9] at hq
   exact ⟨hp9, t9, _, M, hq, hg9, rfl⟩
  rintro _ _ s2 h2 ⟨x2, t2, he2, hg2, ⟨rfl, hx2⟩, rfl⟩
  refine ⟨(fun x hx _ => mK 2 hx Z), ?_⟩
  rw [he2] at hq
  simp only [cQ9, nQ9]
  refine JA_1 4 V <| JB_bs Z trivial [(_, _)] [_] Z Z Z Z Z Z Z Z Z ?_
  intro β3 s3 h3 hc3
  refine JA_1 5 V <| JB_app (sz := 1) Z trivial [_, _, _] M L Z Z Z Z Z Z Z hO (Row.of_cells (hc3.le (Lr D)) Z Z) ⟨by simp [ti40]; omega, by omega⟩ Z (fun _ x hx _ => mK 2 hx Z) ?_
  intro v9 M9 s4 h4 oq
  obtain ⟨A9, c9, rfl, hk9, hm9⟩ := Own.slice oq
  simp only [cQ9, nQ9]
  refine za 6 Z (We Y4) Z <| JA_1 7 V <| Wu Z trivial 1 [_, _, _, _] Y9 (fun x hx => mK 1 hx Z) <| JA_done V ?_
  refine retP_mk [] _ (.inl Z) (.nil) Z (h1.t h2|>.t h3|>.t h4) (fun sR hS2 => ?_)
  exact ⟨x2, t2, _, M9, hq, hg2, rfl, (by rw [wv_snoc, List.length_append]; exact oq), hx2⟩
 refine JB_callP Z trivial (first := []) (captured := []) Z Z Z (numb_ap D _ _ (hG.le h1) l t bp hl hg []) ?_ ?_
 ·
  rintro _ _ sx5 hx5 ⟨hp9, t9, he9, hg9, rfl⟩ fr9
  repeat (first | refine thenQ_p ?_ | refine blockQ_p ?_)
  refine retP_x [] _ (List.Perm.refl _) (h1.t hx5) (fun sR hS2 => ?_)
  rw [he9] at hq
  exact ⟨hp9, t9, _, M, hq, hg9, rfl⟩
 rintro _ _ s5 h5 ⟨x5, t5, he5, hg5, ⟨rfl, hx5⟩, rfl⟩
 refine ⟨(fun x hx _ => mK 2 hx Z), ?_⟩
 rw [he5] at hq
 simp only [cQ9, nQ9]
 refine JA_2 1 4 V ?_ ?_
 ·
  refine JB_q Z trivial (Wd 1 Y5) Z <| JA_1 4 V <| JB_bs Z trivial [(_, _)] [_] Z Z Z Z Z Z Z Z Z ?_
  intro β6 s6 h6 hc6
  refine JA_1 5 V <| JB_app (sz := 1) Z trivial [_, _, _] M L Z Z Z Z Z Z Z hO (Row.of_cells (hc6.le (Lr D)) Z Z) ⟨by simp [ti40]; omega, by omega⟩ Z (fun _ x hx _ => mK 2 hx Z) ?_
  intro v9 M9 s7 h7 oq
  obtain ⟨A9, c9, rfl, hk9, hm9⟩ := Own.slice oq
  simp only [cQ9, nQ9]
  refine za 6 Z (We Y4) Z <| JA_1 7 V <| Wu Z trivial 1 [_, _, _, _] Y9 (fun x hx => mK 1 hx Z) <| JA_done V ?_
  refine retP_mk [] _ (.inl Z) (.nil) Z (h1.t h5|>.t h6|>.t h7) (fun sR hS2 => ?_)
  exact ⟨x5, t5, _, M9, hq, hg5, rfl, (by rw [wv_snoc, List.length_append]; exact oq), hx5⟩
 refine JB_bs Z trivial [(_, _)] [_] Z Z Z Z Z Z Z Z Z ?_
 intro β8 s8 h8 hc8
 refine JA_1 1 V <| JB_q Z trivial (Wd 1 Y5) Z <| JA_1 5 V <| JB_app (sz := 1) Z trivial [_, _, _] M L Z Z Z Z Z Z Z hO (Row.of_cells (hc8.le (Lr D)) Z Z) ⟨by simp [ti40]; omega, by omega⟩ Z (fun _ x hx _ => mK 2 hx Z) ?_
 intro v9 M9 s9 h9 oq
 obtain ⟨A9, c9, rfl, hk9, hm9⟩ := Own.slice oq
 simp only [cQ9, nQ9]
 refine za 6 Z (We Y4) Z <| JA_1 7 V <| Wu Z trivial 1 [_, _, _, _] Y9 (fun x hx => mK 1 hx Z) <| JA_done V ?_
 refine retP_mk [] _ (.inl Z) (.nil) Z (h1.t h5|>.t h8|>.t h9) (fun sR hS2 => ?_)
 exact ⟨x5, t5, _, M9, hq, hg5, rfl, (by rw [wv_snoc, List.length_append]; exact oq), hx5⟩
theorem fun1_ap (D : Nat) (L : Hl) (s : World) (hG : GP s) (l : List UInt8) (t : PS) (bp bg b1 : Nat) (hl : l.length ≤ 12000) (hg : PG l t) (u0 u2 u3 v : Value) (xs : List Str) (M : Hl) (hO : FL.Own 9 1 M v xs.length (sb xs)) (hx : xs.length ≤ 1000000) : AP Tryz.prog D 94 [.pointer (some ⟨bg, 0, none⟩), .pointer (some ⟨b1, 0, none⟩)] (psB bp l t :: (bg, cb [u0, v, u2, u3] 56) :: (b1, cb [.pointer (some ⟨bp, 0, none⟩)] 65) :: (M ++ L)) s (fun _ L' _ => ∃ x t' v' M', nameP l t = .ok x t' ∧ PG l t' ∧ L' = psB bp l t' :: (bg, cb [u0, v', u2, u3] 56) :: (b1, cb [.pointer (some ⟨bp, 0, none⟩)] 65) :: (M' ++ L) ∧ FL.Own 9 1 M' v' (xs ++ [x]).length (sb (xs ++ [x])) ∧ x.length ≤ l.length) (fun ch L' _ => Pan ch ∧ ∃ t' v' M', nameP l t = .er t' ∧ PG l t' ∧ L' = psB bp l t' :: (bg, cb [u0, v', u2, u3] 56) :: (b1, cb [.pointer (some ⟨bp, 0, none⟩)] 65) :: (M' ++ L)) := by
 obtain ⟨r, hq⟩ : ∃ r, r = nameP l t := ⟨_, rfl⟩
 rw [← hq]
 obtain ⟨A0, c0, rfl, hc1, hc2⟩ := Own.slice hO
 refine AP_enter (TT := TT) (fn := Tryz.f94) TT_ok Tryz.func94 V Z Tryz.ntmps94 Z (rs := []) Z [(0, _), (1, _)] Z <| JC_draw drawsMixed 8 Z [(b1, cb [.pointer (some ⟨bp, 0, none⟩)] 65)] (fun x hx => mK 2 hx Z) ?_
 intro s1 h1
 refine za 0 Z (We Y4) Z <| za 2 Z (Wd 0 Y5) Z ?_
 refine JA_2 1 3 V ?_ ?_
 ·
  refine JB_q Z trivial (Wd 1 Y5) Z <| JA_1 3 V ?_
  refine JB_callP Z trivial (first := []) (captured := []) Z Z Z (name_ap D _ _ (hG.le h1) l t bp hl hg []) ?_ ?_
  ·
   rintro _ _ sx2 hx2 ⟨hp9, t9, he9, hg9, rfl⟩ fr9
   repeat (first | refine thenQ_p ?_ | refine blockQ_p ?_)
   refine retP_x [] _ (List.Perm.refl _) (h1.t hx2) (fun sR hS2 => ?_)
   rw [he9] at hq
   exact ⟨hp9, t9, _, M, hq, hg9, rfl⟩
  rintro _ _ s2 h2 ⟨x2, t2, he2, hg2, ⟨rfl, hx2⟩, rfl⟩
  refine ⟨(fun x hx _ => mK 2 hx Z), ?_⟩
  rw [he2] at hq
  simp only [cQ9, nQ9]
  refine JA_1 4 V <| JB_bs Z trivial [(_, _)] [_] Z Z Z Z Z Z Z Z Z ?_
  intro β3 s3 h3 hc3
  refine JA_1 5 V <| JB_app (sz := 1) Z trivial [_, _, _] M L Z Z Z Z Z Z Z hO (Row.of_cells (hc3.le (Lr D)) Z Z) ⟨by simp [ti9]; omega, by omega⟩ Z (fun _ x hx _ => mK 2 hx Z) ?_
  intro v9 M9 s4 h4 oq
  obtain ⟨A9, c9, rfl, hk9, hm9⟩ := Own.slice oq
  simp only [cQ9, nQ9]
  refine za 6 Z (We Y4) Z <| JA_1 7 V <| Wu Z trivial 1 [_, _, _, _] Y9 (fun x hx => mK 1 hx Z) <| JA_done V ?_
  refine retP_mk [] _ (.inl Z) (.nil) Z (h1.t h2|>.t h3|>.t h4) (fun sR hS2 => ?_)
  exact ⟨x2, t2, _, M9, hq, hg2, rfl, (by rw [sb_snoc, List.length_append]; exact oq), hx2⟩
 refine JB_callP Z trivial (first := []) (captured := []) Z Z Z (name_ap D _ _ (hG.le h1) l t bp hl hg []) ?_ ?_
 ·
  rintro _ _ sx5 hx5 ⟨hp9, t9, he9, hg9, rfl⟩ fr9
  repeat (first | refine thenQ_p ?_ | refine blockQ_p ?_)
  refine retP_x [] _ (List.Perm.refl _) (h1.t hx5) (fun sR hS2 => ?_)
  rw [he9] at hq
  exact ⟨hp9, t9, _, M, hq, hg9, rfl⟩
 rintro _ _ s5 h5 ⟨x5, t5, he5, hg5, ⟨rfl, hx5⟩, rfl⟩
 refine ⟨(fun x hx _ => mK 2 hx Z), ?_⟩
 rw [he5] at hq
 simp only [cQ9, nQ9]
 refine JA_2 1 4 V ?_ ?_
 ·
  refine JB_q Z trivial (Wd 1 Y5) Z <| JA_1 4 V <| JB_bs Z trivial [(_, _)] [_] Z Z Z Z Z Z Z Z Z ?_
  intro β6 s6 h6 hc6
  refine JA_1 5 V <| JB_app (sz := 1) Z trivial [_, _, _] M L Z Z Z Z Z Z Z hO (Row.of_cells (hc6.le (Lr D)) Z Z) ⟨by simp [ti9]; omega, by omega⟩ Z (fun _ x hx _ => mK 2 hx Z) ?_
  intro v9 M9 s7 h7 oq
  obtain ⟨A9, c9, rfl, hk9, hm9⟩ := Own.slice oq
  simp only [cQ9, nQ9]
  refine za 6 Z (We Y4) Z <| JA_1 7 V <| Wu Z trivial 1 [_, _, _, _] Y9 (fun x hx => mK 1 hx Z) <| JA_done V ?_
  refine retP_mk [] _ (.inl Z) (.nil) Z (h1.t h5|>.t h6|>.t h7) (fun sR hS2 => ?_)
  exact ⟨x5, t5, _, M9, hq, hg5, rfl, (by rw [sb_snoc, List.length_append]; exact oq), hx5⟩
 refine JB_bs Z trivial [(_, _)] [_] Z Z Z Z Z Z Z Z Z ?_
 intro β8 s8 h8 hc8
 refine JA_1 1 V <| JB_q Z trivial (Wd 1 Y5) Z <| JA_1 5 V <| JB_app (sz := 1) Z trivial [_, _, _] M L Z Z Z Z Z Z Z hO (Row.of_cells (hc8.le (Lr D)) Z Z) ⟨by simp [ti9]; omega, by omega⟩ Z (fun _ x hx _ => mK 2 hx Z) ?_
 intro v9 M9 s9 h9 oq
 obtain ⟨A9, c9, rfl, hk9, hm9⟩ := Own.slice oq
 simp only [cQ9, nQ9]
 refine za 6 Z (We Y4) Z <| JA_1 7 V <| Wu Z trivial 1 [_, _, _, _] Y9 (fun x hx => mK 1 hx Z) <| JA_done V ?_
 refine retP_mk [] _ (.inl Z) (.nil) Z (h1.t h5|>.t h8|>.t h9) (fun sR hS2 => ?_)
 exact ⟨x5, t5, _, M9, hq, hg5, rfl, (by rw [sb_snoc, List.length_append]; exact oq), hx5⟩
theorem fun2_ap (D : Nat) (L : Hl) (s : World) (hG : GP s) (l : List UInt8) (t : PS) (bp bg b1 : Nat) (hl : l.length ≤ 12000) (hg : PG l t) (u0 u1 u3 v : Value) (xs : List Str) (M : Hl) (hO : FL.Own 9 1 M v xs.length (sb xs)) (hx : xs.length ≤ 1000000) : AP Tryz.prog D 95 [.pointer (some ⟨bg, 0, none⟩), .pointer (some ⟨b1, 0, none⟩)] (psB bp l t :: (bg, cb [u0, u1, v, u3] 56) :: (b1, cb [.pointer (some ⟨bp, 0, none⟩)] 65) :: (M ++ L)) s (fun _ L' _ => ∃ x t' v' M', nameP l t = .ok x t' ∧ PG l t' ∧ L' = psB bp l t' :: (bg, cb [u0, u1, v', u3] 56) :: (b1, cb [.pointer (some ⟨bp, 0, none⟩)] 65) :: (M' ++ L) ∧ FL.Own 9 1 M' v' (xs ++ [x]).length (sb (xs ++ [x])) ∧ x.length ≤ l.length) (fun ch L' _ => Pan ch ∧ ∃ t' v' M', nameP l t = .er t' ∧ PG l t' ∧ L' = psB bp l t' :: (bg, cb [u0, u1, v', u3] 56) :: (b1, cb [.pointer (some ⟨bp, 0, none⟩)] 65) :: (M' ++ L)) := by
 obtain ⟨r, hq⟩ : ∃ r, r = nameP l t := ⟨_, rfl⟩
 rw [← hq]
 obtain ⟨A0, c0, rfl, hc1, hc2⟩ := Own.slice hO
 refine AP_enter (TT := TT) (fn := Tryz.f95) TT_ok Tryz.func95 V Z Tryz.ntmps95 Z (rs := []) Z [(0, _), (1, _)] Z <| JC_draw drawsMixed 8 Z [(b1, cb [.pointer (some ⟨bp, 0, none⟩)] 65)] (fun x hx => mK 2 hx Z) ?_
 intro s1 h1
 refine za 0 Z (We Y4) Z <| za 2 Z (Wd 0 Y5) Z ?_
 refine JA_2 1 3 V ?_ ?_
 ·
  refine JB_q Z trivial (Wd 1 Y5) Z <| JA_1 3 V ?_
  refine JB_callP Z trivial (first := []) (captured := []) Z Z Z (name_ap D _ _ (hG.le h1) l t bp hl hg []) ?_ ?_
  ·
   rintro _ _ sx2 hx2 ⟨hp9, t9, he9, hg9, rfl⟩ fr9
   repeat (first | refine thenQ_p ?_ | refine blockQ_p ?_)
   refine retP_x [] _ (List.Perm.refl _) (h1.t hx2) (fun sR hS2 => ?_)
   rw [he9] at hq
   exact ⟨hp9, t9, _, M, hq, hg9, rfl⟩
  rintro _ _ s2 h2 ⟨x2, t2, he2, hg2, ⟨rfl, hx2⟩, rfl⟩
  refine ⟨(fun x hx _ => mK 2 hx Z), ?_⟩
  rw [he2] at hq
  simp only [cQ9, nQ9]
  refine JA_1 4 V <| JB_bs Z trivial [(_, _)] [_] Z Z Z Z Z Z Z Z Z ?_
  intro β3 s3 h3 hc3
  refine JA_1 5 V <| JB_app (sz := 1) Z trivial [_, _, _] M L Z Z Z Z Z Z Z hO (Row.of_cells (hc3.le (Lr D)) Z Z) ⟨by simp [ti9]; omega, by omega⟩ Z (fun _ x hx _ => mK 2 hx Z) ?_
  intro v9 M9 s4 h4 oq
  obtain ⟨A9, c9, rfl, hk9, hm9⟩ := Own.slice oq
  simp only [cQ9, nQ9]
  refine za 6 Z (We Y4) Z <| JA_1 7 V <| Wu Z trivial 1 [_, _, _, _] Y9 (fun x hx => mK 1 hx Z) <| JA_done V ?_
  refine retP_mk [] _ (.inl Z) (.nil) Z (h1.t h2|>.t h3|>.t h4) (fun sR hS2 => ?_)
  exact ⟨x2, t2, _, M9, hq, hg2, rfl, (by rw [sb_snoc, List.length_append]; exact oq), hx2⟩
 refine JB_callP Z trivial (first := []) (captured := []) Z Z Z (name_ap D _ _ (hG.le h1) l t bp hl hg []) ?_ ?_
 ·
  rintro _ _ sx5 hx5 ⟨hp9, t9, he9, hg9, rfl⟩ fr9
  repeat (first | refine thenQ_p ?_ | refine blockQ_p ?_)
  refine retP_x [] _ (List.Perm.refl _) (h1.t hx5) (fun sR hS2 => ?_)
  rw [he9] at hq
  exact ⟨hp9, t9, _, M, hq, hg9, rfl⟩
 rintro _ _ s5 h5 ⟨x5, t5, he5, hg5, ⟨rfl, hx5⟩, rfl⟩
 refine ⟨(fun x hx _ => mK 2 hx Z), ?_⟩
 rw [he5] at hq
 simp only [cQ9, nQ9]
 refine JA_2 1 4 V ?_ ?_
 ·
  refine JB_q Z trivial (Wd 1 Y5) Z <| JA_1 4 V <| JB_bs Z trivial [(_, _)] [_] Z Z Z Z Z Z Z Z Z ?_
  intro β6 s6 h6 hc6
  refine JA_1 5 V <| JB_app (sz := 1) Z trivial [_, _, _] M L Z Z Z Z Z Z Z hO (Row.of_cells (hc6.le (Lr D)) Z Z) ⟨by simp [ti9]; omega, by omega⟩ Z (fun _ x hx _ => mK 2 hx Z) ?_
  intro v9 M9 s7 h7 oq
  obtain ⟨A9, c9, rfl, hk9, hm9⟩ := Own.slice oq
  simp only [cQ9, nQ9]
  refine za 6 Z (We Y4) Z <| JA_1 7 V <| Wu Z trivial 1 [_, _, _, _] Y9 (fun x hx => mK 1 hx Z) <| JA_done V ?_
  refine retP_mk [] _ (.inl Z) (.nil) Z (h1.t h5|>.t h6|>.t h7) (fun sR hS2 => ?_)
  exact ⟨x5, t5, _, M9, hq, hg5, rfl, (by rw [sb_snoc, List.length_append]; exact oq), hx5⟩
 refine JB_bs Z trivial [(_, _)] [_] Z Z Z Z Z Z Z Z Z ?_
 intro β8 s8 h8 hc8
 refine JA_1 1 V <| JB_q Z trivial (Wd 1 Y5) Z <| JA_1 5 V <| JB_app (sz := 1) Z trivial [_, _, _] M L Z Z Z Z Z Z Z hO (Row.of_cells (hc8.le (Lr D)) Z Z) ⟨by simp [ti9]; omega, by omega⟩ Z (fun _ x hx _ => mK 2 hx Z) ?_
 intro v9 M9 s9 h9 oq
 obtain ⟨A9, c9, rfl, hk9, hm9⟩ := Own.slice oq
 simp only [cQ9, nQ9]
 refine za 6 Z (We Y4) Z <| JA_1 7 V <| Wu Z trivial 1 [_, _, _, _] Y9 (fun x hx => mK 1 hx Z) <| JA_done V ?_
 refine retP_mk [] _ (.inl Z) (.nil) Z (h1.t h5|>.t h8|>.t h9) (fun sR hS2 => ?_)
 exact ⟨x5, t5, _, M9, hq, hg5, rfl, (by rw [sb_snoc, List.length_append]; exact oq), hx5⟩
theorem nums_list (n : Nat) (hN : n ≤ 1000000) (D : Nat) (L : Hl) (s : World) (hG : GP s) (l : List UInt8) (t : PS) (bp bg b1 : Nat) (hl : l.length ≤ 12000) (hg : PG l t) (u0 u1 u2 : Value) (hr : pNums l n [] t ≠ .out) :
    AP Tryz.prog D 93 [.pointer (some ⟨bp, 0, none⟩), .func (.func 98) #[] [.pointer (some ⟨bg, 0, none⟩), .pointer (some ⟨b1, 0, none⟩)].toArray] (psB bp l t :: (bg, cb [u0, u1, u2, .slice none 0 0] 52) :: (b1, cb [.pointer (some ⟨bp, 0, none⟩)] 65) :: L) s
      (fun _ L' _ => ∃ xs t' v M, pNums l n [] t = .ok xs t' ∧ PG l t' ∧ L' = psB bp l t' :: (bg, cb [u0, u1, u2, v] 52) :: (b1, cb [.pointer (some ⟨bp, 0, none⟩)] 65) :: (M ++ L) ∧ FL.Own 40 1 M v xs.length (wv xs) ∧ ∀ x ∈ xs, U32 x)
      fun ch L' _ => Pan ch ∧ ∃ t' v M, pNums l n [] t = .er t' ∧ PG l t' ∧ L' = psB bp l t' :: (bg, cb [u0, u1, u2, v] 52) :: (b1, cb [.pointer (some ⟨bp, 0, none⟩)] 65) :: (M ++ L) := by
  obtain ⟨e, he⟩ : ∃ e, e = pNums l n [] t := ⟨_, rfl⟩
  rw [← he] at hr ⊢
  refine (list_ap (σ := List Int × Value × Hl × Nat) D s hG l bp 98 [.pointer (some ⟨bg, 0, none⟩), .pointer (some ⟨b1, 0, none⟩)] hl (fun g => (bg, cb [u0, u1, u2, g.2.1] 52) :: (b1, cb [.pointer (some ⟨bp, 0, none⟩)] 65) :: (g.2.2.1 ++ L))
    (fun g t tw => e = pNums l g.2.2.2 g.1 t ∧ g.1.length + g.2.2.2 ≤ n ∧ FL.Own 40 1 g.2.2.1 g.2.1 g.1.length (wv g.1) ∧ ∀ x ∈ g.1, U32 x)
    (fun g t tw => e = .ok g.1 t ∧ FL.Own 40 1 g.2.2.1 g.2.1 g.1.length (wv g.1) ∧ ∀ x ∈ g.1, U32 x)
    (fun ch L' _ => Pan ch ∧ ∃ t' v M, e = .er t' ∧ PG l t' ∧ L' = psB bp l t' :: (bg, cb [u0, u1, u2, v] 52) :: (b1, cb [.pointer (some ⟨bp, 0, none⟩)] 65) :: (M ++ L)) (fun g => g.2.2.2)
    (fun g t s1 s2 h hle => h) (fun g t s1 s2 h hle => h) (fun _ _ _ _ h _ => h)
    (fun g t s1 hl1 hg1 hI => ?_) ⟨[], .slice none 0 0, [], n⟩ t hg ⟨he, by simp, .nil, fun x hx => by cases hx⟩).mono (fun v L' s' _ ⟨g, t', h1, h2, h3, h4, h5⟩ => ⟨g.1, t', g.2.1, g.2.2.1, h3, h2, h1, h4, h5⟩) fun _ _ _ _ h => h
  obtain ⟨xs, v, M, k⟩ := g
  obtain ⟨hq, hk, hO, hA⟩ : e = pNums l k xs t ∧ xs.length + k ≤ n ∧ FL.Own 40 1 M v xs.length (wv xs) ∧ ∀ x ∈ xs, U32 x := hI
  obtain ⟨j, rfl⟩ : ∃ j, k = j + 1 := by
    cases k with
    | zero => exact absurd hq hr
    | succ j => exact ⟨j, rfl⟩
  rw [pNums] at hq
  refine (glo1_ap D L s1 (hG.le hl1) l t bp bg b1 hl hg1 u0 u1 u2 v xs M hO O).mono ?_ ?_
  · rintro _ L' s' _ ⟨x, t', v', M', hx, hg', rfl, hO', hxp⟩
    rw [hx] at hq
    simp only [PR.and] at hq
    have hA' : ∀ y ∈ xs ++ [x], (fun x => U32 x) y := fun y hy => by
      rcases List.mem_append.1 hy with h | h
      · exact hA y h
      · cases List.mem_singleton.1 h; exact hxp
    refine ⟨⟨xs ++ [x], v', M', j⟩, t', Z, hg', Nat.lt_succ_self j, fun hb => ⟨by rw [hq, if_pos hb], by show (xs ++ [x]).length + j ≤ n; rw [List.length_append]; simp only [List.length_cons, List.length_nil]; omega, hO', hA'⟩, fun hb => ⟨by rw [hq, if_neg (bNe hb)], hO', hA'⟩⟩
  · rintro ch L' s' _ ⟨hp, t', v', M', hx, hg', rfl⟩
    rw [hx] at hq
    exact ⟨hp, t', v', M', hq, hg', rfl⟩
theorem names1_list (n : Nat) (hN : n ≤ 1000000) (D : Nat) (L : Hl) (s : World) (hG : GP s) (l : List UInt8) (t : PS) (bp bg b1 : Nat) (hl : l.length ≤ 12000) (hg : PG l t) (u0 u2 u3 : Value) (hr : pNames l n [] t ≠ .out) :
    AP Tryz.prog D 93 [.pointer (some ⟨bp, 0, none⟩), .func (.func 94) #[] [.pointer (some ⟨bg, 0, none⟩), .pointer (some ⟨b1, 0, none⟩)].toArray] (psB bp l t :: (bg, cb [u0, .slice none 0 0, u2, u3] 56) :: (b1, cb [.pointer (some ⟨bp, 0, none⟩)] 65) :: L) s
      (fun _ L' _ => ∃ xs t' v M, pNames l n [] t = .ok xs t' ∧ PG l t' ∧ L' = psB bp l t' :: (bg, cb [u0, v, u2, u3] 56) :: (b1, cb [.pointer (some ⟨bp, 0, none⟩)] 65) :: (M ++ L) ∧ FL.Own 9 1 M v xs.length (sb xs) ∧ ∀ x ∈ xs, x.length ≤ l.length)
      fun ch L' _ => Pan ch ∧ ∃ t' v M, pNames l n [] t = .er t' ∧ PG l t' ∧ L' = psB bp l t' :: (bg, cb [u0, v, u2, u3] 56) :: (b1, cb [.pointer (some ⟨bp, 0, none⟩)] 65) :: (M ++ L) := by
  obtain ⟨e, he⟩ : ∃ e, e = pNames l n [] t := ⟨_, rfl⟩
  rw [← he] at hr ⊢
  refine (list_ap (σ := List Str × Value × Hl × Nat) D s hG l bp 94 [.pointer (some ⟨bg, 0, none⟩), .pointer (some ⟨b1, 0, none⟩)] hl (fun g => (bg, cb [u0, g.2.1, u2, u3] 56) :: (b1, cb [.pointer (some ⟨bp, 0, none⟩)] 65) :: (g.2.2.1 ++ L))
    (fun g t tw => e = pNames l g.2.2.2 g.1 t ∧ g.1.length + g.2.2.2 ≤ n ∧ FL.Own 9 1 g.2.2.1 g.2.1 g.1.length (sb g.1) ∧ ∀ x ∈ g.1, x.length ≤ l.length)
    (fun g t tw => e = .ok g.1 t ∧ FL.Own 9 1 g.2.2.1 g.2.1 g.1.length (sb g.1) ∧ ∀ x ∈ g.1, x.length ≤ l.length)
    (fun ch L' _ => Pan ch ∧ ∃ t' v M, e = .er t' ∧ PG l t' ∧ L' = psB bp l t' :: (bg, cb [u0, v, u2, u3] 56) :: (b1, cb [.pointer (some ⟨bp, 0, none⟩)] 65) :: (M ++ L)) (fun g => g.2.2.2)
    (fun g t s1 s2 h hle => h) (fun g t s1 s2 h hle => h) (fun _ _ _ _ h _ => h)
    (fun g t s1 hl1 hg1 hI => ?_) ⟨[], .slice none 0 0, [], n⟩ t hg ⟨he, by simp, .nil, fun x hx => by cases hx⟩).mono (fun v L' s' _ ⟨g, t', h1, h2, h3, h4, h5⟩ => ⟨g.1, t', g.2.1, g.2.2.1, h3, h2, h1, h4, h5⟩) fun _ _ _ _ h => h
  obtain ⟨xs, v, M, k⟩ := g
  obtain ⟨hq, hk, hO, hA⟩ : e = pNames l k xs t ∧ xs.length + k ≤ n ∧ FL.Own 9 1 M v xs.length (sb xs) ∧ ∀ x ∈ xs, x.length ≤ l.length := hI
  obtain ⟨j, rfl⟩ : ∃ j, k = j + 1 := by
    cases k with
    | zero => exact absurd hq hr
    | succ j => exact ⟨j, rfl⟩
  rw [pNames] at hq
  refine (fun1_ap D L s1 (hG.le hl1) l t bp bg b1 hl hg1 u0 u2 u3 v xs M hO O).mono ?_ ?_
  · rintro _ L' s' _ ⟨x, t', v', M', hx, hg', rfl, hO', hxp⟩
    rw [hx] at hq
    simp only [PR.and] at hq
    have hA' : ∀ y ∈ xs ++ [x], (fun x => x.length ≤ l.length) y := fun y hy => by
      rcases List.mem_append.1 hy with h | h
      · exact hA y h
      · cases List.mem_singleton.1 h; exact hxp
    refine ⟨⟨xs ++ [x], v', M', j⟩, t', Z, hg', Nat.lt_succ_self j, fun hb => ⟨by rw [hq, if_pos hb], by show (xs ++ [x]).length + j ≤ n; rw [List.length_append]; simp only [List.length_cons, List.length_nil]; omega, hO', hA'⟩, fun hb => ⟨by rw [hq, if_neg (bNe hb)], hO', hA'⟩⟩
  · rintro ch L' s' _ ⟨hp, t', v', M', hx, hg', rfl⟩
    rw [hx] at hq
    exact ⟨hp, t', v', M', hq, hg', rfl⟩
theorem names2_list (n : Nat) (hN : n ≤ 1000000) (D : Nat) (L : Hl) (s : World) (hG : GP s) (l : List UInt8) (t : PS) (bp bg b1 : Nat) (hl : l.length ≤ 12000) (hg : PG l t) (u0 u1 u3 : Value) (hr : pNames l n [] t ≠ .out) :
    AP Tryz.prog D 93 [.pointer (some ⟨bp, 0, none⟩), .func (.func 95) #[] [.pointer (some ⟨bg, 0, none⟩), .pointer (some ⟨b1, 0, none⟩)].toArray] (psB bp l t :: (bg, cb [u0, u1, .slice none 0 0, u3] 56) :: (b1, cb [.pointer (some ⟨bp, 0, none⟩)] 65) :: L) s
      (fun _ L' _ => ∃ xs t' v M, pNames l n [] t = .ok xs t' ∧ PG l t' ∧ L' = psB bp l t' :: (bg, cb [u0, u1, v, u3] 56) :: (b1, cb [.pointer (some ⟨bp, 0, none⟩)] 65) :: (M ++ L) ∧ FL.Own 9 1 M v xs.length (sb xs) ∧ ∀ x ∈ xs, x.length ≤ l.length)
      fun ch L' _ => Pan ch ∧ ∃ t' v M, pNames l n [] t = .er t' ∧ PG l t' ∧ L' = psB bp l t' :: (bg, cb [u0, u1, v, u3] 56) :: (b1, cb [.pointer (some ⟨bp, 0, none⟩)] 65) :: (M ++ L) := by
  obtain ⟨e, he⟩ : ∃ e, e = pNames l n [] t := ⟨_, rfl⟩
  rw [← he] at hr ⊢
  refine (list_ap (σ := List Str × Value × Hl × Nat) D s hG l bp 95 [.pointer (some ⟨bg, 0, none⟩), .pointer (some ⟨b1, 0, none⟩)] hl (fun g => (bg, cb [u0, u1, g.2.1, u3] 56) :: (b1, cb [.pointer (some ⟨bp, 0, none⟩)] 65) :: (g.2.2.1 ++ L))
    (fun g t tw => e = pNames l g.2.2.2 g.1 t ∧ g.1.length + g.2.2.2 ≤ n ∧ FL.Own 9 1 g.2.2.1 g.2.1 g.1.length (sb g.1) ∧ ∀ x ∈ g.1, x.length ≤ l.length)
    (fun g t tw => e = .ok g.1 t ∧ FL.Own 9 1 g.2.2.1 g.2.1 g.1.length (sb g.1) ∧ ∀ x ∈ g.1, x.length ≤ l.length)
    (fun ch L' _ => Pan ch ∧ ∃ t' v M, e = .er t' ∧ PG l t' ∧ L' = psB bp l t' :: (bg, cb [u0, u1, v, u3] 56) :: (b1, cb [.pointer (some ⟨bp, 0, none⟩)] 65) :: (M ++ L)) (fun g => g.2.2.2)
    (fun g t s1 s2 h hle => h) (fun g t s1 s2 h hle => h) (fun _ _ _ _ h _ => h)
    (fun g t s1 hl1 hg1 hI => ?_) ⟨[], .slice none 0 0, [], n⟩ t hg ⟨he, by simp, .nil, fun x hx => by cases hx⟩).mono (fun v L' s' _ ⟨g, t', h1, h2, h3, h4, h5⟩ => ⟨g.1, t', g.2.1, g.2.2.1, h3, h2, h1, h4, h5⟩) fun _ _ _ _ h => h
  obtain ⟨xs, v, M, k⟩ := g
  obtain ⟨hq, hk, hO, hA⟩ : e = pNames l k xs t ∧ xs.length + k ≤ n ∧ FL.Own 9 1 M v xs.length (sb xs) ∧ ∀ x ∈ xs, x.length ≤ l.length := hI
  obtain ⟨j, rfl⟩ : ∃ j, k = j + 1 := by
    cases k with
    | zero => exact absurd hq hr
    | succ j => exact ⟨j, rfl⟩
  rw [pNames] at hq
  refine (fun2_ap D L s1 (hG.le hl1) l t bp bg b1 hl hg1 u0 u1 u3 v xs M hO O).mono ?_ ?_
  · rintro _ L' s' _ ⟨x, t', v', M', hx, hg', rfl, hO', hxp⟩
    rw [hx] at hq
    simp only [PR.and] at hq
    have hA' : ∀ y ∈ xs ++ [x], (fun x => x.length ≤ l.length) y := fun y hy => by
      rcases List.mem_append.1 hy with h | h
      · exact hA y h
      · cases List.mem_singleton.1 h; exact hxp
    refine ⟨⟨xs ++ [x], v', M', j⟩, t', Z, hg', Nat.lt_succ_self j, fun hb => ⟨by rw [hq, if_pos hb], by show (xs ++ [x]).length + j ≤ n; rw [List.length_append]; simp only [List.length_cons, List.length_nil]; omega, hO', hA'⟩, fun hb => ⟨by rw [hq, if_neg (bNe hb)], hO', hA'⟩⟩
  · rintro ch L' s' _ ⟨hp, t', v', M', hx, hg', rfl⟩
    rw [hx] at hq
    exact ⟨hp, t', v', M', hq, hg', rfl⟩
def GloV (s : World) (g : Glo) (v : Value) : Prop := ∃ A n c, v = .agg #[.int .i64 g.kind, St g.name, .int .u32 g.num, .slice A n c] ∧ Wds s A n c g.init ∧ U32 g.num ∧ g.name.length ≤ 9223372036854775807
def FncV (s : World) (x : Fnc) (v : Value) : Prop := ∃ d A1 n1 c1 A2 n2 c2 A3 n3 c3, v = .agg #[St x.name, .slice A1 n1 c1, .slice A2 n2 c2, .slice A3 n3 c3] ∧ Strs s A1 n1 c1 x.params ∧ Strs s A2 n2 c2 x.locals ∧ Stms d s A3 n3 c3 x.body ∧ x.name.length ≤ 9223372036854775807
def PrgV (s : World) (p : Prg) (v : Value) : Prop := ∃ d Ag ng cg Af nf cf, v = .agg #[.slice Ag ng cg, .slice Af nf cf] ∧ Glos s Ag ng cg p.globals ∧ Fncs d s Af nf cf p.funcs
theorem glo_st (n : Nat) (hN : n ≤ 1000000) : CP 63 [] (fun l t => pGlo l n t) GloV := by
 intro D L s hG l t bp hl hg hr
 dsimp only at hr ⊢
 obtain ⟨r, hq⟩ : ∃ r, r = pGlo l n t := ⟨_, rfl⟩
 rw [← hq] at hr ⊢
 rw [pGlo] at hq
 refine AP_enter (TT := TT) (fn := Tryz.f63) TT_ok Tryz.func63 V Z Tryz.ntmps63 Z (rs := [.cell 2 52]) Z [(0, _)] Z <| Sr <| JO_box Z Z Z ?_
 intro β1 s1 h1
 refine JO_allocZ Z [_, _, _, _] Z Z ?_
 intro β2 s2 h2
 refine Nt <| Sr <| JO_allocZ Z [_, _, _, _] Z Z ?_
 intro β3 s3 h3
 refine Nt <| Zs <| Zp <| Sr <| Wl 2 Y6 <| Jc Z Z Z (acc_ac D [_, _, _] _ _ (hG.le (h1.t h2|>.t h3)) l t bp [99, 111, 110, 115, 116] hl hg) ?_
 rintro _ _ s4 h4 ⟨_, (⟨hb4, rfl, rfl⟩ | ⟨hb4, rfl, rfl⟩), rfl⟩
 ·
  simp only [cQ9, nQ9]
  rw [if_pos hb4] at hq
  refine At Z Z <| Zy Z <| Sr <| Wl 2 Y6 <| ?_
  refine JO_callP (first := []) (captured := []) Z Z Z (name_ap D _ _ (hG.le (h1.t h2|>.t h3|>.t h4)) l (advP l t) bp hl hg.adv [_, _, _]  ) ?_ ?_
  ·
   rintro _ _ sx5 hx5 ⟨hp9, t9, he9, hg9, rfl⟩ fr9
   repeat (first | refine thenQ_p ?_ | refine blockQ_p ?_)
   refine retP_x [_, _, _] _ (List.Perm.refl _) (h1.t h2|>.t h3|>.t h4|>.t hx5) (fun sR hS2 => ?_)
   rw [he9] at hq
   exact ⟨hp9, t9, hq, hg9, rfl⟩
  rintro _ _ s5 h5 ⟨x5, t5, he5, hg5, ⟨rfl, hx5⟩, rfl⟩
  rw [he5] at hq
  simp only [PR.and] at hq
  simp only [cQ9, nQ9]
  refine W0 Y5 <| Wt 0 [_, _, _, _] Y9 <| Wb Y5 <| Wt 0 [_, _, _, _] Y9 <| Nt <| Sr <| Wl 2 Y6 <| JO_bs [(_, _)] [_] Z Z Z Z Z Z Z Z Z ?_
  intro β6 s6 h6 hc6
  refine JO_callP (first := []) (captured := []) Z Z Z (exp_ap D _ _ (hG.le (h1.t h2|>.t h3|>.t h4|>.t h5|>.t h6)) l t5 bp hl hg5 [_, _, _] [[61]] _ _ _ (str1 (hc6.le (Lr D)) (by decide)) ) ?_ ?_
  ·
   rintro _ _ sx7 hx7 ⟨hp9, t9, he9, hg9, rfl⟩ fr9
   repeat (first | refine thenQ_p ?_ | refine blockQ_p ?_)
   refine retP_x [_, _, _] _ (List.Perm.refl _) (h1.t h2|>.t h3|>.t h4|>.t h5|>.t h6|>.t hx7) (fun sR hS2 => ?_)
   rw [he9] at hq
   exact ⟨hp9, t9, hq, hg9, rfl⟩
  rintro _ _ s7 h7 ⟨_, t7, he7, hg7, _, rfl⟩
  rw [he7] at hq
  simp only [PR.and] at hq
  simp only [cQ9, nQ9]
  refine Nt <| Zr <| Wl 2 Y6 <| ?_
  refine JO_callP (first := []) (captured := []) Z Z Z (numb_ap D _ _ (hG.le (h1.t h2|>.t h3|>.t h4|>.t h5|>.t h6|>.t h7)) l t7 bp hl hg7 [_, _, _]  ) ?_ ?_
  ·
   rintro _ _ sx8 hx8 ⟨hp9, t9, he9, hg9, rfl⟩ fr9
   repeat (first | refine thenQ_p ?_ | refine blockQ_p ?_)
   refine retP_x [_, _, _] _ (List.Perm.refl _) (h1.t h2|>.t h3|>.t h4|>.t h5|>.t h6|>.t h7|>.t hx8) (fun sR hS2 => ?_)
   rw [he9] at hq
   exact ⟨hp9, t9, hq, hg9, rfl⟩
  rintro _ _ s8 h8 ⟨x8, t8, he8, hg8, ⟨rfl, hu8⟩, rfl⟩
  rw [he8] at hq
  simp only [PR.and] at hq
  simp only [cQ9, nQ9]
  refine Wb Y5 <| Wt 0 [_, _, _, _] Y9 <| Zn <| Zb <| Zt <| Sr <| Wl 2 Y6 <| JO_bs [(_, _)] [_] Z Z Z Z Z Z Z Z Z ?_
  intro β9 s9 h9 hc9
  refine JO_callP (first := []) (captured := []) Z Z Z (exp_ap D _ _ (hG.le (h1.t h2|>.t h3|>.t h4|>.t h5|>.t h6|>.t h7|>.t h8|>.t h9)) l t8 bp hl hg8 [_, _, _] [[59]] _ _ _ (str1 (hc9.le (Lr D)) (by decide)) ) ?_ ?_
  ·
   rintro _ _ sx10 hx10 ⟨hp9, t9, he9, hg9, rfl⟩ fr9
   repeat (first | refine thenQ_p ?_ | refine blockQ_p ?_)
   refine retP_x [_, _, _] _ (List.Perm.refl _) (h1.t h2|>.t h3|>.t h4|>.t h5|>.t h6|>.t h7|>.t h8|>.t h9|>.t hx10) (fun sR hS2 => ?_)
   rw [he9] at hq
   exact ⟨hp9, t9, hq, hg9, rfl⟩
  rintro _ _ s10 h10 ⟨_, t10, he10, hg10, _, rfl⟩
  rw [he10] at hq
  simp only [PR.and] at hq
  simp only [cQ9, nQ9]
  refine Nt <| Sr <| JO_q (QE_ldA 0 [_, _, _, _] Z Z Z Z Z) Z <| Wt 1 [_, _, _, _] Y9 <| Nt <| Zo <| ?_
  refine retP_mk [_, _, _] _ (.inr Z) (.agg (us := [_, _, _, _]) 1 Z Z Z Z Z (.nil)) Z (h1.t h2|>.t h3|>.t h4|>.t h5|>.t h6|>.t h7|>.t h8|>.t h9|>.t h10) (fun sR hS2 => ?_)
  exact ⟨_, _, hq, hg10, ⟨none, 0, 0, rfl, wds_nil _, hu8, (Nat.le_trans hx5 O)⟩, rfl⟩
 simp only [cQ9, nQ9]
 rw [if_neg (bNe hb4)] at hq
 refine At Z Z <| Zz Z <| Sr <| Wl 2 Y6 <| Jc Z Z Z (acc_ac D [_, _, _] _ _ (hG.le (h1.t h2|>.t h3|>.t h4)) l t bp [118, 97, 114] hl hg) ?_
 rintro _ _ s11 h11 ⟨_, (⟨hb11, rfl, rfl⟩ | ⟨hb11, rfl, rfl⟩), rfl⟩
 ·
  simp only [cQ9, nQ9]
  rw [if_pos hb11] at hq
  refine At Z Z <| Zy Z <| Zr <| Wl 2 Y6 <| ?_
  refine JO_callP (first := []) (captured := []) Z Z Z (name_ap D _ _ (hG.le (h1.t h2|>.t h3|>.t h4|>.t h11)) l (advP l t) bp hl hg.adv [_, _, _]  ) ?_ ?_
  ·
   rintro _ _ sx12 hx12 ⟨hp9, t9, he9, hg9, rfl⟩ fr9
   repeat (first | refine thenQ_p ?_ | refine blockQ_p ?_)
   refine retP_x [_, _, _] _ (List.Perm.refl _) (h1.t h2|>.t h3|>.t h4|>.t h11|>.t hx12) (fun sR hS2 => ?_)
   rw [he9] at hq
   exact ⟨hp9, t9, hq, hg9, rfl⟩
  rintro _ _ s12 h12 ⟨x12, t12, he12, hg12, ⟨rfl, hx12⟩, rfl⟩
  rw [he12] at hq
  simp only [PR.and] at hq
  simp only [cQ9, nQ9]
  refine W0 Y5 <| Wt 0 [_, _, _, _] Y9 <| Wb Y5 <| Wt 0 [_, _, _, _] Y9 <| Zn <| Zb <| Zt <| Sr <| Wl 2 Y6 <| JO_bs [(_, _)] [_] Z Z Z Z Z Z Z Z Z ?_
  intro β13 s13 h13 hc13
  refine JO_callP (first := []) (captured := []) Z Z Z (exp_ap D _ _ (hG.le (h1.t h2|>.t h3|>.t h4|>.t h11|>.t h12|>.t h13)) l t12 bp hl hg12 [_, _, _] [[59]] _ _ _ (str1 (hc13.le (Lr D)) (by decide)) ) ?_ ?_
  ·
   rintro _ _ sx14 hx14 ⟨hp9, t9, he9, hg9, rfl⟩ fr9
   repeat (first | refine thenQ_p ?_ | refine blockQ_p ?_)
   refine retP_x [_, _, _] _ (List.Perm.refl _) (h1.t h2|>.t h3|>.t h4|>.t h11|>.t h12|>.t h13|>.t hx14) (fun sR hS2 => ?_)
   rw [he9] at hq
   exact ⟨hp9, t9, hq, hg9, rfl⟩
  rintro _ _ s14 h14 ⟨_, t14, he14, hg14, _, rfl⟩
  rw [he14] at hq
  simp only [PR.and] at hq
  simp only [cQ9, nQ9]
  refine Nt <| Sr <| JO_q (QE_ldA 0 [_, _, _, _] Z Z Z Z Z) Z <| Wt 1 [_, _, _, _] Y9 <| Nt <| Zo <| ?_
  refine retP_mk [_, _, _] _ (.inr Z) (.agg (us := [_, _, _, _]) 1 Z Z Z Z Z (.nil)) Z (h1.t h2|>.t h3|>.t h4|>.t h11|>.t h12|>.t h13|>.t h14) (fun sR hS2 => ?_)
  exact ⟨_, _, hq, hg14, ⟨none, 0, 0, rfl, wds_nil _, u32z, (Nat.le_trans hx12 O)⟩, rfl⟩
 simp only [cQ9, nQ9]
 rw [if_neg (bNe hb11)] at hq
 refine At Z Z <| Zz Z <| Sr <| Wl 2 Y6 <| JO_bs [(_, _)] [_] Z Z Z Z Z Z Z Z Z ?_
 intro β15 s15 h15 hc15
 refine JO_callP (first := []) (captured := []) Z Z Z (exp_ap D _ _ (hG.le (h1.t h2|>.t h3|>.t h4|>.t h11|>.t h15)) l t bp hl hg [_, _, _] [[97, 114, 114, 97, 121]] _ _ _ (str1 (hc15.le (Lr D)) (by decide)) ) ?_ ?_
 ·
  rintro _ _ sx16 hx16 ⟨hp9, t9, he9, hg9, rfl⟩ fr9
  repeat (first | refine thenQ_p ?_ | refine blockQ_p ?_)
  refine retP_x [_, _, _] _ (List.Perm.refl _) (h1.t h2|>.t h3|>.t h4|>.t h11|>.t h15|>.t hx16) (fun sR hS2 => ?_)
  rw [he9] at hq
  exact ⟨hp9, t9, hq, hg9, rfl⟩
 rintro _ _ s16 h16 ⟨_, t16, he16, hg16, _, rfl⟩
 rw [he16] at hq
 simp only [PR.and] at hq
 simp only [cQ9, nQ9]
 refine Nt <| Sr <| Wl 2 Y6 <| ?_
 refine JO_callP (first := []) (captured := []) Z Z Z (name_ap D _ _ (hG.le (h1.t h2|>.t h3|>.t h4|>.t h11|>.t h15|>.t h16)) l t16 bp hl hg16 [_, _, _]  ) ?_ ?_
 ·
  rintro _ _ sx17 hx17 ⟨hp9, t9, he9, hg9, rfl⟩ fr9
  repeat (first | refine thenQ_p ?_ | refine blockQ_p ?_)
  refine retP_x [_, _, _] _ (List.Perm.refl _) (h1.t h2|>.t h3|>.t h4|>.t h11|>.t h15|>.t h16|>.t hx17) (fun sR hS2 => ?_)
  rw [he9] at hq
  exact ⟨hp9, t9, hq, hg9, rfl⟩
 rintro _ _ s17 h17 ⟨x17, t17, he17, hg17, ⟨rfl, hx17⟩, rfl⟩
 rw [he17] at hq
 simp only [PR.and] at hq
 simp only [cQ9, nQ9]
 refine W0 Y5 <| Wt 0 [_, _, _, _] Y9 <| Wb Y5 <| Wt 0 [_, _, _, _] Y9 <| Nt <| Sr <| Wl 2 Y6 <| JO_bs [(_, _)] [_] Z Z Z Z Z Z Z Z Z ?_
 intro β18 s18 h18 hc18
 refine JO_callP (first := []) (captured := []) Z Z Z (exp_ap D _ _ (hG.le (h1.t h2|>.t h3|>.t h4|>.t h11|>.t h15|>.t h16|>.t h17|>.t h18)) l t17 bp hl hg17 [_, _, _] [[91]] _ _ _ (str1 (hc18.le (Lr D)) (by decide)) ) ?_ ?_
 ·
  rintro _ _ sx19 hx19 ⟨hp9, t9, he9, hg9, rfl⟩ fr9
  repeat (first | refine thenQ_p ?_ | refine blockQ_p ?_)
  refine retP_x [_, _, _] _ (List.Perm.refl _) (h1.t h2|>.t h3|>.t h4|>.t h11|>.t h15|>.t h16|>.t h17|>.t h18|>.t hx19) (fun sR hS2 => ?_)
  rw [he9] at hq
  exact ⟨hp9, t9, hq, hg9, rfl⟩
 rintro _ _ s19 h19 ⟨_, t19, he19, hg19, _, rfl⟩
 rw [he19] at hq
 simp only [PR.and] at hq
 simp only [cQ9, nQ9]
 refine Nt <| Sr <| Wl 2 Y6 <| ?_
 refine JO_callP (first := []) (captured := []) Z Z Z (numb_ap D _ _ (hG.le (h1.t h2|>.t h3|>.t h4|>.t h11|>.t h15|>.t h16|>.t h17|>.t h18|>.t h19)) l t19 bp hl hg19 [_, _, _]  ) ?_ ?_
 ·
  rintro _ _ sx20 hx20 ⟨hp9, t9, he9, hg9, rfl⟩ fr9
  repeat (first | refine thenQ_p ?_ | refine blockQ_p ?_)
  refine retP_x [_, _, _] _ (List.Perm.refl _) (h1.t h2|>.t h3|>.t h4|>.t h11|>.t h15|>.t h16|>.t h17|>.t h18|>.t h19|>.t hx20) (fun sR hS2 => ?_)
  rw [he9] at hq
  exact ⟨hp9, t9, hq, hg9, rfl⟩
 rintro _ _ s20 h20 ⟨x20, t20, he20, hg20, ⟨rfl, hu20⟩, rfl⟩
 rw [he20] at hq
 simp only [PR.and] at hq
 simp only [cQ9, nQ9]
 refine Wb Y5 <| Wt 0 [_, _, _, _] Y9 <| Nt <| Sr <| Wl 2 Y6 <| JO_bs [(_, _)] [_] Z Z Z Z Z Z Z Z Z ?_
 intro β21 s21 h21 hc21
 refine JO_callP (first := []) (captured := []) Z Z Z (exp_ap D _ _ (hG.le (h1.t h2|>.t h3|>.t h4|>.t h11|>.t h15|>.t h16|>.t h17|>.t h18|>.t h19|>.t h20|>.t h21)) l t20 bp hl hg20 [_, _, _] [[93]] _ _ _ (str1 (hc21.le (Lr D)) (by decide)) ) ?_ ?_
 ·
  rintro _ _ sx22 hx22 ⟨hp9, t9, he9, hg9, rfl⟩ fr9
  repeat (first | refine thenQ_p ?_ | refine blockQ_p ?_)
  refine retP_x [_, _, _] _ (List.Perm.refl _) (h1.t h2|>.t h3|>.t h4|>.t h11|>.t h15|>.t h16|>.t h17|>.t h18|>.t h19|>.t h20|>.t h21|>.t hx22) (fun sR hS2 => ?_)
  rw [he9] at hq
  exact ⟨hp9, t9, hq, hg9, rfl⟩
 rintro _ _ s22 h22 ⟨_, t22, he22, hg22, _, rfl⟩
 rw [he22] at hq
 simp only [PR.and] at hq
 simp only [cQ9, nQ9]
 refine Nt <| Sr <| Wl 2 Y6 <| Jc Z Z Z (acc_ac D [_, _, _] _ _ (hG.le (h1.t h2|>.t h3|>.t h4|>.t h11|>.t h15|>.t h16|>.t h17|>.t h18|>.t h19|>.t h20|>.t h21|>.t h22)) l t22 bp [61] hl hg22) ?_
 rintro _ _ s23 h23 ⟨_, (⟨hb23, rfl, rfl⟩ | ⟨hb23, rfl, rfl⟩), rfl⟩
 ·
  simp only [cQ9, nQ9]
  rw [if_pos hb23] at hq
  refine Nt <| Zy Z <| JC_front 2 <| JC_front 1 <| JC_front 3 <| Zr <| Wl 2 Y6 <| JO_q (QE_func Z) Z ?_
  refine JO_callP (first := []) (captured := []) Z Z Z (nums_list n hN D _ _ (hG.le (h1.t h2|>.t h3|>.t h4|>.t h11|>.t h15|>.t h16|>.t h17|>.t h18|>.t h19|>.t h20|>.t h21|>.t h22|>.t h23)) l (advP l t22) bp β3 β1 hl hg22.adv _ _ _ (and_out hq hr)) ?_ ?_
  ·
   rintro _ _ sx24 hx24 ⟨hp7, t7, v7, M7, he7, hg7, rfl⟩ fr9
   repeat (first | refine thenQ_p ?_ | refine blockQ_p ?_)
   refine retP_x (_ :: _ :: (M7 ++ [_])) _ pm2 (h1.t h2|>.t h3|>.t h4|>.t h11|>.t h15|>.t h16|>.t h17|>.t h18|>.t h19|>.t h20|>.t h21|>.t h22|>.t h23|>.t hx24) (fun sR hS2 => ?_)
   rw [he7] at hq
   exact ⟨hp7, t7, hq, hg7, rfl⟩
  rintro _ _ s24 h24 ⟨xs9, t9, v9, M9, he9, hg9, rfl, hO9, hA9⟩
  rw [he9] at hq
  simp only [PR.and] at hq
  obtain ⟨A9, c9, rfl, hk9, hm9⟩ := Own.slice hO9
  refine Zn <| Zb <| Zt <| Zs <| JC_pubX [_, _, _] M9 _ ?_
  intro s25 h25 hpub25
  simp only [cQ9, nQ9]
  have hWd : Wds s25 A9 xs9.length c9 xs9 := Own.wds hO9 hA9 hpub25
  refine JC_front 2 <| JC_front 3 <| JC_front 3 <| Zr <| Wl 2 Y6 <| JO_bs [(_, _)] [_] Z Z Z Z Z Z Z Z Z ?_
  intro β26 s26 h26 hc26
  refine JO_callP (first := []) (captured := []) Z Z Z (exp_ap D _ _ (hG.le (h1.t h2|>.t h3|>.t h4|>.t h11|>.t h15|>.t h16|>.t h17|>.t h18|>.t h19|>.t h20|>.t h21|>.t h22|>.t h23|>.t h24|>.t h25|>.t h26)) l t9 bp hl hg9 [_, _, _] [[59]] _ _ _ (str1 (hc26.le (Lr D)) (by decide)) ) ?_ ?_
  ·
   rintro _ _ sx27 hx27 ⟨hp9, t9, he9, hg9, rfl⟩ fr9
   repeat (first | refine thenQ_p ?_ | refine blockQ_p ?_)
   refine retP_x [_, _, _] _ (List.Perm.refl _) (h1.t h2|>.t h3|>.t h4|>.t h11|>.t h15|>.t h16|>.t h17|>.t h18|>.t h19|>.t h20|>.t h21|>.t h22|>.t h23|>.t h24|>.t h25|>.t h26|>.t hx27) (fun sR hS2 => ?_)
   rw [he9] at hq
   exact ⟨hp9, t9, hq, hg9, rfl⟩
  rintro _ _ s27 h27 ⟨_, t27, he27, hg27, _, rfl⟩
  rw [he27] at hq
  simp only [PR.and] at hq
  simp only [cQ9, nQ9]
  refine Nt <| Sr <| JO_q (QE_ldA 0 [_, _, _, _] Z Z Z Z Z) Z <| Wt 1 [_, _, _, _] Y9 <| Nt <| Zo <| ?_
  refine retP_mk [_, _, _] _ (.inr Z) (.agg (us := [_, _, _, _]) 1 Z Z Z Z Z (.nil)) Z (h1.t h2|>.t h3|>.t h4|>.t h11|>.t h15|>.t h16|>.t h17|>.t h18|>.t h19|>.t h20|>.t h21|>.t h22|>.t h23|>.t h24|>.t h25|>.t h26|>.t h27) (fun sR hS2 => ?_)
  exact ⟨_, _, hq, hg27, ⟨A9, _, c9, rfl, hWd.le (h26.t h27|>.t hS2), hu20, (Nat.le_trans hx17 O)⟩, rfl⟩
 simp only [cQ9, nQ9]
 rw [if_neg (bNe hb23)] at hq
 refine Nt <| Zz Z <| Zk <| Zb <| Zt <| Sr <| Wl 2 Y6 <| JO_bs [(_, _)] [_] Z Z Z Z Z Z Z Z Z ?_
 intro β28 s28 h28 hc28
 refine JO_callP (first := []) (captured := []) Z Z Z (exp_ap D _ _ (hG.le (h1.t h2|>.t h3|>.t h4|>.t h11|>.t h15|>.t h16|>.t h17|>.t h18|>.t h19|>.t h20|>.t h21|>.t h22|>.t h23|>.t h28)) l t22 bp hl hg22 [_, _, _] [[59]] _ _ _ (str1 (hc28.le (Lr D)) (by decide)) ) ?_ ?_
 ·
  rintro _ _ sx29 hx29 ⟨hp9, t9, he9, hg9, rfl⟩ fr9
  repeat (first | refine thenQ_p ?_ | refine blockQ_p ?_)
  refine retP_x [_, _, _] _ (List.Perm.refl _) (h1.t h2|>.t h3|>.t h4|>.t h11|>.t h15|>.t h16|>.t h17|>.t h18|>.t h19|>.t h20|>.t h21|>.t h22|>.t h23|>.t h28|>.t hx29) (fun sR hS2 => ?_)
  rw [he9] at hq
  exact ⟨hp9, t9, hq, hg9, rfl⟩
 rintro _ _ s29 h29 ⟨_, t29, he29, hg29, _, rfl⟩
 rw [he29] at hq
 simp only [PR.and] at hq
 simp only [cQ9, nQ9]
 refine Nt <| Sr <| JO_q (QE_ldA 0 [_, _, _, _] Z Z Z Z Z) Z <| Wt 1 [_, _, _, _] Y9 <| Nt <| Zo <| ?_
 refine retP_mk [_, _, _] _ (.inr Z) (.agg (us := [_, _, _, _]) 1 Z Z Z Z Z (.nil)) Z (h1.t h2|>.t h3|>.t h4|>.t h11|>.t h15|>.t h16|>.t h17|>.t h18|>.t h19|>.t h20|>.t h21|>.t h22|>.t h23|>.t h28|>.t h29) (fun sR hS2 => ?_)
 exact ⟨_, _, hq, hg29, ⟨none, 0, 0, rfl, wds_nil _, hu20, (Nat.le_trans hx17 O)⟩, rfl⟩
theorem fun_st (n : Nat) (hN : n ≤ 1000000) : CP 62 [] (fun l t => pFun l n t) FncV := by
 intro D L s hG l t bp hl hg hr
 dsimp only at hr ⊢
 obtain ⟨r, hq⟩ : ∃ r, r = pFun l n t := ⟨_, rfl⟩
 rw [← hq] at hr ⊢
 rw [pFun] at hq
 refine AP_enter (TT := TT) (fn := Tryz.f62) TT_ok Tryz.func62 V Z Tryz.ntmps62 Z (rs := [.cell 2 56]) Z [(0, _)] Z <| Sr <| JO_box Z Z Z ?_
 intro β1 s1 h1
 refine JO_allocZ Z [_, _, _, _] Z Z ?_
 intro β2 s2 h2
 refine Nt <| Sr <| Wl 1 Y6 <| ?_
 refine JO_callP (first := []) (captured := []) Z Z Z (name_ap D _ _ (hG.le (h1.t h2)) l t bp hl hg [_, _]  ) ?_ ?_
 ·
  rintro _ _ sx3 hx3 ⟨hp9, t9, he9, hg9, rfl⟩ fr9
  repeat (first | refine thenQ_p ?_ | refine blockQ_p ?_)
  refine retP_x [_, _] _ (List.Perm.refl _) (h1.t h2|>.t hx3) (fun sR hS2 => ?_)
  rw [he9] at hq
  exact ⟨hp9, t9, hq, hg9, rfl⟩
 rintro _ _ s3 h3 ⟨x3, t3, he3, hg3, ⟨rfl, hx3⟩, rfl⟩
 rw [he3] at hq
 simp only [PR.and] at hq
 simp only [cQ9, nQ9]
 refine JO_q (QE_build [(_, _)] [_, _, _, _] Z Z Z Z Z Z) Z <| JO_allocZ Z [_, _, _, _] Z Z ?_
 intro β4 s4 h4
 refine Wt 0 [_, _, _, _] Y9 <| Nt <| Sr <| Wl 2 Y6 <| JO_bs [(_, _)] [_] Z Z Z Z Z Z Z Z Z ?_
 intro β5 s5 h5 hc5
 refine JO_callP (first := []) (captured := []) Z Z Z (exp_ap D _ _ (hG.le (h1.t h2|>.t h3|>.t h4|>.t h5)) l t3 bp hl hg3 [_, _, _] [[40]] _ _ _ (str1 (hc5.le (Lr D)) (by decide)) ) ?_ ?_
 ·
  rintro _ _ sx6 hx6 ⟨hp9, t9, he9, hg9, rfl⟩ fr9
  repeat (first | refine thenQ_p ?_ | refine blockQ_p ?_)
  refine retP_x [_, _, _] _ (List.Perm.refl _) (h1.t h2|>.t h3|>.t h4|>.t h5|>.t hx6) (fun sR hS2 => ?_)
  rw [he9] at hq
  exact ⟨hp9, t9, hq, hg9, rfl⟩
 rintro _ _ s6 h6 ⟨_, t6, he6, hg6, _, rfl⟩
 rw [he6] at hq
 simp only [PR.and] at hq
 simp only [cQ9, nQ9]
 refine Nt <| Zs <| Sr <| Wl 2 Y6 <| Jc Z Z Z (is_ac D [_, _, _] _ _ l t6 bp [41]) ?_
 rintro _ _ s7 h7 ⟨_, ⟨rfl, (⟨hb7, rfl⟩ | ⟨hb7, rfl⟩)⟩, rfl⟩
 ·
  simp only [cQ9, nQ9]
  rw [if_pos hb7] at hq
  refine ZqnT Z Z <| Nt <| Zz Z <| Zk <| Zt <| Zs <| ?_
  rw [pBody] at hq
  refine Zr <| Wl 2 Y6 <| JO_bs [(_, _), (_, _)] [_, _] Z Z Z Z Z Z Z Z Z ?_
  intro β8 s8 h8 hc8
  refine JO_callP (first := []) (captured := []) Z Z Z (exp_ap D _ _ (hG.le (h1.t h2|>.t h3|>.t h4|>.t h5|>.t h6|>.t h7|>.t h8)) l t6 bp hl hg6 [_, _, _] [[41], [123]] _ _ _ (str2 (hc8.le (Lr D)) (by decide)) ) ?_ ?_
  ·
   rintro _ _ sx9 hx9 ⟨hp9, t9, he9, hg9, rfl⟩ fr9
   repeat (first | refine thenQ_p ?_ | refine blockQ_p ?_)
   refine retP_x [_, _, _] _ (List.Perm.refl _) (h1.t h2|>.t h3|>.t h4|>.t h5|>.t h6|>.t h7|>.t h8|>.t hx9) (fun sR hS2 => ?_)
   rw [he9] at hq
   exact ⟨hp9, t9, hq, hg9, rfl⟩
  rintro _ _ s9 h9 ⟨_, t9, he9, hg9, _, rfl⟩
  rw [he9] at hq
  simp only [PR.and] at hq
  simp only [cQ9, nQ9]
  refine Nt <| Zs <| Sr <| Wl 2 Y6 <| Jc Z Z Z (acc_ac D [_, _, _] _ _ (hG.le (h1.t h2|>.t h3|>.t h4|>.t h5|>.t h6|>.t h7|>.t h8|>.t h9)) l t9 bp [118, 97, 114] hl hg9) ?_
  rintro _ _ s10 h10 ⟨_, (⟨hb10, rfl, rfl⟩ | ⟨hb10, rfl, rfl⟩), rfl⟩
  ·
   simp only [cQ9, nQ9]
   rw [if_pos hb10] at hq
   refine Nt <| Zy Z <| Zs <| JC_front 2 <| JC_front 1 <| JC_front 3 <| Zr <| Wl 2 Y6 <| JO_q (QE_func Z) Z ?_
   refine JO_callP (first := []) (captured := []) Z Z Z (names2_list n hN D _ _ (hG.le (h1.t h2|>.t h3|>.t h4|>.t h5|>.t h6|>.t h7|>.t h8|>.t h9|>.t h10)) l (advP l t9) bp β4 β1 hl hg9.adv _ _ _ (and_out hq hr)) ?_ ?_
   ·
    rintro _ _ sx11 hx11 ⟨hp7, t7, v7, M7, he7, hg7, rfl⟩ fr9
    repeat (first | refine thenQ_p ?_ | refine blockQ_p ?_)
    refine retP_x (_ :: _ :: (M7 ++ [_])) _ pm2 (h1.t h2|>.t h3|>.t h4|>.t h5|>.t h6|>.t h7|>.t h8|>.t h9|>.t h10|>.t hx11) (fun sR hS2 => ?_)
    rw [he7] at hq
    exact ⟨hp7, t7, hq, hg7, rfl⟩
   rintro _ _ s11 h11 ⟨xs8, t8, v8, M8, he8, hg8, rfl, hO8, hA8⟩
   rw [he8] at hq
   simp only [PR.and] at hq
   obtain ⟨A8, c8, rfl, hk8, hm8⟩ := Own.slice hO8
   refine Nt <| JC_pubX [_, _, _] M8 _ ?_
   intro s12 h12 hpub12
   simp only [cQ9, nQ9]
   have hQs : Strs s12 A8 xs8.length c8 xs8 := Own.strs hO8 (fun x hx => Nat.le_trans (hA8 x hx) O) hpub12 rfl
   refine JC_front 2 <| JC_front 3 <| JC_front 3 <| Zr <| Wl 2 Y6 <| JO_bs [(_, _)] [_] Z Z Z Z Z Z Z Z Z ?_
   intro β13 s13 h13 hc13
   refine JO_callP (first := []) (captured := []) Z Z Z (exp_ap D _ _ (hG.le (h1.t h2|>.t h3|>.t h4|>.t h5|>.t h6|>.t h7|>.t h8|>.t h9|>.t h10|>.t h11|>.t h12|>.t h13)) l t8 bp hl hg8 [_, _, _] [[59]] _ _ _ (str1 (hc13.le (Lr D)) (by decide)) ) ?_ ?_
   ·
    rintro _ _ sx14 hx14 ⟨hp9, t9, he9, hg9, rfl⟩ fr9
    repeat (first | refine thenQ_p ?_ | refine blockQ_p ?_)
    refine retP_x [_, _, _] _ (List.Perm.refl _) (h1.t h2|>.t h3|>.t h4|>.t h5|>.t h6|>.t h7|>.t h8|>.t h9|>.t h10|>.t h11|>.t h12|>.t h13|>.t hx14) (fun sR hS2 => ?_)
    rw [he9] at hq
    exact ⟨hp9, t9, hq, hg9, rfl⟩
   rintro _ _ s14 h14 ⟨_, t14, he14, hg14, _, rfl⟩
   rw [he14] at hq
   simp only [PR.and] at hq
   simp only [cQ9, nQ9]
   refine Nt <| Sr <| Wl 2 Y6 <| ?_
   refine JO_callP (first := []) (captured := []) Z Z Z (CP.at_ ((stm_all n hN).1) D [_, _, _] _ _ (hG.le (h1.t h2|>.t h3|>.t h4|>.t h5|>.t h6|>.t h7|>.t h8|>.t h9|>.t h10|>.t h11|>.t h12|>.t h13|>.t h14)) l t14 bp hl hg14 (and_out hq hr)) ?_ ?_
   ·
    rintro _ _ sx15 hx15 ⟨hp9, t9, he9, hg9, rfl⟩ fr9
    repeat (first | refine thenQ_p ?_ | refine blockQ_p ?_)
    refine retP_x [_, _, _] _ (List.Perm.refl _) (h1.t h2|>.t h3|>.t h4|>.t h5|>.t h6|>.t h7|>.t h8|>.t h9|>.t h10|>.t h11|>.t h12|>.t h13|>.t h14|>.t hx15) (fun sR hS2 => ?_)
    rw [he9] at hq
    exact ⟨hp9, t9, hq, hg9, rfl⟩
   rintro _ _ s15 h15 ⟨x15, t15, he15, hg15, ⟨d15, A15, n15, c15, rfl, hE15⟩, rfl⟩
   rw [he15] at hq
   simp only [PR.and] at hq
   simp only [cQ9, nQ9]
   refine Wb Y5 <| Wt 0 [_, _, _, _] Y9 <| Nt <| Sr <| JO_q (QE_ldA 0 [_, _, _, _] Z Z Z Z Z) Z <| Wt 1 [_, _, _, _] Y9 <| Nt <| Zo <| ?_
   refine retP_mk [_, _, _] _ (.inr Z) (.agg (us := [_, _, _, _]) 1 Z Z Z Z Z (.nil)) Z (h1.t h2|>.t h3|>.t h4|>.t h5|>.t h6|>.t h7|>.t h8|>.t h9|>.t h10|>.t h11|>.t h12|>.t h13|>.t h14|>.t h15) (fun sR hS2 => ?_)
   exact ⟨_, _, hq, hg15, ⟨d15, none, 0, 0, _, _, _, A15, n15, c15, rfl, strs_nil _, hQs.le (h13.t h14|>.t h15|>.t hS2), hE15.le ((Lr D).t hS2), Nat.le_trans hx3 O⟩, rfl⟩
  simp only [cQ9, nQ9]
  rw [if_neg (bNe hb10)] at hq
  refine Nt <| Zz Z <| Zk <| Zt <| Sr <| Wl 2 Y6 <| ?_
  refine JO_callP (first := []) (captured := []) Z Z Z (CP.at_ ((stm_all n hN).1) D [_, _, _] _ _ (hG.le (h1.t h2|>.t h3|>.t h4|>.t h5|>.t h6|>.t h7|>.t h8|>.t h9|>.t h10)) l t9 bp hl hg9 (and_out hq hr)) ?_ ?_
  ·
   rintro _ _ sx16 hx16 ⟨hp9, t9, he9, hg9, rfl⟩ fr9
   repeat (first | refine thenQ_p ?_ | refine blockQ_p ?_)
   refine retP_x [_, _, _] _ (List.Perm.refl _) (h1.t h2|>.t h3|>.t h4|>.t h5|>.t h6|>.t h7|>.t h8|>.t h9|>.t h10|>.t hx16) (fun sR hS2 => ?_)
   rw [he9] at hq
   exact ⟨hp9, t9, hq, hg9, rfl⟩
  rintro _ _ s16 h16 ⟨x16, t16, he16, hg16, ⟨d16, A16, n16, c16, rfl, hE16⟩, rfl⟩
  rw [he16] at hq
  simp only [PR.and] at hq
  simp only [cQ9, nQ9]
  refine Wb Y5 <| Wt 0 [_, _, _, _] Y9 <| Nt <| Sr <| JO_q (QE_ldA 0 [_, _, _, _] Z Z Z Z Z) Z <| Wt 1 [_, _, _, _] Y9 <| Nt <| Zo <| ?_
  refine retP_mk [_, _, _] _ (.inr Z) (.agg (us := [_, _, _, _]) 1 Z Z Z Z Z (.nil)) Z (h1.t h2|>.t h3|>.t h4|>.t h5|>.t h6|>.t h7|>.t h8|>.t h9|>.t h10|>.t h16) (fun sR hS2 => ?_)
  exact ⟨_, _, hq, hg16, ⟨d16, none, 0, 0, none, 0, 0, A16, n16, c16, rfl, strs_nil _, strs_nil _, hE16.le ((Lr D).t hS2), Nat.le_trans hx3 O⟩, rfl⟩
 simp only [cQ9, nQ9]
 rw [if_neg (bNe hb7)] at hq
 refine ZqnF Z Z <| Nt <| Zy Z <| JC_front 2 <| JC_front 1 <| JC_front 3 <| Zr <| Wl 2 Y6 <| JO_q (QE_func Z) Z ?_
 refine JO_callP (first := []) (captured := []) Z Z Z (names1_list n hN D _ _ (hG.le (h1.t h2|>.t h3|>.t h4|>.t h5|>.t h6|>.t h7)) l t6 bp β4 β1 hl hg6 _ _ _ (and_out hq hr)) ?_ ?_
 ·
  rintro _ _ sx17 hx17 ⟨hp7, t7, v7, M7, he7, hg7, rfl⟩ fr9
  repeat (first | refine thenQ_p ?_ | refine blockQ_p ?_)
  refine retP_x (_ :: _ :: (M7 ++ [_])) _ pm2 (h1.t h2|>.t h3|>.t h4|>.t h5|>.t h6|>.t h7|>.t hx17) (fun sR hS2 => ?_)
  rw [he7] at hq
  exact ⟨hp7, t7, hq, hg7, rfl⟩
 rintro _ _ s17 h17 ⟨xs9, t9, v9, M9, he9, hg9, rfl, hO9, hA9⟩
 rw [he9] at hq
 simp only [PR.and] at hq
 obtain ⟨A9, c9, rfl, hk9, hm9⟩ := Own.slice hO9
 refine Nt <| Zs <| JC_pubX [_, _, _] M9 _ ?_
 intro s18 h18 hpub18
 simp only [cQ9, nQ9]
 have hPs : Strs s18 A9 xs9.length c9 xs9 := Own.strs hO9 (fun x hx => Nat.le_trans (hA9 x hx) O) hpub18 rfl
 refine JC_front 2 <| JC_front 3 <| JC_front 3 ?_
 rw [pBody] at hq
 refine Zr <| Wl 2 Y6 <| JO_bs [(_, _), (_, _)] [_, _] Z Z Z Z Z Z Z Z Z ?_
 intro β19 s19 h19 hc19
 refine JO_callP (first := []) (captured := []) Z Z Z (exp_ap D _ _ (hG.le (h1.t h2|>.t h3|>.t h4|>.t h5|>.t h6|>.t h7|>.t h17|>.t h18|>.t h19)) l t9 bp hl hg9 [_, _, _] [[41], [123]] _ _ _ (str2 (hc19.le (Lr D)) (by decide)) ) ?_ ?_
 ·
  rintro _ _ sx20 hx20 ⟨hp9, t9, he9, hg9, rfl⟩ fr9
  repeat (first | refine thenQ_p ?_ | refine blockQ_p ?_)
  refine retP_x [_, _, _] _ (List.Perm.refl _) (h1.t h2|>.t h3|>.t h4|>.t h5|>.t h6|>.t h7|>.t h17|>.t h18|>.t h19|>.t hx20) (fun sR hS2 => ?_)
  rw [he9] at hq
  exact ⟨hp9, t9, hq, hg9, rfl⟩
 rintro _ _ s20 h20 ⟨_, t20, he20, hg20, _, rfl⟩
 rw [he20] at hq
 simp only [PR.and] at hq
 simp only [cQ9, nQ9]
 refine Nt <| Zs <| Sr <| Wl 2 Y6 <| Jc Z Z Z (acc_ac D [_, _, _] _ _ (hG.le (h1.t h2|>.t h3|>.t h4|>.t h5|>.t h6|>.t h7|>.t h17|>.t h18|>.t h19|>.t h20)) l t20 bp [118, 97, 114] hl hg20) ?_
 rintro _ _ s21 h21 ⟨_, (⟨hb21, rfl, rfl⟩ | ⟨hb21, rfl, rfl⟩), rfl⟩
 ·
  simp only [cQ9, nQ9]
  rw [if_pos hb21] at hq
  refine Nt <| Zy Z <| Zs <| JC_front 2 <| JC_front 1 <| JC_front 3 <| Zr <| Wl 2 Y6 <| JO_q (QE_func Z) Z ?_
  refine JO_callP (first := []) (captured := []) Z Z Z (names2_list n hN D _ _ (hG.le (h1.t h2|>.t h3|>.t h4|>.t h5|>.t h6|>.t h7|>.t h17|>.t h18|>.t h19|>.t h20|>.t h21)) l (advP l t20) bp β4 β1 hl hg20.adv _ _ _ (and_out hq hr)) ?_ ?_
  ·
   rintro _ _ sx22 hx22 ⟨hp7, t7, v7, M7, he7, hg7, rfl⟩ fr9
   repeat (first | refine thenQ_p ?_ | refine blockQ_p ?_)
   refine retP_x (_ :: _ :: (M7 ++ [_])) _ pm2 (h1.t h2|>.t h3|>.t h4|>.t h5|>.t h6|>.t h7|>.t h17|>.t h18|>.t h19|>.t h20|>.t h21|>.t hx22) (fun sR hS2 => ?_)
   rw [he7] at hq
   exact ⟨hp7, t7, hq, hg7, rfl⟩
  rintro _ _ s22 h22 ⟨xs8, t8, v8, M8, he8, hg8, rfl, hO8, hA8⟩
  rw [he8] at hq
  simp only [PR.and] at hq
  obtain ⟨A8, c8, rfl, hk8, hm8⟩ := Own.slice hO8
  refine Nt <| JC_pubX [_, _, _] M8 _ ?_
  intro s23 h23 hpub23
  simp only [cQ9, nQ9]
  have hQs : Strs s23 A8 xs8.length c8 xs8 := Own.strs hO8 (fun x hx => Nat.le_trans (hA8 x hx) O) hpub23 rfl
  refine JC_front 2 <| JC_front 3 <| JC_front 3 <| Zr <| Wl 2 Y6 <| JO_bs [(_, _)] [_] Z Z Z Z Z Z Z Z Z ?_
  intro β24 s24 h24 hc24
  refine JO_callP (first := []) (captured := []) Z Z Z (exp_ap D _ _ (hG.le (h1.t h2|>.t h3|>.t h4|>.t h5|>.t h6|>.t h7|>.t h17|>.t h18|>.t h19|>.t h20|>.t h21|>.t h22|>.t h23|>.t h24)) l t8 bp hl hg8 [_, _, _] [[59]] _ _ _ (str1 (hc24.le (Lr D)) (by decide)) ) ?_ ?_
  ·
   rintro _ _ sx25 hx25 ⟨hp9, t9, he9, hg9, rfl⟩ fr9
   repeat (first | refine thenQ_p ?_ | refine blockQ_p ?_)
   refine retP_x [_, _, _] _ (List.Perm.refl _) (h1.t h2|>.t h3|>.t h4|>.t h5|>.t h6|>.t h7|>.t h17|>.t h18|>.t h19|>.t h20|>.t h21|>.t h22|>.t h23|>.t h24|>.t hx25) (fun sR hS2 => ?_)
   rw [he9] at hq
   exact ⟨hp9, t9, hq, hg9, rfl⟩
  rintro _ _ s25 h25 ⟨_, t25, he25, hg25, _, rfl⟩
  rw [he25] at hq
  simp only [PR.and] at hq
  simp only [cQ9, nQ9]
  refine Nt <| Sr <| Wl 2 Y6 <| ?_
  refine JO_callP (first := []) (captured := []) Z Z Z (CP.at_ ((stm_all n hN).1) D [_, _, _] _ _ (hG.le (h1.t h2|>.t h3|>.t h4|>.t h5|>.t h6|>.t h7|>.t h17|>.t h18|>.t h19|>.t h20|>.t h21|>.t h22|>.t h23|>.t h24|>.t h25)) l t25 bp hl hg25 (and_out hq hr)) ?_ ?_
  ·
   rintro _ _ sx26 hx26 ⟨hp9, t9, he9, hg9, rfl⟩ fr9
   repeat (first | refine thenQ_p ?_ | refine blockQ_p ?_)
   refine retP_x [_, _, _] _ (List.Perm.refl _) (h1.t h2|>.t h3|>.t h4|>.t h5|>.t h6|>.t h7|>.t h17|>.t h18|>.t h19|>.t h20|>.t h21|>.t h22|>.t h23|>.t h24|>.t h25|>.t hx26) (fun sR hS2 => ?_)
   rw [he9] at hq
   exact ⟨hp9, t9, hq, hg9, rfl⟩
  rintro _ _ s26 h26 ⟨x26, t26, he26, hg26, ⟨d26, A26, n26, c26, rfl, hE26⟩, rfl⟩
  rw [he26] at hq
  simp only [PR.and] at hq
  simp only [cQ9, nQ9]
  refine Wb Y5 <| Wt 0 [_, _, _, _] Y9 <| Nt <| Sr <| JO_q (QE_ldA 0 [_, _, _, _] Z Z Z Z Z) Z <| Wt 1 [_, _, _, _] Y9 <| Nt <| Zo <| ?_
  refine retP_mk [_, _, _] _ (.inr Z) (.agg (us := [_, _, _, _]) 1 Z Z Z Z Z (.nil)) Z (h1.t h2|>.t h3|>.t h4|>.t h5|>.t h6|>.t h7|>.t h17|>.t h18|>.t h19|>.t h20|>.t h21|>.t h22|>.t h23|>.t h24|>.t h25|>.t h26) (fun sR hS2 => ?_)
  exact ⟨_, _, hq, hg26, ⟨d26, _, _, _, _, _, _, A26, n26, c26, rfl, hPs.le (h19.t h20|>.t h21|>.t h22|>.t h23|>.t h24|>.t h25|>.t h26|>.t hS2), hQs.le (h24.t h25|>.t h26|>.t hS2), hE26.le ((Lr D).t hS2), Nat.le_trans hx3 O⟩, rfl⟩
 simp only [cQ9, nQ9]
 rw [if_neg (bNe hb21)] at hq
 refine Nt <| Zz Z <| Zk <| Zt <| Sr <| Wl 2 Y6 <| ?_
 refine JO_callP (first := []) (captured := []) Z Z Z (CP.at_ ((stm_all n hN).1) D [_, _, _] _ _ (hG.le (h1.t h2|>.t h3|>.t h4|>.t h5|>.t h6|>.t h7|>.t h17|>.t h18|>.t h19|>.t h20|>.t h21)) l t20 bp hl hg20 (and_out hq hr)) ?_ ?_
 ·
  rintro _ _ sx27 hx27 ⟨hp9, t9, he9, hg9, rfl⟩ fr9
  repeat (first | refine thenQ_p ?_ | refine blockQ_p ?_)
  refine retP_x [_, _, _] _ (List.Perm.refl _) (h1.t h2|>.t h3|>.t h4|>.t h5|>.t h6|>.t h7|>.t h17|>.t h18|>.t h19|>.t h20|>.t h21|>.t hx27) (fun sR hS2 => ?_)
  rw [he9] at hq
  exact ⟨hp9, t9, hq, hg9, rfl⟩
 rintro _ _ s27 h27 ⟨x27, t27, he27, hg27, ⟨d27, A27, n27, c27, rfl, hE27⟩, rfl⟩
 rw [he27] at hq
 simp only [PR.and] at hq
 simp only [cQ9, nQ9]
 refine Wb Y5 <| Wt 0 [_, _, _, _] Y9 <| Nt <| Sr <| JO_q (QE_ldA 0 [_, _, _, _] Z Z Z Z Z) Z <| Wt 1 [_, _, _, _] Y9 <| Nt <| Zo <| ?_
 refine retP_mk [_, _, _] _ (.inr Z) (.agg (us := [_, _, _, _]) 1 Z Z Z Z Z (.nil)) Z (h1.t h2|>.t h3|>.t h4|>.t h5|>.t h6|>.t h7|>.t h17|>.t h18|>.t h19|>.t h20|>.t h21|>.t h27) (fun sR hS2 => ?_)
 exact ⟨_, _, hq, hg27, ⟨d27, _, _, _, none, 0, 0, A27, n27, c27, rfl, hPs.le (h19.t h20|>.t h21|>.t h27|>.t hS2), strs_nil _, hE27.le ((Lr D).t hS2), Nat.le_trans hx3 O⟩, rfl⟩
theorem gA_le {D : Nat} {s s' : World} {l : List Glo} {css : List (List Value)} (hle : Le D s s') (h : All2 (fun x cs => cs.length = 4 ∧ GlR s x cs) l css) : All2 (fun x cs => cs.length = 4 ∧ GlR s' x cs) l css := all2_imp h fun x cs hx => ⟨hx.1, hx.2.le hle⟩
theorem FnR.up2 {s : World} {d e : Nat} {x : Fnc} {cs : List Value} (h : FnR d s x cs) (he : d ≤ e) : FnR e s x cs := by
  obtain ⟨A1, n1, c1, A2, n2, c2, A3, n3, c3, h1, h2, h3, h4, h5⟩ := h
  exact ⟨A1, n1, c1, A2, n2, c2, A3, n3, c3, h1, h2, h3, h4.up he, h5⟩
theorem fA_le {D d e : Nat} {s s' : World} {l : List Fnc} {css : List (List Value)} (hle : Le D s s') (hd : d ≤ e) (h : All2 (fun x cs => cs.length = 4 ∧ FnR d s x cs) l css) : All2 (fun x cs => cs.length = 4 ∧ FnR e s' x cs) l css := all2_imp h fun x cs hx => ⟨hx.1, (hx.2.le hle).up2 hd⟩
structure HG where
  p : Prg
  vg : Value
  vf : Value
  Mg : Hl
  Mf : Hl
  cg : List (List Value)
  cf : List (List Value)
  t : PS
  k : Nat
theorem prog_pos {l : Str} {k : Nat} {p : Prg} {t : PS} {r : PR Prg} (h : r = pProg l k p t) (hr : r ≠ .out) : ∃ m, k = m + 1 := by
  cases k with
  | zero => exact absurd (h.trans (by simp only [pProg])) hr
  | succ m => exact ⟨m, rfl⟩
theorem prog_st (n : Nat) (hN : n ≤ 1000000) : CP 33 [] (fun l t => pProg l n ⟨[], []⟩ t) PrgV := by
 intro D L s hG l t bp hl hg hr
 dsimp only at hr ⊢
 obtain ⟨r, hq⟩ : ∃ r, r = pProg l n ⟨[], []⟩ t := ⟨_, rfl⟩
 rw [← hq] at hr ⊢
 refine AP_enter (TT := TT) (fn := Tryz.f33) TT_ok Tryz.func33 V Z Tryz.ntmps33 Z (rs := [.cell 2 25]) Z [(0, _)] Z <| Sr <| JO_allocZ Z [_, _] Z Z ?_
 intro β1 s1 h1
 refine Nt <| Sr <| JO_allocZ Z [_, _] Z Z ?_
 intro β2 s2 h2
 refine Nt <| Zs <| Zp <| ?_
 refine JC_loop (γ := HG) (fun g => [(0, _), (2, _), (3, _)]) (fun g => (β2, cb [g.vg, g.vf] 25) :: (β1, cb [.slice none 0 0, .slice none 0 0] 25) :: psB bp l g.t :: (g.Mg ++ (g.Mf ++ L))) (fun g tw => Le D s2 tw ∧ (PG l g.t ∧ r = pProg l g.k g.p g.t ∧ g.p.globals.length + g.p.funcs.length + g.k ≤ n ∧ FL.Own 52 4 g.Mg g.vg g.p.globals.length g.cg.flatten ∧ FL.Own 56 4 g.Mf g.vf g.p.funcs.length g.cf.flatten ∧ All2 (fun x cs => cs.length = 4 ∧ GlR tw x cs) g.p.globals g.cg ∧ ∃ d, All2 (fun x cs => cs.length = 4 ∧ FnR d tw x cs) g.p.funcs g.cf)) (fun g => g.k) (fun _ _ _ h hl => ⟨h.1.trans hl, ⟨h.2.1, h.2.2.1, h.2.2.2.1, h.2.2.2.2.1, h.2.2.2.2.2.1, gA_le hl h.2.2.2.2.2.2.1, _, fA_le hl (Nat.le_refl _) h.2.2.2.2.2.2.2.choose_spec⟩⟩) ⟨⟨[], []⟩, .slice none 0 0, .slice none 0 0, [], [], [], [], t, n⟩ (.cons Z (.cons Z (.cons Z (.nil _)))) Z ⟨Le.refl _, ⟨hg, hq, by simp, .nil, .nil, .nil, 0, .nil⟩⟩ ?_
 intro g s3 I3
 obtain ⟨p, vg, vf, Mg, Mf, cg, cf, t1, k⟩ := g
 obtain ⟨hg1, hq, hkn, hOg, hOf, hAg, d1, hAf⟩ : PG l t1 ∧ r = pProg l k p t1 ∧ p.globals.length + p.funcs.length + k ≤ n ∧ FL.Own 52 4 Mg vg p.globals.length cg.flatten ∧ FL.Own 56 4 Mf vf p.funcs.length cf.flatten ∧ All2 (fun x cs => cs.length = 4 ∧ GlR s3 x cs) p.globals cg ∧ ∃ d, All2 (fun x cs => cs.length = 4 ∧ FnR d s3 x cs) p.funcs cf := I3.2
 obtain ⟨k, rfl⟩ := prog_pos hq hr
 rw [pProg] at hq
 obtain ⟨Ag, cg0, rfl, hz1, hz2⟩ := Own.slice hOg
 obtain ⟨Af, cf0, rfl, hz3, hz4⟩ := Own.slice hOf
 dsimp only
 refine Zs <| Sr <| Zqm Z Z <| Zqni Z Z <| Wb Y5 <| W0 Y5 <| Wl 2 Y6 <| Zqne Z Z Z <| Nt <| ?_
 refine JC_ifN Z (fun c4 => ?_) (fun c4 => ?_)
 ·
  rw [if_neg c4] at hq
  refine Zk <| Zt <| Zp <| Sr <| Zqm Z Z <| Jc Z Z Z (acc_ac D [_, _] _ _ (hG.le (h1.t h2|>.t I3.1)) l t1 bp [102, 117, 110, 99] hl hg1) ?_
  rintro _ _ s5 h5 ⟨_, (⟨hb5, rfl, rfl⟩ | ⟨hb5, rfl, rfl⟩), rfl⟩
  ·
   simp only [cQ9, nQ9]
   rw [if_pos hb5] at hq
   refine Nt <| Zy Z <| JC_draw drawsMixed 8 Z [] (fun x hx => by cases hx) ?_
   intro s6 h6
   refine za 0 Z (We Y4) Z <| za 2 Z (QE_mv Z) Z ?_
   refine JA_2 1 3 V ?_ ?_
   ·
    refine JB_q Z trivial (Wd 0 Y5) Z <| JA_1 3 V ?_
    refine JB_callP Z trivial (first := []) (captured := []) Z Z Z (CP.at_ (fun_st k O) D [_, _] _ _ (hG.le (h1.t h2|>.t I3.1|>.t h5|>.t h6)) l (advP l t1) bp hl hg1.adv (and_out hq hr)) ?_ ?_
    ·
     rintro _ _ sx7 hx7 ⟨hp9, t9, he9, hg9, rfl⟩ fr9
     repeat (first | refine thenQ_p ?_ | refine blockQ_p ?_)
     refine retP_x (_ :: _ :: (Mg ++ Mf)) _ pm3 (h1.t h2|>.t I3.1|>.t h5|>.t h6|>.t hx7) (fun sR hS2 => ?_)
     rw [he9] at hq
     exact ⟨hp9, t9, hq, hg9, rfl⟩
    rintro _ _ s7 h7 ⟨x7, t7, he7, hg7, ⟨d7, P7, p7, o7, Q7, q7, u7, R7, m7, e7, rfl, hP7, hQ7, hB7, hn7⟩, rfl⟩
    refine ⟨(fun x hx _ => (fun x hx => by cases hx) x hx), ?_⟩
    rw [he7] at hq
    simp only [PR.and] at hq
    simp only [cQ9, nQ9]
    refine JA_1 4 V <| JB_bs Z trivial [(_, _)] [_, _, _, _] Z Z Z Z Z Z Z Z Z ?_
    intro β8 s8 h8 hc8
    refine JA_1 5 V <| JB_app (sz := 4) Z trivial (_ :: _ :: _ :: Mg) Mf L Z Z Z Z Z Z Z hOf (Row.of_cells (hc8.le (Lr D)) Z Z) ⟨by simp [ti56]; omega, by omega⟩ Z (fun _ x hx _ => by cases hx) ?_
    intro v9 M9 s9 h9 oq
    obtain ⟨A9, c9, rfl, hk9, hm9⟩ := Own.slice oq
    simp only [cQ9, nQ9]
    refine za 6 Z (We Y4) Z <| JA_1 7 V <| Wu Z trivial 0 [_, _] Y9 (fun x hx => by cases hx) <| JA_done V <| Zb ?_
    refine thenQ_n ⟨⟨⟨p.globals, p.funcs ++ [x7]⟩, _, _, Mg, M9, cg, cf ++ [[St x7.name, .slice P7 p7 o7, .slice Q7 q7 u7, .slice R7 m7 e7]], t7, k⟩, [], kp, Z, ⟨(I3.1.t h5|>.t h6|>.t h7|>.t h8|>.t h9), ⟨hg7, hq, Uo, hOg, own_snoc oq, gA_le (h5.t h6|>.t h7|>.t h8|>.t h9) hAg, d1 + d7, all2_snoc (fA_le (h5.t h6|>.t h7|>.t h8|>.t h9) O hAf) ⟨Z, _, _, _, _, _, _, _, _, _, Z, hP7.le (h8.t h9), hQ7.le (h8.t h9), (hB7.le (h8.t h9)).up O, hn7⟩⟩⟩, (by show k < k + 1; omega)⟩
   refine JB_callP Z trivial (first := []) (captured := []) Z Z Z (CP.at_ (fun_st k O) D [_, _] _ _ (hG.le (h1.t h2|>.t I3.1|>.t h5|>.t h6)) l (advP l t1) bp hl hg1.adv (and_out hq hr)) ?_ ?_
   ·
    rintro _ _ sx10 hx10 ⟨hp9, t9, he9, hg9, rfl⟩ fr9
    repeat (first | refine thenQ_p ?_ | refine blockQ_p ?_)
    refine retP_x (_ :: _ :: (Mg ++ Mf)) _ pm3 (h1.t h2|>.t I3.1|>.t h5|>.t h6|>.t hx10) (fun sR hS2 => ?_)
    rw [he9] at hq
    exact ⟨hp9, t9, hq, hg9, rfl⟩
   rintro _ _ s10 h10 ⟨x10, t10, he10, hg10, ⟨d10, P10, p10, o10, Q10, q10, u10, R10, m10, e10, rfl, hP10, hQ10, hB10, hn10⟩, rfl⟩
   refine ⟨(fun x hx _ => (fun x hx => by cases hx) x hx), ?_⟩
   rw [he10] at hq
   simp only [PR.and] at hq
   simp only [cQ9, nQ9]
   refine JA_2 1 4 V ?_ ?_
   ·
    refine JB_q Z trivial (Wd 0 Y5) Z <| JA_1 4 V <| JB_bs Z trivial [(_, _)] [_, _, _, _] Z Z Z Z Z Z Z Z Z ?_
    intro β11 s11 h11 hc11
    refine JA_1 5 V <| JB_app (sz := 4) Z trivial (_ :: _ :: _ :: Mg) Mf L Z Z Z Z Z Z Z hOf (Row.of_cells (hc11.le (Lr D)) Z Z) ⟨by simp [ti56]; omega, by omega⟩ Z (fun _ x hx _ => by cases hx) ?_
    intro v9 M9 s12 h12 oq
    obtain ⟨A9, c9, rfl, hk9, hm9⟩ := Own.slice oq
    simp only [cQ9, nQ9]
    refine za 6 Z (We Y4) Z <| JA_1 7 V <| Wu Z trivial 0 [_, _] Y9 (fun x hx => by cases hx) <| JA_done V <| Zb ?_
    refine thenQ_n ⟨⟨⟨p.globals, p.funcs ++ [x10]⟩, _, _, Mg, M9, cg, cf ++ [[St x10.name, .slice P10 p10 o10, .slice Q10 q10 u10, .slice R10 m10 e10]], t10, k⟩, [], kp, Z, ⟨(I3.1.t h5|>.t h6|>.t h10|>.t h11|>.t h12), ⟨hg10, hq, Uo, hOg, own_snoc oq, gA_le (h5.t h6|>.t h10|>.t h11|>.t h12) hAg, d1 + d10, all2_snoc (fA_le (h5.t h6|>.t h10|>.t h11|>.t h12) O hAf) ⟨Z, _, _, _, _, _, _, _, _, _, Z, hP10.le (h11.t h12), hQ10.le (h11.t h12), (hB10.le (h11.t h12)).up O, hn10⟩⟩⟩, (by show k < k + 1; omega)⟩
   refine JB_bs Z trivial [(_, _)] [_, _, _, _] Z Z Z Z Z Z Z Z Z ?_
   intro β13 s13 h13 hc13
   refine JA_1 1 V <| JB_q Z trivial (Wd 0 Y5) Z <| JA_1 5 V <| JB_app (sz := 4) Z trivial (_ :: _ :: _ :: Mg) Mf L Z Z Z Z Z Z Z hOf (Row.of_cells (hc13.le (Lr D)) Z Z) ⟨by simp [ti56]; omega, by omega⟩ Z (fun _ x hx _ => by cases hx) ?_
   intro v9 M9 s14 h14 oq
   obtain ⟨A9, c9, rfl, hk9, hm9⟩ := Own.slice oq
   simp only [cQ9, nQ9]
   refine za 6 Z (We Y4) Z <| JA_1 7 V <| Wu Z trivial 0 [_, _] Y9 (fun x hx => by cases hx) <| JA_done V <| Zb ?_
   refine thenQ_n ⟨⟨⟨p.globals, p.funcs ++ [x10]⟩, _, _, Mg, M9, cg, cf ++ [[St x10.name, .slice P10 p10 o10, .slice Q10 q10 u10, .slice R10 m10 e10]], t10, k⟩, [], kp, Z, ⟨(I3.1.t h5|>.t h6|>.t h10|>.t h13|>.t h14), ⟨hg10, hq, Uo, hOg, own_snoc oq, gA_le (h5.t h6|>.t h10|>.t h13|>.t h14) hAg, d1 + d10, all2_snoc (fA_le (h5.t h6|>.t h10|>.t h13|>.t h14) O hAf) ⟨Z, _, _, _, _, _, _, _, _, _, Z, hP10.le (h13.t h14), hQ10.le (h13.t h14), (hB10.le (h13.t h14)).up O, hn10⟩⟩⟩, (by show k < k + 1; omega)⟩
  simp only [cQ9, nQ9]
  rw [if_neg (bNe hb5)] at hq
  refine Nt <| Zz Z <| JC_draw drawsMixed 8 Z [] (fun x hx => by cases hx) ?_
  intro s15 h15
  refine za 0 Z (QE_fa0 Z Z Z Z) Z <| za 2 Z (QE_mv Z) Z ?_
  refine JA_2 1 3 V ?_ ?_
  ·
   refine JB_q Z trivial (Wd 0 Y5) Z <| JA_1 3 V ?_
   refine JB_callP Z trivial (first := []) (captured := []) Z Z Z (CP.at_ (glo_st k O) D [_, _] _ _ (hG.le (h1.t h2|>.t I3.1|>.t h5|>.t h15)) l t1 bp hl hg1 (and_out hq hr)) ?_ ?_
   ·
    rintro _ _ sx16 hx16 ⟨hp9, t9, he9, hg9, rfl⟩ fr9
    repeat (first | refine thenQ_p ?_ | refine blockQ_p ?_)
    refine retP_x (_ :: _ :: (Mg ++ Mf)) _ pm3 (h1.t h2|>.t I3.1|>.t h5|>.t h15|>.t hx16) (fun sR hS2 => ?_)
    rw [he9] at hq
    exact ⟨hp9, t9, hq, hg9, rfl⟩
   rintro _ _ s16 h16 ⟨x16, t16, he16, hg16, ⟨A16, n16, c16, rfl, hW16, hu16, hn16⟩, rfl⟩
   refine ⟨(fun x hx _ => (fun x hx => by cases hx) x hx), ?_⟩
   rw [he16] at hq
   simp only [PR.and] at hq
   simp only [cQ9, nQ9]
   refine JA_1 4 V <| JB_bs Z trivial [(_, _)] [_, _, _, _] Z Z Z Z Z Z Z Z Z ?_
   intro β17 s17 h17 hc17
   refine JA_1 5 V <| JB_app (sz := 4) Z trivial [_, _, _] Mg (Mf ++ L) Z Z Z Z Z Z Z hOg (Row.of_cells (hc17.le (Lr D)) Z Z) ⟨by simp [ti52]; omega, by omega⟩ Z (fun _ x hx _ => by cases hx) ?_
   intro v9 M9 s18 h18 oq
   obtain ⟨A9, c9, rfl, hk9, hm9⟩ := Own.slice oq
   simp only [cQ9, nQ9]
   refine za 6 Z (QE_fa0 Z Z Z Z) Z <| JA_1 7 V <| Wu Z trivial 0 [_, _] Y9 (fun x hx => by cases hx) <| JA_done V <| Zb ?_
   refine thenQ_n ⟨⟨⟨p.globals ++ [x16], p.funcs⟩, _, _, M9, Mf, cg ++ [[.int .i64 x16.kind, St x16.name, .int .u32 x16.num, .slice A16 n16 c16]], cf, t16, k⟩, [], kp, Z, ⟨(I3.1.t h5|>.t h15|>.t h16|>.t h17|>.t h18), ⟨hg16, hq, Uo, own_snoc oq, hOf, all2_snoc (gA_le (h5.t h15|>.t h16|>.t h17|>.t h18) hAg) ⟨Z, _, _, _, Z, hW16.le (h17.t h18), hu16, hn16⟩, d1, fA_le (h5.t h15|>.t h16|>.t h17|>.t h18) (Nat.le_refl _) hAf⟩⟩, (by show k < k + 1; omega)⟩
  refine JB_callP Z trivial (first := []) (captured := []) Z Z Z (CP.at_ (glo_st k O) D [_, _] _ _ (hG.le (h1.t h2|>.t I3.1|>.t h5|>.t h15)) l t1 bp hl hg1 (and_out hq hr)) ?_ ?_
  ·
   rintro _ _ sx19 hx19 ⟨hp9, t9, he9, hg9, rfl⟩ fr9
   repeat (first | refine thenQ_p ?_ | refine blockQ_p ?_)
   refine retP_x (_ :: _ :: (Mg ++ Mf)) _ pm3 (h1.t h2|>.t I3.1|>.t h5|>.t h15|>.t hx19) (fun sR hS2 => ?_)
   rw [he9] at hq
   exact ⟨hp9, t9, hq, hg9, rfl⟩
  rintro _ _ s19 h19 ⟨x19, t19, he19, hg19, ⟨A19, n19, c19, rfl, hW19, hu19, hn19⟩, rfl⟩
  refine ⟨(fun x hx _ => (fun x hx => by cases hx) x hx), ?_⟩
  rw [he19] at hq
  simp only [PR.and] at hq
  simp only [cQ9, nQ9]
  refine JA_2 1 4 V ?_ ?_
  ·
   refine JB_q Z trivial (Wd 0 Y5) Z <| JA_1 4 V <| JB_bs Z trivial [(_, _)] [_, _, _, _] Z Z Z Z Z Z Z Z Z ?_
   intro β20 s20 h20 hc20
   refine JA_1 5 V <| JB_app (sz := 4) Z trivial [_, _, _] Mg (Mf ++ L) Z Z Z Z Z Z Z hOg (Row.of_cells (hc20.le (Lr D)) Z Z) ⟨by simp [ti52]; omega, by omega⟩ Z (fun _ x hx _ => by cases hx) ?_
   intro v9 M9 s21 h21 oq
   obtain ⟨A9, c9, rfl, hk9, hm9⟩ := Own.slice oq
   simp only [cQ9, nQ9]
   refine za 6 Z (QE_fa0 Z Z Z Z) Z <| JA_1 7 V <| Wu Z trivial 0 [_, _] Y9 (fun x hx => by cases hx) <| JA_done V <| Zb ?_
   refine thenQ_n ⟨⟨⟨p.globals ++ [x19], p.funcs⟩, _, _, M9, Mf, cg ++ [[.int .i64 x19.kind, St x19.name, .int .u32 x19.num, .slice A19 n19 c19]], cf, t19, k⟩, [], kp, Z, ⟨(I3.1.t h5|>.t h15|>.t h19|>.t h20|>.t h21), ⟨hg19, hq, Uo, own_snoc oq, hOf, all2_snoc (gA_le (h5.t h15|>.t h19|>.t h20|>.t h21) hAg) ⟨Z, _, _, _, Z, hW19.le (h20.t h21), hu19, hn19⟩, d1, fA_le (h5.t h15|>.t h19|>.t h20|>.t h21) (Nat.le_refl _) hAf⟩⟩, (by show k < k + 1; omega)⟩
  refine JB_bs Z trivial [(_, _)] [_, _, _, _] Z Z Z Z Z Z Z Z Z ?_
  intro β22 s22 h22 hc22
  refine JA_1 1 V <| JB_q Z trivial (Wd 0 Y5) Z <| JA_1 5 V <| JB_app (sz := 4) Z trivial [_, _, _] Mg (Mf ++ L) Z Z Z Z Z Z Z hOg (Row.of_cells (hc22.le (Lr D)) Z Z) ⟨by simp [ti52]; omega, by omega⟩ Z (fun _ x hx _ => by cases hx) ?_
  intro v9 M9 s23 h23 oq
  obtain ⟨A9, c9, rfl, hk9, hm9⟩ := Own.slice oq
  simp only [cQ9, nQ9]
  refine za 6 Z (QE_fa0 Z Z Z Z) Z <| JA_1 7 V <| Wu Z trivial 0 [_, _] Y9 (fun x hx => by cases hx) <| JA_done V <| Zb ?_
  refine thenQ_n ⟨⟨⟨p.globals ++ [x19], p.funcs⟩, _, _, M9, Mf, cg ++ [[.int .i64 x19.kind, St x19.name, .int .u32 x19.num, .slice A19 n19 c19]], cf, t19, k⟩, [], kp, Z, ⟨(I3.1.t h5|>.t h15|>.t h19|>.t h22|>.t h23), ⟨hg19, hq, Uo, own_snoc oq, hOf, all2_snoc (gA_le (h5.t h15|>.t h19|>.t h22|>.t h23) hAg) ⟨Z, _, _, _, Z, hW19.le (h22.t h23), hu19, hn19⟩, d1, fA_le (h5.t h15|>.t h19|>.t h22|>.t h23) (Nat.le_refl _) hAf⟩⟩, (by show k < k + 1; omega)⟩
 rw [if_pos c4] at hq
 refine Zl <| Zv <| Zv <| Zd <| Zt <| Zs <| JC_pubX [_, _, _] Mg _ ?_
 intro s24 h24 hpub24
 simp only [cQ9, nQ9]
 have hGl : Glos s24 Ag p.globals.length cg0 p.globals := Own.rows (R := GlR) hOg hpub24 (gA_le h24 hAg) rfl
 refine JC_pubX [_, _, _] Mf _ ?_
 intro s25 h25 hpub25
 simp only [cQ9, nQ9]
 have hFn : Fncs d1 s25 Af p.funcs.length cf0 p.funcs := Own.rows (R := FnR d1) hOf hpub25 (fA_le (h24.t h25) (Nat.le_refl _) hAf) rfl
 refine Zr <| JO_q (QE_ldA 0 [_, _] Z Z Z Z Z) Z <| Wt 1 [_, _] Y9 <| Nt <| Zo <| ?_
 refine retP_mk [_, _] _ (.inr Z) (.agg (us := [_, _]) 1 Z Z Z Z Z (.nil)) Z (h1.t h2|>.t I3.1|>.t h24|>.t h25) (fun sR hS2 => ?_)
 exact ⟨_, _, hq, hg1, ⟨d1, Ag, _, cg0, Af, _, cf0, rfl, hGl.le (h25.t hS2), hFn.le ((Lr D).t hS2)⟩, rfl⟩
end Go.Proofs.YtiljephghfngnaaGreatDoor
namespace Go.FL
open Go Go.RowKit
def fro (ro : Option Nat) : Fence := { Fence.wide with round := ro }
theorem calls_fro {P : Program} {f : FuncId} {args : Array Value} {w : World} {R : Ending → World → Prop} (ro : Option Nat) (n : Nat) (h : Calls P f args w R) : CallsIn (fro ro) n P f args w R := by
  cases ro with
  | none => exact callsIn_wide.2 h
  | some l => exact CallsIn.inRound l (callsIn_wide.2 h)
theorem fro_depth (ro : Option Nat) (n : Nat) : (fro ro).depth.isSome = true → 1 ≤ n := fun h => by cases h
theorem fro_fn (ro : Option Nat) (f : FuncId) : (fro ro).fn f := trivial
structure FrD (ds : List Deferred) (n : Nat) (a : Act) (fr : Fr) : Prop where
  rel : FrRel n { a with defers := [] } fr
  defers : a.defers = ds
theorem FrD.ev {ds : List Deferred} {n : Nat} {a : Act} {fr : Fr} (h : FrD ds n a fr) {x : Operand} {v : Value} (hx : lk fr x = some v) : a.eval x = v := h.rel.ev hx
theorem FrD.put {ds : List Deferred} {n : Nat} {a : Act} {fr : Fr} (h : FrD ds n a fr) {d : Nat} (hd : Nat.blt d n = true) (v : Value) : FrD ds n (a.put (some d) v) ((d, v) :: fr) :=
  ⟨h.rel.put hd v, h.defers⟩
abbrev GPost := Exit → List Deferred → Fr → Hl → World → Prop
def concG (D n : Nat) (Q : GPost) : Exit → Act → World → Prop := fun e a w => ∃ ds fr L s, FrD ds n a fr ∧ OKL D L s ∧ w = fill L s ∧ Q e ds fr L s
def RC (P : Program) (TT : TyTab) (D n : Nat) (ro : Option Nat) (Q : GPost) (c : Code) (ds : List Deferred) (fr : Fr) (L : Hl) (s : World) : Prop :=
  TabOK P TT → ∀ a, FrD ds n a fr → OKL D L s → c.wpIn (fro ro) 0 P (concG D n Q) a (fill L s)
def RO (P : Program) (TT : TyTab) (D n : Nat) (ro : Option Nat) (ops : Array Oper) (Q : GPost) (l : List Oper) (ds : List Deferred) (fr : Fr) (L : Hl) (s : World) : Prop :=
  TabOK P TT → ∀ a, FrD ds n a fr → OKL D L s → wpListIn (fro ro) 0 P ops (concG D n Q) l a (fill L s)
section control
variable {P : Program} {TT : TyTab} {D n : Nat} {ro : Option Nat} {Q : GPost} {ds : List Deferred} {fr : Fr} {L : Hl} {s : World}
def thenG (J : List Deferred → Fr → Hl → World → Prop) (Q : GPost) : GPost
  | .normal, ds, fr, L, s => J ds fr L s
  | e, ds, fr, L, s => Q e ds fr L s
def blockG (id : Nat) (Q : GPost) : GPost
  | .exit i, ds, fr, L, s => if i = id then Q .normal ds fr L s else Q (.exit i) ds fr L s
  | e, ds, fr, L, s => Q e ds fr L s
theorem RC_skip (h : Q .normal ds fr L s) : RC P TT D n ro Q .skip ds fr L s := fun _ _ hr ho => wpIn_skip ⟨ds, fr, L, s, hr, ho, rfl, h⟩
theorem RC_ret (h : Q .ret ds fr L s) : RC P TT D n ro Q .ret ds fr L s := fun _ _ hr ho => wpIn_ret ⟨ds, fr, L, s, hr, ho, rfl, h⟩
theorem RC_seq {x y : Code} (h : RC P TT D n ro (thenG (RC P TT D n ro Q y) Q) x ds fr L s) : RC P TT D n ro Q (.seq x y) ds fr L s := fun ht a hr ho =>
  wpIn_seq (wpIn_mono (h ht a hr ho) fun e a w ⟨ds', fr', L', s', h1, h2, h3, h4⟩ => by
    cases e with
    | normal => subst h3; exact h4 ht a h1 h2
    | _ => exact ⟨ds', fr', L', s', h1, h2, h3, h4⟩)
theorem RC_if {c : Operand} {x y : Code} {b : Bool} (hc : lk fr c = some (.bool b)) (h1 : b = true → RC P TT D n ro Q x ds fr L s) (h2 : b = false → RC P TT D n ro Q y ds fr L s) : RC P TT D n ro Q (.cond c x y) ds fr L s :=
  fun ht a hr ho => wpIn_cond_split (hr.ev hc) (fun hb => h1 hb ht a hr ho) (fun hb => h2 hb ht a hr ho)
theorem RC_ifD {c : Operand} {x y : Code} {p : Prop} [Decidable p] (hc : lk fr c = some (.bool (decide p))) (h1 : p → RC P TT D n ro Q x ds fr L s) (h2 : ¬ p → RC P TT D n ro Q y ds fr L s) : RC P TT D n ro Q (.cond c x y) ds fr L s :=
  RC_if hc (fun hb => h1 (of_decide_eq_true hb)) (fun hb => h2 (of_decide_eq_false hb))
theorem RC_ifN {c : Operand} {x y : Code} {p : Prop} [Decidable p] (hc : lk fr c = some (.bool (!decide p))) (h1 : ¬ p → RC P TT D n ro Q x ds fr L s) (h2 : p → RC P TT D n ro Q y ds fr L s) : RC P TT D n ro Q (.cond c x y) ds fr L s :=
  RC_if hc (fun hb => h1 (by simpa using hb)) (fun hb => h2 (by simpa using hb))
theorem RC_region {id : Nat} {l : List Oper} (h : RO P TT D n ro l.toArray Q l ds fr L s) : RC P TT D n ro Q (.region id l.toArray false) ds fr L s :=
  fun ht a hr ho => wpIn_region_lit (h ht a hr ho)
theorem RO_nil {ops : Array Oper} (h : Q .normal ds fr L s) : RO P TT D n ro ops Q [] ds fr L s := fun _ _ hr ho => ⟨ds, fr, L, s, hr, ho, rfl, h⟩
theorem thenG_n {J : List Deferred → Fr → Hl → World → Prop} (h : J ds fr L s) : thenG J Q .normal ds fr L s := h
theorem thenG_r {J : List Deferred → Fr → Hl → World → Prop} (h : Q .ret ds fr L s) : thenG J Q .ret ds fr L s := h
end control
section ops
variable {P : Program} {TT : TyTab} {D n : Nat} {ro : Option Nat} {Q : GPost} {ds : List Deferred} {fr : Fr} {L L' : Hl} {s s' : World} {ops : Array Oper} {rest : List Oper} {d ty : Nat} {op : Op} {pos : String} {af : Array Edge} {v : Value}
theorem RO_ev (hnd : ∀ c, op ≠ .defer c) (hd : Nat.blt d n = true) (h : Ev P TT D fr op ty L s (.value v) L' s') (k : RO P TT D n ro ops Q rest ds ((d, v) :: fr) L' s') :
    RO P TT D n ro ops Q (⟨some d, op, ty, pos, af, none⟩ :: rest) ds fr L s := fun ht a hr ho => by
  obtain ⟨h1, h2⟩ := h ht ho (some d) pos af none a.eval (fun x v hx => hr.ev hx)
  simp only [wpListIn, Region.wanted, if_true]
  refine ⟨fun f _ => fro_fn ro f, ?_⟩
  rw [Oper.semAt_eq _ _ _ hnd, h1, Oper.uponIn_value]
  exact k ht _ (hr.put hd v) h2
theorem RO_sk (hnd : ∀ c, op ≠ .defer c) (h : Ev P TT D fr op ty L s .skip L' s') (k : RO P TT D n ro ops Q rest ds fr L' s') :
    RO P TT D n ro ops Q (⟨none, op, ty, pos, af, none⟩ :: rest) ds fr L s := fun ht a hr ho => by
  obtain ⟨h1, h2⟩ := h ht ho none pos af none a.eval (fun x v hx => hr.ev hx)
  simp only [wpListIn, Region.wanted, if_true]
  refine ⟨fun f _ => fro_fn ro f, ?_⟩
  rw [Oper.semAt_eq _ _ _ hnd, h1, Oper.uponIn_skip]
  exact k ht _ hr h2
theorem RO_q (h : QE P TT D fr op ty L s v) (hd : Nat.blt d n = true) (k : RO P TT D n ro ops Q rest ds ((d, v) :: fr) L s) (hnd : ∀ c, op ≠ .defer c := by nofun) : RO P TT D n ro ops Q (⟨some d, op, ty, pos, af, none⟩ :: rest) ds fr L s :=
  RO_ev hnd hd (fun ht ho dst pos af g ρ hρ => ⟨h ht dst pos af g ρ hρ L s ho (Le.refl _) (fun _ hx => hx), ho⟩) k
theorem RO_call {f : FuncId} {x : Operand} {xs : List Operand} {first captured vs : List Value} {ts : Array TypeId} {R : Value → Hl → World → Prop} (hx : lk fr x = some (.func (.func f) first.toArray captured.toArray)) (hv : lks fr xs = some vs)
    (hd : Nat.blt d n = true) (h : AC P D f (first ++ vs ++ captured) L s R) (k : ∀ v L' s', Le D s s' → R v L' s' → RO P TT D n ro ops Q rest ds ((d, v) :: fr) L' s') :
    RO P TT D n ro ops Q (⟨some d, .call { callee := .value x, args := xs.toArray, argTypes := ts }, ty, pos, af, none⟩ :: rest) ds fr L s := fun hT a hr ho => by
  obtain ⟨⟨fn, h1, h2, h3⟩, hc⟩ := h
  have hρ : ∀ x v, lk fr x = some v → a.eval x = v := fun x v hx => hr.ev hx
  simp only [wpListIn, Region.wanted, if_true]
  refine ⟨fun f _ => fro_fn ro f, ?_⟩
  have hrun : (execOp a.eval ⟨some d, .call { callee := .value x, args := xs.toArray, argTypes := ts }, ty, pos, af, none⟩).run P (fill L s) = .ok (.enter f (first ++ vs ++ captured).toArray) (fill L s) := by
    have h2' : ¬ fn.name = "runtime.NumGoroutine" := by simpa using h2
    have h3' : ¬ fn.body = none := by intro e; simp [e] at h3
    simp [execOp, resolve, Deferred.ofValue, invoke, callFunc, hρ x _ hx, lks_map hρ hv, h1, h2', h3']
  rw [Oper.semAt_eq _ _ _ (by nofun), hrun, Oper.uponIn_enter]
  refine ⟨fro_depth ro 0, (calls_fro ro _ (hc ho)).mono ?_⟩
  rintro e w' ⟨v, L', s', rfl, rfl, h4, h5, h6⟩
  exact k v L' s' h5 h6 hT _ (hr.put hd v) h4
theorem Rc9 {f : FuncId} {x : Operand} {xs : List Operand} {vs : List Value} {ts : Array TypeId} {R : Value → Hl → World → Prop} (hx : lk fr x = some (.func (.func f) ([] : List Value).toArray ([] : List Value).toArray)) (hv : lks fr xs = some vs)
    (hd : Nat.blt d n = true) (h : AC P D f (([] : List Value) ++ vs ++ []) L s R) (k : ∀ v L' s', Le D s s' → R v L' s' → RO P TT D n ro ops Q rest ds ((d, v) :: fr) L' s') :
    RO P TT D n ro ops Q (⟨some d, .call { callee := .value x, args := xs.toArray, argTypes := ts }, ty, pos, af, none⟩ :: rest) ds fr L s := RO_call (first := []) (captured := []) hx hv hd h k
theorem RO_alloc {t : Nat} {ti : TI} (ht : tlook TT t = some ti) (hd : Nat.blt d n = true)
    (k : ∀ β s', Le D s s' → RO P TT D n ro ops Q rest ds ((d, .pointer (some ⟨β, 0, none⟩)) :: fr) ((β, cb ti.zeros t) :: L) s') : RO P TT D n ro ops Q (⟨some d, .alloc t, ty, pos, af, none⟩ :: rest) ds fr L s := fun hT a hr ho =>
  RO_ev (by nofun) hd (Ev_alloc ht ho) (k _ _ (alloc_fill ho (cb ti.zeros t)).2.2) hT a hr ho
theorem RO_allocZ {t : Nat} {ti : TI} (ht : tlook TT t = some ti) (zs : List Value) (hz : ti.zeros = zs) (hd : Nat.blt d n = true)
    (k : ∀ β s', Le D s s' → RO P TT D n ro ops Q rest ds ((d, .pointer (some ⟨β, 0, none⟩)) :: fr) ((β, cb zs t) :: L) s') : RO P TT D n ro ops Q (⟨some d, .alloc t, ty, pos, af, none⟩ :: rest) ds fr L s := by subst hz; exact RO_alloc ht hd k
theorem RO_st {t b off : Nat} {x y : Operand} {ti : TI} {t' : Nat} {zs : List Value} (i : Nat) (zs' : List Value) {L' : Hl} (hx : lk fr x = some (.pointer (some ⟨b, off, none⟩))) (hy : lk fr y = some v) (hi : L[i]? = some (b, cb zs t')) (ht : tlook TT t = some ti)
    (hl : (cellsL v).length = ti.size) (hle : Nat.ble (off + ti.size) zs.length = true) (h1 : (cellsL v).all (·.oneCell') = true) (hs : splice zs off (cellsL v) = zs') (hL : setL L i (cb zs' t') = L')
    (k : RO P TT D n ro ops Q rest ds fr L' s) : RO P TT D n ro ops Q (⟨none, .store t x y, ty, pos, af, none⟩ :: rest) ds fr L s := by
  subst hL; exact RO_sk (by nofun) (Ev_st i zs' hx hy hi ht hl hle h1 hs) k
end ops
section anyorder
variable {P : Program} {TT : TyTab} {D n : Nat} {ro : Option Nat} {Q : GPost} {ds : List Deferred} {fr : Fr} {L L' : Hl} {s s' : World} {ops : Array Oper} {d ty fuel : Nat} {op : Op} {pos : String} {af : Array Edge} {v : Value} {listed : Array Bool}
def RA (P : Program) (TT : TyTab) (D n : Nat) (ro : Option Nat) (ops : Array Oper) (Q : GPost) (fuel : Nat) (listed : Array Bool) (ds : List Deferred) (fr : Fr) (L : Hl) (s : World) : Prop :=
  TabOK P TT → ∀ a, FrD ds n a fr → OKL D L s → wpAnyIn (fro ro) 0 P .any ops (concG D n Q) fuel listed a (fill L s)
def RB (P : Program) (TT : TyTab) (D n : Nat) (ro : Option Nat) (ops : Array Oper) (Q : GPost) (fuel : Nat) (listed : Array Bool) (i : Nat) (ds : List Deferred) (fr : Fr) (L : Hl) (s : World) : Prop :=
  TabOK P TT → ∀ a, FrD ds n a fr → OKL D L s → wpOpIn (fro ro) 0 P ops (concG D n Q) i (wpAnyIn (fro ro) 0 P .any ops (concG D n Q) fuel (listed.setIfInBounds i true)) a (fill L s)
theorem RC_draw {id : Nat} {l : List Oper} (hm : P.follows .mixedOrders = true) (N : Nat) (hN : l.length = N) (h : ∀ s', Le D s s' → RA P TT D n ro l.toArray Q N (Array.replicate N false) ds fr L s') : RC P TT D n ro Q (.region id l.toArray true) ds fr L s := fun ht a hr ho => by
  subst hN
  have h1 := h s.drew (Le.drew s) ht a hr ho.drew
  refine wpIn_region_any hm ?_
  rw [← drew_fill] at h1
  simpa using h1
theorem RA_done (hr : Region.ready .any ops listed = []) (h : Q .normal ds fr L s) : RA P TT D n ro ops Q fuel listed ds fr L s := fun _ a hf ho => by
  have hq : concG D n Q .normal a (fill L s) := ⟨ds, fr, L, s, hf, ho, rfl, h⟩
  cases fuel with
  | zero => exact ⟨hr, hq⟩
  | succ fuel => exact ⟨fun _ => hq, fun i hi => by rw [hr] at hi; cases hi⟩
theorem RA_all {is : List Nat} (hr : Region.ready .any ops listed = is) (hne : is ≠ []) (h : ∀ i ∈ is, RB P TT D n ro ops Q fuel listed i ds fr L s) : RA P TT D n ro ops Q (fuel + 1) listed ds fr L s := fun ht a hf ho =>
  ⟨fun e => absurd (hr.symm.trans e) hne, fun i hi => by rw [hr] at hi; exact h i hi ht a hf ho⟩
theorem RA_1 (i : Nat) (hr : Region.ready .any ops listed = [i]) (h : RB P TT D n ro ops Q fuel listed i ds fr L s) : RA P TT D n ro ops Q (fuel + 1) listed ds fr L s := RA_all hr (by simp) (by simpa using h)
theorem RA_2 (i j : Nat) (hr : Region.ready .any ops listed = [i, j]) (h : RB P TT D n ro ops Q fuel listed i ds fr L s) (h' : RB P TT D n ro ops Q fuel listed j ds fr L s) : RA P TT D n ro ops Q (fuel + 1) listed ds fr L s := RA_all hr (by simp) (by simpa using ⟨h, h'⟩)
theorem RB_ev {i : Nat} (hi : ops[i]? = some ⟨some d, op, ty, pos, af, none⟩) (hnd : ∀ c, op ≠ .defer c) (hd : Nat.blt d n = true) (h : Ev P TT D fr op ty L s (.value v) L' s') (k : RA P TT D n ro ops Q fuel (listed.setIfInBounds i true) ds ((d, v) :: fr) L' s') :
    RB P TT D n ro ops Q fuel listed i ds fr L s := fun ht a hr ho => by
  obtain ⟨h1, h2⟩ := h ht ho (some d) pos af none a.eval (fun x v hx => hr.ev hx)
  simp only [wpOpIn, hi, Region.wanted, if_true]
  refine ⟨fun f _ => fro_fn ro f, ?_⟩
  rw [Oper.semAt_eq _ _ _ hnd, h1, Oper.uponIn_value]
  exact k ht _ (hr.put hd v) h2
theorem RB_sk {i : Nat} (hi : ops[i]? = some ⟨none, op, ty, pos, af, none⟩) (hnd : ∀ c, op ≠ .defer c) (h : Ev P TT D fr op ty L s .skip L' s') (k : RA P TT D n ro ops Q fuel (listed.setIfInBounds i true) ds fr L' s') :
    RB P TT D n ro ops Q fuel listed i ds fr L s := fun ht a hr ho => by
  obtain ⟨h1, h2⟩ := h ht ho none pos af none a.eval (fun x v hx => hr.ev hx)
  simp only [wpOpIn, hi, Region.wanted, if_true]
  refine ⟨fun f _ => fro_fn ro f, ?_⟩
  rw [Oper.semAt_eq _ _ _ hnd, h1, Oper.uponIn_skip]
  exact k ht _ hr h2
theorem RB_q {i : Nat} (hi : ops[i]? = some ⟨some d, op, ty, pos, af, none⟩) (h : QE P TT D fr op ty L s v) (hd : Nat.blt d n = true) (k : RA P TT D n ro ops Q fuel (listed.setIfInBounds i true) ds ((d, v) :: fr) L s) (hnd : ∀ c, op ≠ .defer c := by nofun) :
    RB P TT D n ro ops Q fuel listed i ds fr L s := RB_ev hi hnd hd (fun ht ho dst pos af g ρ hρ => ⟨h ht dst pos af g ρ hρ L s ho (Le.refl _) (fun _ hx => hx), ho⟩) k
theorem RB_st {i0 t b off : Nat} {x y : Operand} {ti : TI} {t' : Nat} {zs : List Value} (hi0 : ops[i0]? = some ⟨none, .store t x y, ty, pos, af, none⟩) (i : Nat) (zs' : List Value) {L' : Hl} (hx : lk fr x = some (.pointer (some ⟨b, off, none⟩))) (hy : lk fr y = some v) (hi : L[i]? = some (b, cb zs t')) (ht : tlook TT t = some ti)
    (hl : (cellsL v).length = ti.size) (hle : Nat.ble (off + ti.size) zs.length = true) (h1 : (cellsL v).all (·.oneCell') = true) (hs : splice zs off (cellsL v) = zs') (hL : setL L i (cb zs' t') = L')
    (k : RA P TT D n ro ops Q fuel (listed.setIfInBounds i0 true) ds fr L' s) : RB P TT D n ro ops Q fuel listed i0 ds fr L s := by
  subst hL; exact RB_sk hi0 (by nofun) (Ev_st i zs' hx hy hi ht hl hle h1 hs) k
end anyorder
section calls
variable {P : Program} {TT : TyTab} {D n : Nat} {Q : GPost} {ds : List Deferred} {fr : Fr} {L : Hl} {s : World}
section range
variable {σ α : Type} (H : σ → Hl) (I : σ → World → Prop) (pend : σ → Option Code) (St : σ → α → σ → Prop) (enc : α → List Value) (Pre : σ → α → World → Prop) (Fin : σ → Prop)
end range
end calls
section
variable {P : Program} {TT : TyTab} {D n : Nat} {ro : Option Nat} {Q : GPost} {ds : List Deferred} {fr : Fr} {L : Hl} {s s0 : World} {ops : Array Oper} {rest : List Oper} {d ty : Nat} {pos : String} {af : Array Edge} {v : Value}
theorem RO_callP {f : FuncId} {x : Operand} {xs : List Operand} {first captured vs : List Value} {ts : Array TypeId} {R : Value → Hl → World → Prop} {X : List PanicEntry → Hl → World → Prop} (hx : lk fr x = some (.func (.func f) first.toArray captured.toArray)) (hv : lks fr xs = some vs)
    (hd : Nat.blt d n = true) (h : AP P D f (first ++ vs ++ captured) L s R X) (kx : ∀ ch L' s', Le D s s' → X ch L' s' → Q (.panic ch) ds fr L' s') (k : ∀ v L' s', Le D s s' → R v L' s' → RO P TT D n ro ops Q rest ds ((d, v) :: fr) L' s') :
    RO P TT D n ro ops Q (⟨some d, .call { callee := .value x, args := xs.toArray, argTypes := ts }, ty, pos, af, none⟩ :: rest) ds fr L s := fun hT a hr ho => by
  obtain ⟨⟨fn, h1, h2, h3⟩, hc⟩ := h
  have hρ : ∀ x v, lk fr x = some v → a.eval x = v := fun x v hx => hr.ev hx
  simp only [wpListIn, Region.wanted, if_true]
  refine ⟨fun f _ => fro_fn ro f, ?_⟩
  have hrun : (execOp a.eval ⟨some d, .call { callee := .value x, args := xs.toArray, argTypes := ts }, ty, pos, af, none⟩).run P (fill L s) = .ok (.enter f (first ++ vs ++ captured).toArray) (fill L s) := by
    have h2' : ¬ fn.name = "runtime.NumGoroutine" := by simpa using h2
    have h3' : ¬ fn.body = none := by intro e; simp [e] at h3
    simp [execOp, resolve, Deferred.ofValue, invoke, callFunc, hρ x _ hx, lks_map hρ hv, h1, h2', h3']
  rw [Oper.semAt_eq _ _ _ (by nofun), hrun, Oper.uponIn_enter]
  refine ⟨fro_depth ro 0, (calls_fro ro _ (hc ho)).mono ?_⟩
  rintro e w' ⟨L', s', rfl, h4, h5, h6⟩
  rcases h6 with ⟨v, rfl, h6⟩ | ⟨ch, rfl, h6⟩
  · exact k v L' s' h5 h6 hT _ (hr.put hd v) h4
  · exact ⟨ds, fr, L', s', hr, h4, rfl, kx _ _ _ h5 h6⟩
theorem RO_defer {f : FuncId} {x : Operand} {first captured : List Value} {ts : Array TypeId} (hx : lk fr x = some (.func (.func f) first.toArray captured.toArray))
    (k : RO P TT D n none ops Q rest ({ target := .fn (.func f) captured.toArray, args := first.toArray } :: ds) fr L s) :
    RO P TT D n none ops Q (⟨none, .defer { callee := .value x, args := #[], argTypes := ts }, ty, pos, af, none⟩ :: rest) ds fr L s := fun hT a hr ho => by
  simp only [wpListIn, Region.wanted, if_true]
  refine ⟨fun f _ => fro_fn none f, ?_⟩
  have hrun : (execOp a.eval ⟨none, .defer { callee := .value x, args := #[], argTypes := ts }, ty, pos, af, none⟩).run P (fill L s) = .ok (.defer { target := .fn (.func f) captured.toArray, args := first.toArray }) (fill L s) := by
    simp [execOp, resolve, Deferred.ofValue, hr.ev hx]
  rw [show (fro none).round = none from rfl, Oper.semAt_none, hrun, Oper.uponIn_defer]
  refine k hT _ ⟨?_, ?_⟩ ho
  · exact hr.rel
  · show _ :: a.defers = _; rw [hr.defers]
def DC (P : Program) (D : Nat) (d : Deferred) (u : FrameMode) (L : Hl) (s : World) (K : Hl → World → Prop) : Prop :=
  OKL D L s → ∃ fv cap f args, d.target = .fn fv cap ∧ (invoke d.target d.args).run P (fill L s) = .ok (.enter f args) (fill L s) ∧ CallsD P f args u (fill L s) fun e u' w' => ∃ v, e = .returned v ∧ settle u' = .returning ∧ ∃ L1 s1, w' = fill L1 s1 ∧ OKL D L1 s1 ∧ K L1 s1
def outV (TT : TyTab) (D : Nat) (rs : List ResultVar) (s0 : World) (R : Value → Hl → World → Prop) (fr : Fr) (L : Hl) (s : World) : Prop := ∃ vs A L', Res TT fr L rs vs ∧ L = A ++ L' ∧ Le D s0 s ∧ ∀ s', Le D s s' → R (resV vs) L' s'
def retV (P : Program) (TT : TyTab) (D : Nat) (rs : List ResultVar) (s0 : World) (R : Value → Hl → World → Prop) : GPost
  | .normal, [], fr, L, s | .ret, [], fr, L, s => outV TT D rs s0 R fr L s
  | .normal, [d], fr, L, s | .ret, [d], fr, L, s => DC P D d .returning L s fun L1 s1 => outV TT D rs s0 R fr L1 s1
  | .panic ch, [d], fr, L, s => DC P D d (.panicking ch) L s fun L1 s1 => outV TT D rs s0 R fr L1 s1
  | _, _, _, _, _ => False
theorem AC_enterV {f : FuncId} {fn : Func} {c : Code} {args : List Value} {R : Value → Hl → World → Prop} (hT : TabOK P TT) (hf : P.funcs[f]? = some fn) (hn : (fn.name == "runtime.NumGoroutine") = false) (hb : fn.body = some c) (hnt : fn.ntmps = n) (hle : Nat.ble args.length n = true) {rs : List ResultVar} (hrs : fn.results.toList = rs) (fr0 : Fr) (hfr : slots 0 args = fr0)
    (h : RC P TT D n none (retV P TT D rs s R) c [] fr0 L s) : AC P D f args L s R := by
  subst hfr; subst hrs
  refine ⟨⟨fn, hf, hn, by simp [hb]⟩, fun ho => calls_of_wp_defers hf hb ?_⟩
  have hle' : args.length ≤ n := Nat.le_of_ble_eq_true hle
  have hr : FrD [] n { tmps := args.toArray ++ Array.replicate (fn.ntmps - args.toArray.size) undef, defers := [] } (slots 0 args) := by
    refine ⟨⟨by simp [hnt]; omega, Z, fun t ht v hv => ?_, fun t v hv => ?_⟩, Z⟩
    · rw [flook_slots] at hv
      simp at hv
      obtain ⟨hlt, _⟩ := List.getElem?_eq_some_iff.1 hv
      simp [Array.getElem?_append, hlt]
      exact (List.getElem?_eq_some_iff.1 hv).2
    · rw [flook_slots] at hv
      simp at hv
      obtain ⟨hlt, _⟩ := List.getElem?_eq_some_iff.1 hv
      omega
  refine wpIn_wide.1 (wpIn_mono (n := 0) (h hT _ hr ho) ?_)
  rintro e a w ⟨ds, fr', L1, s1, k1, k2, rfl, hq⟩
  have fin : ∀ (L2 : Hl) (s2 : World), OKL D L2 s2 → outV TT D fn.results.toList s R fr' L2 s2 → ∃ v, (results fn a.tmps).run P (fill L2 s2) = .ok v (fill L2 s2) ∧ ∃ v' L' s', Ending.returned v = .returned v' ∧ fill L2 s2 = fill L' s' ∧ OKL D L' s' ∧ Le D s s' ∧ R v' L' s' := fun L2 s2 ho2 hout => by
    obtain ⟨vs, A, L', hres, rfl, hle1, hR⟩ := hout
    obtain ⟨d1, d2, d3⟩ := drop_own ho2
    have hrun : (results fn a.tmps).run P (fill (A ++ L') s2) = .ok (resV vs) (fill (A ++ L') s2) := by
      have h1 := Res.run hT k1.rel ho2 hres
      have h2 : (fn.results.mapM (resF a.tmps)).run P (fill (A ++ L') s2) = .ok vs.toArray (fill (A ++ L') s2) := by
        rw [Array.mapM_eq_mapM_toList]
        simp only [map_eq_pure_bind, Sem.run_bind, h1, Result.andThen_ok, Sem.run_pure]
      rw [results_eq]
      simp only [Sem.run_bind, h2, Result.andThen_ok, Sem.run_pure]
      congr 1
      match vs with
      | [] => rfl
      | [v] => rfl
      | v :: u :: r => simp [resV]
    exact ⟨_, hrun, _, L', fill A s2, rfl, d1, d2, hle1.trans d3, hR _ d3⟩
  have one : ∀ (dd : Deferred) (u : FrameMode), u ≠ .run → ds = [dd] → DC P D dd u L1 s1 (fun L1 s1 => outV TT D fn.results.toList s R fr' L1 s1) → Leaves P fn a.tmps (fun e w' => ∃ v L' s', e = .returned v ∧ w' = fill L' s' ∧ OKL D L' s' ∧ Le D s s' ∧ R v L' s') a.defers u (fill L1 s1) := fun dd u hu hds hdc => by
    obtain ⟨fv, cap, g, gs, h1, h2, h3⟩ := hdc k2
    rw [k1.defers, hds]
    refine ⟨hu, fv, cap, g, gs, h1, h2, h3.mono ?_⟩
    rintro e u' w' ⟨v, rfl, hset, L2, s2, rfl, ho2, hout⟩
    show Leaves P fn a.tmps _ [] (settle u') (fill L2 s2)
    rw [hset]
    obtain ⟨v, h4, h5⟩ := fin L2 s2 ho2 hout
    exact ⟨v, h4, h5⟩
  match e, ds, hq with
  | .normal, [], hq =>
    show Leaves P fn a.tmps _ a.defers .returning (fill L1 s1)
    rw [k1.defers]; exact fin L1 s1 k2 hq
  | .ret, [], hq =>
    show Leaves P fn a.tmps _ a.defers .returning (fill L1 s1)
    rw [k1.defers]; exact fin L1 s1 k2 hq
  | .normal, [dd], hq => exact one dd .returning (by intro h; cases h) rfl hq
  | .ret, [dd], hq => exact one dd .returning (by intro h; cases h) rfl hq
  | .panic ch, [dd], hq => exact one dd (.panicking ch) (by intro h; cases h) rfl hq
theorem thenG_p {J : List Deferred → Fr → Hl → World → Prop} {ch : List PanicEntry} (h : Q (.panic ch) ds fr L s) : thenG J Q (.panic ch) ds fr L s := h
theorem blockG_p {id : Nat} {ch : List PanicEntry} (h : Q (.panic ch) ds fr L s) : blockG id Q (.panic ch) ds fr L s := h
theorem outV_mk {rs : List ResultVar} {R : Value → Hl → World → Prop} {vs : List Value} (A L' : Hl) (h : Res TT fr L rs vs) (hL : L = A ++ L') (hl : Le D s0 s) (hR : ∀ s', Le D s s' → R (resV vs) L' s') : outV TT D rs s0 R fr L s := ⟨vs, A, L', h, hL, hl, hR⟩
theorem retV_0 {rs : List ResultVar} {R : Value → Hl → World → Prop} {e : Exit} (he : e = .normal ∨ e = .ret) (h : outV TT D rs s0 R fr L s) : retV P TT D rs s0 R e [] fr L s := by
  rcases he with rfl | rfl <;> exact h
theorem retV_1 {rs : List ResultVar} {R : Value → Hl → World → Prop} {e : Exit} {dd : Deferred} (he : e = .normal ∨ e = .ret) (h : DC P D dd .returning L s fun L1 s1 => outV TT D rs s0 R fr L1 s1) : retV P TT D rs s0 R e [dd] fr L s := by
  rcases he with rfl | rfl <;> exact h
theorem retV_p {rs : List ResultVar} {R : Value → Hl → World → Prop} {ch : List PanicEntry} {dd : Deferred} (h : DC P D dd (.panicking ch) L s fun L1 s1 => outV TT D rs s0 R fr L1 s1) : retV P TT D rs s0 R (.panic ch) [dd] fr L s := h
def recC (id : Nat) (d0 d1 t t' ty0 ty1 : Nat) (ts : Array TypeId) (p0 p1 : String) (a0 a1 : Array Edge) (c2 : Code) : Code :=
  .seq (.region id #[⟨some d0, .call { callee := .builtin .recover, args := #[], argTypes := ts }, ty0, p0, a0, none⟩, ⟨some d1, .binOp .neq t (.tmp d0) (.const .nilIface) t', ty1, p1, a1, none⟩] false) (.cond (.tmp d1) c2 .skip)
theorem run_results0 {fn : Func} (h : fn.results = #[]) (tmps : Array Value) (w : World) : (results fn tmps).run P w = .ok (.tuple #[]) w := by
  rw [results_eq, h]
  simp
section rec
variable {f : FuncId} {fn : Func} {id d0 d1 t t' ty0 ty1 : Nat} {ts : Array TypeId} {p0 p1 : String} {a0 a1 : Array Edge} {c2 : Code} {cap : List Value} {K : Hl → World → Prop}
theorem rec_frame (hnt : fn.ntmps = n) (hle : Nat.ble cap.length n = true) : FrRel n { tmps := cap.toArray ++ Array.replicate (fn.ntmps - cap.toArray.size) undef, defers := [] } (slots 0 cap) := by
  have hle' : cap.length ≤ n := Nat.le_of_ble_eq_true hle
  refine ⟨by simp [hnt]; omega, Z, fun t ht v hv => ?_, fun t v hv => ?_⟩
  · rw [flook_slots] at hv
    simp at hv
    obtain ⟨hlt, _⟩ := List.getElem?_eq_some_iff.1 hv
    simp [Array.getElem?_append, hlt]
    exact (List.getElem?_eq_some_iff.1 hv).2
  · rw [flook_slots] at hv
    simp at hv
    obtain ⟨hlt, _⟩ := List.getElem?_eq_some_iff.1 hv
    omega
theorem rec_run {a : Act} {w : World} {v0 : Value} {b : Bool} (hu : P.underlying t = some (.interface (P.methodsAt t))) (e1 : a.eval (.tmp d0) = v0) (hE : EqNil v0 (!b)) : (execOp a.eval ⟨some d1, .binOp .neq t (.tmp d0) (.const .nilIface) t', ty1, p1, a1, none⟩).run P w = .ok (.value (.bool b)) w := by
  have hc : a.eval (.const .nilIface) = .nilIface := rfl
  rcases hE with ⟨rfl, hb⟩ | ⟨u, p, rfl, hb⟩
  · obtain rfl : b = false := by simpa using hb
    simp [execOp, e1, hc, eqGuard_nil_constR, run_neq_nil_nil w t hu]
  · obtain rfl : b = true := by simpa using hb
    simp [execOp, e1, hc, eqGuard, run_neq_held_nil w t u p hu]
theorem rec_none {a : Act} {cs : List Frame} {w : World} {Q : Exit → Act → List Frame → World → Prop} (hrec : recoverD cs = none)
    (hx : (execOp (a.put (some d0) .nilIface).eval ⟨some d1, .binOp .neq t (.tmp d0) (.const .nilIface) t', ty1, p1, a1, none⟩).run P w = .ok (.value (.bool false)) w)
    (h : Q .normal ((a.put (some d0) .nilIface).put (some d1) (.bool false)) cs w) : wpOpsS P #[⟨some d0, .call { callee := .builtin .recover, args := #[], argTypes := ts }, ty0, p0, a0, none⟩, ⟨some d1, .binOp .neq t (.tmp d0) (.const .nilIface) t', ty1, p1, a1, none⟩] Q [0, 1] a cs w := by
  have h0 : (execOp a.eval ⟨some d0, .call { callee := .builtin .recover, args := #[], argTypes := ts }, ty0, p0, a0, none⟩).run P w = .ok .recover w := by
    simp [execOp, resolve, invoke, builtin]
  simp only [wpOpsS, Region.wanted, List.getElem?_toArray, List.getElem?_cons_zero, List.getElem?_cons_succ, if_true, h0, hrec, hx, Oper.upon]
  exact h
theorem rec_some {a : Act} {cs cs' : List Frame} {w : World} {v0 : Value} {Q : Exit → Act → List Frame → World → Prop} (hrec : recoverD cs = some (v0, cs'))
    (hx : (execOp (a.put (some d0) v0).eval ⟨some d1, .binOp .neq t (.tmp d0) (.const .nilIface) t', ty1, p1, a1, none⟩).run P w = .ok (.value (.bool true)) w)
    (h : Q .normal ((a.put (some d0) v0).put (some d1) (.bool true)) cs' w) : wpOpsS P #[⟨some d0, .call { callee := .builtin .recover, args := #[], argTypes := ts }, ty0, p0, a0, none⟩, ⟨some d1, .binOp .neq t (.tmp d0) (.const .nilIface) t', ty1, p1, a1, none⟩] Q [0, 1] a cs w := by
  have h0 : (execOp a.eval ⟨some d0, .call { callee := .builtin .recover, args := #[], argTypes := ts }, ty0, p0, a0, none⟩).run P w = .ok .recover w := by
    simp [execOp, resolve, invoke, builtin]
  simp only [wpOpsS, Region.wanted, List.getElem?_toArray, List.getElem?_cons_zero, List.getElem?_cons_succ, if_true, h0, hrec, hx, Oper.upon]
  exact h
theorem DC_ret (hf : P.funcs[f]? = some fn) (hn : (fn.name == "runtime.NumGoroutine") = false) (hb : fn.body = some (recC id d0 d1 t t' ty0 ty1 ts p0 p1 a0 a1 c2)) (hnt : fn.ntmps = n) (hle : Nat.ble cap.length n = true) (hrs : fn.results = #[]) (hu : P.underlying t = some (.interface (P.methodsAt t))) (hd0 : Nat.blt d0 n = true) (hd1 : Nat.blt d1 n = true)
    (hK : K L s) : DC P D { target := .fn (.func f) cap.toArray, args := #[] } .returning L s K := fun ho => by
  have h2' : ¬ fn.name = "runtime.NumGoroutine" := by simpa using hn
  refine ⟨_, _, f, cap.toArray, Z, by simp [invoke, callFunc, hf, h2', hb], callsD_of_wpS hf hb fun c₀ cs hm => ?_⟩
  have hr := rec_frame (fn := fn) hnt hle
  have hr1 := hr.put hd0 .nilIface
  have hr2 := hr1.put hd1 (.bool false)
  refine wpS_seq (wpS_region (rec_none (by simp [recoverD, hm]) (rec_run hu (hr1.ev (x := .tmp d0) (v := .nilIface) (by simp [lk, flook_cons])) (.inl ⟨Z, Z⟩)) ?_))
  refine wpS_cond (t := false) (hr2.ev (x := .tmp d1) (v := .bool false) (by simp [lk, flook_cons])) (wpS_of_wp (wp_skip ?_))
  exact ⟨hr2.defers, .returning, by rw [← hm], _, run_results0 hrs _ _, _, rfl, rfl, L, s, rfl, ho, hK⟩
theorem DC_pan {t0 : TypeId} {v0 : Value} {TT : TyTab} (hT : TabOK P TT) (hf : P.funcs[f]? = some fn) (hn : (fn.name == "runtime.NumGoroutine") = false) (hb : fn.body = some (recC id d0 d1 t t' ty0 ty1 ts p0 p1 a0 a1 c2)) (hnt : fn.ntmps = n) (hle : Nat.ble cap.length n = true) (hrs : fn.results = #[]) (hu : P.underlying t = some (.interface (P.methodsAt t))) (hd0 : Nat.blt d0 n = true) (hd1 : Nat.blt d1 n = true)
    (fr0 : Fr) (hfr : (d1, .bool true) :: (d0, .iface t0 v0) :: slots 0 cap = fr0)
    (h : JC P TT D n (fun e _ L' s' => e = .normal ∧ ∃ A L1, L' = A ++ L1 ∧ Le D s s' ∧ ∀ s2, Le D s' s2 → K L1 s2) c2 fr0 L s) : DC P D { target := .fn (.func f) cap.toArray, args := #[] } (.panicking [{ v := .iface t0 v0, recovered := false }]) L s K := fun ho => by
  subst hfr
  have h2' : ¬ fn.name = "runtime.NumGoroutine" := by simpa using hn
  refine ⟨_, _, f, cap.toArray, Z, by simp [invoke, callFunc, hf, h2', hb], callsD_of_wpS hf hb fun c₀ cs hm => ?_⟩
  have hr := rec_frame (fn := fn) hnt hle
  have hr1 := hr.put hd0 (.iface t0 v0)
  have hr2 := hr1.put hd1 (.bool true)
  refine wpS_seq (wpS_region (rec_some (v0 := .iface t0 v0) (cs' := { c₀ with mode := .panicking [{ v := .iface t0 v0, recovered := true }] } :: cs) (by simp [recoverD, hm]) (rec_run hu (hr1.ev (x := .tmp d0) (v := .iface t0 v0) (by simp [lk, flook_cons])) (.inr ⟨_, _, Z, Z⟩)) ?_))
  refine wpS_cond (t := true) (hr2.ev (x := .tmp d1) (v := .bool true) (by simp [lk, flook_cons])) (wpS_of_wp (wp_mono (h hT _ hr2 ho) ?_))
  rintro e a w ⟨fr', L', s', k1, k2, rfl, rfl, A, L1, rfl, hl, hK⟩
  obtain ⟨d1, d2, d3⟩ := drop_own k2
  exact ⟨k1.defers, .panicking [{ v := .iface t0 v0, recovered := true }], rfl, _, run_results0 hrs _ _, _, rfl, by simp [settle], L1, fill A s', d1, d2, hK _ d3⟩
end rec
end
section calls
variable {P : Program} {TT : TyTab} {D n : Nat} {Q : GPost} {ds : List Deferred} {fr : Fr} {L : Hl} {s : World}
section range
variable {σ α : Type} (H : σ → Hl) (I : σ → World → Prop) (pend : σ → Option Code) (St : σ → α → σ → Prop) (enc : α → List Value) (Pre : σ → α → World → Prop) (Fin : σ → Prop)
end range
end calls
section
variable {P : Program} {TT : TyTab} {D n : Nat} {ro : Option Nat} {Q : GPost} {ds : List Deferred} {fr : Fr} {L : Hl} {s : World} {ops : Array Oper} {rest : List Oper} {d ty : Nat} {pos : String} {af : Array Edge} {v : Value}
theorem RO_box {t : Nat} {x : Operand} {zs : List Value} (hx : lk fr x = some v) (hz : cellsL v = zs) (hd : Nat.blt d n = true)
    (k : ∀ β s', Le D s s' → RO P TT D n ro ops Q rest ds ((d, .pointer (some ⟨β, 0, none⟩)) :: fr) ((β, cb zs t) :: L) s') : RO P TT D n ro ops Q (⟨some d, .box t x, ty, pos, af, none⟩ :: rest) ds fr L s := fun hT a hr ho =>
  RO_ev (by nofun) hd (Ev_box hx hz ho) (k _ _ (alloc_fill ho (cb zs t)).2.2) hT a hr ho
theorem RO_boxA {t : Nat} {x : Operand} {zs : List Value} (hx : lk fr x = some (.agg zs.toArray)) (hd : Nat.blt d n = true)
    (k : ∀ β s', Le D s s' → RO P TT D n ro ops Q rest ds ((d, .pointer (some ⟨β, 0, none⟩)) :: fr) ((β, cb zs t) :: L) s') : RO P TT D n ro ops Q (⟨some d, .box t x, ty, pos, af, none⟩ :: rest) ds fr L s :=
  RO_box hx (by simp [cellsL]) hd k
end
section
variable {P : Program} {TT : TyTab} {D n : Nat} {ro : Option Nat} {Q : GPost} {ds : List Deferred} {fr : Fr} {L : Hl} {s : World} {ops : Array Oper} {rest : List Oper} {d ty : Nat} {pos : String} {af : Array Edge} {v : Value}
theorem Yqm {x : Operand} (hx : lk fr x = some v) (hd : Nat.blt d n = true) (k : RO P TT D n ro ops Q rest ds ((d, v) :: fr) L s) : RO P TT D n ro ops Q (⟨some d, .move x, ty, pos, af, none⟩ :: rest) ds fr L s := RO_q (QE_mv hx) hd k
theorem Yqgt {x y : Operand} {ik : IntKind} {a b : Int} {t t' : Nat} (hx : lk fr x = some (.int ik a)) (hy : lk fr y = some (.int ik b)) (hd : Nat.blt d n = true) (k : RO P TT D n ro ops Q rest ds ((d, .bool (decide (b < a))) :: fr) L s) : RO P TT D n ro ops Q (⟨some d, .binOp .gtr t x y t', ty, pos, af, none⟩ :: rest) ds fr L s := RO_q (QE_gt hx hy) hd k
theorem Yqls {x : Operand} {t : Nat} {A : Option Addr} {m c : Nat} {ti : TI} {e : Nat} (hx : lk fr x = some (.slice A m c)) (ht : tlook TT t = some ti) (hk : ti.kind = .sl e) (hd : Nat.blt d n = true) (k : RO P TT D n ro ops Q rest ds ((d, .int .i64 (m : Int)) :: fr) L s) : RO P TT D n ro ops Q (⟨some d, .call { callee := .builtin .len, args := #[x], argTypes := #[t] }, ty, pos, af, none⟩ :: rest) ds fr L s := RO_q (QE_lenS hx ht hk) hd k
theorem Yqlt2 {x : Operand} {t : Nat} {l : List UInt8} {ti : TI} (hx : lk fr x = some (St l)) (ht : tlook TT t = some ti) (hk : ti.desc = .string) (hd : Nat.blt d n = true) (k : RO P TT D n ro ops Q rest ds ((d, .int .i64 (l.length : Int)) :: fr) L s) : RO P TT D n ro ops Q (⟨some d, .call { callee := .builtin .len, args := #[x], argTypes := #[t] }, ty, pos, af, none⟩ :: rest) ds fr L s := RO_q (QE_lenT hx ht hk) hd k
theorem Yql {t b off : Nat} {x : Operand} {ti : TI} {t' : Nat} {zs : List Value} (i : Nat) (hx : lk fr x = some (.pointer (some ⟨b, off, none⟩))) (hi : L[i]? = some (b, cb zs t')) (ht : tlook TT t = some ti) (hk : isOne ti.kind = true) (hv : nth zs off = some v) (hd : Nat.blt d n = true) (k : RO P TT D n ro ops Q rest ds ((d, v) :: fr) L s) : RO P TT D n ro ops Q (⟨some d, .load t x, ty, pos, af, none⟩ :: rest) ds fr L s := RO_q (QE_ld1 i hx hi ht hk hv) hd k
end
abbrev Ys := @RC_seq
abbrev Yr := @RC_region
abbrev Yn := @RO_nil
abbrev Yt := @thenG_n
abbrev Yu := @thenG_r
abbrev Yk := @RC_skip
abbrev Yo := @RC_ret
end Go.FL
namespace Go.Proofs.YtiljephghfngnaaGreatDoor
open Go.FL
attribute [local irreducible] JC JO JA JB thenQ blockQ retQ AC fill CellsAt QE Ev Mid
theorem pd_ret (D : Nat) (L : Hl) (s : World) (bv b2 b3 : Nat) (K : Hl → World → Prop) (hK : K L s) : DC Tryz.prog D { target := .fn (.func 31) [.pointer (some ⟨bv, 0, none⟩), .pointer (some ⟨b2, 0, none⟩), .pointer (some ⟨b3, 0, none⟩)].toArray, args := ([] : List Value).toArray } .returning L s K :=
  DC_ret (fn := Tryz.f31) (t := 20) Tryz.func31 V rfl Tryz.ntmps31 rfl rfl V rfl rfl hK
theorem pd_pan (D : Nat) (L : Hl) (s : World) (l : List UInt8) (t : PS) (bp bv b2 b3 : Nat) (x0 x1 y0 y1 : Value) (t0 : TypeId) (v0 : Value) (K : Hl → World → Prop) (hK : ∀ s', Le D s s' → K ((bv, cb [.pointer (some ⟨bp, 0, none⟩)] 65) :: psB bp l t :: (b3, cb [.int .i64 1, .int .i64 (t.next.off : Int)] 27) :: (b2, cb [.slice none 0 0, .slice none 0 0] 25) :: L) s') : DC Tryz.prog D { target := .fn (.func 31) [.pointer (some ⟨bv, 0, none⟩), .pointer (some ⟨b2, 0, none⟩), .pointer (some ⟨b3, 0, none⟩)].toArray, args := ([] : List Value).toArray } (.panicking [{ v := .iface t0 v0, recovered := false }]) ((bv, cb [.pointer (some ⟨bp, 0, none⟩)] 65) :: psB bp l t :: (b3, cb [x0, x1] 27) :: (b2, cb [y0, y1] 25) :: L) s K := by
 refine DC_pan (TT := TT) (fn := Tryz.f31) (t := 20) TT_ok Tryz.func31 V Z Tryz.ntmps31 Z Z V Z Z [(4, _), (3, _), (0, _), (1, _), (2, _)] Z <| Zr <| JO_q (QE_build [] [_, _] Z Z Z Z Z Z) Z <| Wl 0 Y6 <| Zqni Z Z <| Wb Y5 <| JO_q (QE_fa Z Z Z Z) Z <| Wl 1 Y6 <| Jc Z Z Z (fault_ac D _ _ _ _) ?_
 rintro _ _ s1 h1 ⟨rfl, rfl⟩
 refine Wt 3 [_, _] Y9 <| Wt 2 [_, _] Y9 <| Zn ?_
 exact ⟨rfl, [], _, rfl, h1, fun s2 h2 => hK _ (h1.t h2)⟩
theorem parP_long {l : Str} (h : 12000 < l.length) : parP l = (⟨[], []⟩, (3, -1)) := if_pos h
theorem parP_er {l : Str} {t : PS} (h : l.length ≤ 12000) (he : pProg l (fuelP l) ⟨[], []⟩ (advP l zeroT) = .er t) : parP l = (⟨[], []⟩, (1, (t.next.off : Int))) := by rw [parP, if_neg O, he]
theorem parP_ok {l : Str} {t : PS} {p : Prg} (h : l.length ≤ 12000) (he : pProg l (fuelP l) ⟨[], []⟩ (advP l zeroT) = .ok p t) : parP l = if (prgF p).1 ≠ 0 then (⟨[], []⟩, prgF p) else (p, (0, 0)) := by rw [parP, if_neg O, he]
theorem prgF_z {p : Prg} (h : (prgF p).1 = 0) : prgF p = (0, 0) := by
  unfold prgF at h ⊢
  split
  · rename_i h1; rw [if_pos h1] at h; exact absurd h h1
  · rename_i h1
    rw [if_neg h1] at h
    split
    · rename_i h2; rw [if_pos h2] at h; cases h
    · rfl
theorem glos_nil (s : World) : Glos s none 0 0 [] := ⟨rfl, Nat.le_refl _, by omega, fun i x h => by cases h⟩
theorem fncs_nil (s : World) : Fncs 0 s none 0 0 [] := ⟨rfl, Nat.le_refl _, by omega, fun i x h => by cases h⟩
theorem parse_prog (D : Nat) (L : Hl) (s : World) (hG : GP s) (l : List UInt8) : AC Tryz.prog D 13 [St l] L s fun v L' s' => L = L' ∧ ∃ d p f0 f1 Ag ng cg Af nf cf, v = .tuple #[.agg #[.slice Ag ng cg, .slice Af nf cf], .agg #[.int .i64 f0, .int .i64 f1]] ∧ parP l = (p, (f0, f1)) ∧ Glos s' Ag ng cg p.globals ∧ Fncs d s' Af nf cf p.funcs := by
 refine AC_enterV (TT := TT) (fn := Tryz.f13) TT_ok Tryz.func13 V Z Tryz.ntmps13 Z (rs := [.cell 2 25, .cell 3 27]) Z [(0, _)] Z <| Ys <| Yr <| RO_allocZ Z [_, _] Z Z ?_
 intro β1 s1 h1
 refine RO_allocZ Z [_, _] Z Z ?_
 intro β2 s2 h2
 refine Yn <| Yt <| Ys <| Ys <| Yr <| Yqm Z Z <| Yqlt2 Z Z Z Z <| Yqgt Z Z Z <| Yn <| Yt <| ?_
 refine RC_ifD Z (fun c3 => ?_) (fun c3 => ?_)
 ·
  refine Ys <| Yr <| RO_q (QE_build [] [_, _] Z Z Z Z Z Z) Z <| Rc9 Z Z Z (fault_ac D _ _ _ _) ?_
  rintro _ _ s4 h4 ⟨rfl, rfl⟩
  refine RO_st 1 [_, _] Z Z Z Z Z Z Z Z Z <| RO_st 0 [_, _] Z Z Z Z Z Z Z Z Z <| Yn <| Yt <| Yo <| Yu <| ?_
  refine retV_0 (.inr Z) (outV_mk [_, _] L (.agg (us := [_, _]) 1 Z Z Z Z Z (.agg (us := [_, _]) 0 Z Z Z Z Z (.nil))) Z (h1.t h2|>.t h4) (fun sR hS2 => ?_))
  exact ⟨rfl, 0, ⟨[], []⟩, _, _, _, _, _, _, _, _, rfl, parP_long O, glos_nil _, fncs_nil _⟩
 refine Yk <| Yt <| Ys <| Yr <| Yqm Z Z <| RO_q (QE_build [(_, _)] [_, _, _, _, _, _] Z Z Z Z Z Z) Z <| RO_boxA Z Z ?_
 intro β5 s5 h5
  
 refine RO_allocZ Z [_] Z Z ?_
 intro β6 s6 h6
 refine RO_st 0 [_] Z Z Z Z Z Z Z Z Z <| Yn <| Yt <| Ys <| Yr <| RO_q (QE_func Z) Z <| RO_defer Z <| Yn <| Yt <| Ys <| Yr <| Yql 0 Z Z Z Z Z Z <| Rc9 Z Z Z (adv_ac D [_] _ _ (hG.le (h1.t h2|>.t h5|>.t h6)) l zeroT _ O (Nat.zero_le _)) ?_
 rintro _ _ s7 h7 ⟨_, rfl, rfl⟩
 simp only [cQ9, nQ9]
 refine Yn <| Yt <| Ys <| Yr <| Yql 0 Z Z Z Z Z Z <| ?_
 refine RO_callP (first := []) (captured := []) Z Z Z (CP.at_ (prog_st (fuelP l) (by unfold fuelP; omega)) D [_] _ _ (hG.le (h1.t h2|>.t h5|>.t h6|>.t h7)) l (advP l zeroT) _ O (PG.zero l) (prog_fin l).no) ?_ ?_
 ·
  rintro _ _ sx8 hx8 ⟨⟨tt9, tv9, rfl⟩, t9, he9, hg9, rfl⟩
  repeat (first | refine thenG_p ?_ | refine blockG_p ?_)
  refine retV_p (pd_pan D L _ l t9 _ _ _ _ _ _ _ _ _ _ _ (fun s9 h9 => ?_))
  refine outV_mk [_, _, _, _] L (.agg (us := [_, _]) 3 Z Z Z Z Z (.agg (us := [_, _]) 2 Z Z Z Z Z .nil)) Z (h1.t h2|>.t h5|>.t h6|>.t h7|>.t hx8|>.t h9) (fun sR hS2 => ?_)
  exact ⟨rfl, 0, ⟨[], []⟩, _, _, _, _, _, _, _, _, rfl, parP_er O he9, glos_nil _, fncs_nil _⟩
 rintro _ _ s8 h8 ⟨x8, t8, he8, hg8, ⟨d8, A8, n8, c8, P8, p8, q8, rfl, hE8, hB8⟩, rfl⟩
 simp only [cQ9, nQ9]
 refine RO_st 3 [_, _] Z Z Z Z Z Z Z Z Z <| Yn <| Yt <| Ys <| Ys <| Yr <| RO_q (QE_ldA 3 [_, _] Z Z Z Z Z) Z <| Rc9 Z Z Z (validate_ac D _ _ (hG.le (h1.t h2|>.t h5|>.t h6|>.t h7|>.t h8)) d8 x8 _ _ _ _ _ _ (hE8.le (Lr D)) (hB8.le (Lr D))) ?_
 rintro _ _ s9 h9 ⟨rfl, rfl⟩
 refine RO_allocZ Z [_, _] Z Z ?_
 intro β10 s10 h10
 refine RO_st 0 [_, _] Z Z Z Z Z Z Z Z Z <| Yn <| Yt <| Ys <| Yr <| RO_q (QE_ldA 0 [_, _] Z Z Z Z Z) Z <| RO_q (QE_build [] [_, _] Z Z Z Z Z Z) Z <| RO_q (QE_ane Z Z (eqFault _ _ _ _)) Z <| Yn <| Yt <| ?_
 refine RC_ifN Z (fun c11 => ?_) (fun c11 => ?_)
 ·
  have hbad : (prgF x8).1 ≠ 0 := fun h => c11 (by rw [prgF_z h]; exact ⟨rfl, rfl⟩)
  refine Ys <| RC_draw drawsMixed 4 Z ?_
  intro s12 h12
  refine RA_2 0 1 V ?_ ?_
  ·
   refine RB_q Z (QE_build [] [_, _] Z Z Z Z Z Z) Z ?_
   refine RA_2 1 2 V ?_ ?_
   ·
    refine RB_q Z (QE_ldA 0 [_, _] Z Z Z Z Z) Z <| RA_1 2 V <| RB_st Z 4 [_, _] Z Z Z Z Z Z Z Z Z <| RA_1 3 V <| RB_st Z 3 [_, _] Z Z Z Z Z Z Z Z Z <| RA_done V <| Yt <| Yo <| Yu <| ?_
    refine retV_1 (.inr Z) (pd_ret D _ _ _ _ _ _ (outV_mk [_, _, _, _, _] L (.agg (us := [_, _]) 4 Z Z Z Z Z (.agg (us := [_, _]) 3 Z Z Z Z Z (.nil))) Z (h1.t h2|>.t h5|>.t h6|>.t h7|>.t h8|>.t h9|>.t h10|>.t h12) (fun sR hS2 => ?_)))
    exact ⟨rfl, 0, ⟨[], []⟩, _, _, _, _, _, _, _, _, rfl, (by rw [parP_ok O he8, if_pos hbad]), glos_nil _, fncs_nil _⟩
   refine RB_st Z 4 [_, _] Z Z Z Z Z Z Z Z Z <| RA_1 1 V <| RB_q Z (QE_ldA 0 [_, _] Z Z Z Z Z) Z <| RA_1 3 V <| RB_st Z 3 [_, _] Z Z Z Z Z Z Z Z Z <| RA_done V <| Yt <| Yo <| Yu <| ?_
   refine retV_1 (.inr Z) (pd_ret D _ _ _ _ _ _ (outV_mk [_, _, _, _, _] L (.agg (us := [_, _]) 4 Z Z Z Z Z (.agg (us := [_, _]) 3 Z Z Z Z Z (.nil))) Z (h1.t h2|>.t h5|>.t h6|>.t h7|>.t h8|>.t h9|>.t h10|>.t h12) (fun sR hS2 => ?_)))
   exact ⟨rfl, 0, ⟨[], []⟩, _, _, _, _, _, _, _, _, rfl, (by rw [parP_ok O he8, if_pos hbad]), glos_nil _, fncs_nil _⟩
  refine RB_q Z (QE_ldA 0 [_, _] Z Z Z Z Z) Z <| RA_1 0 V <| RB_q Z (QE_build [] [_, _] Z Z Z Z Z Z) Z <| RA_1 2 V <| RB_st Z 4 [_, _] Z Z Z Z Z Z Z Z Z <| RA_1 3 V <| RB_st Z 3 [_, _] Z Z Z Z Z Z Z Z Z <| RA_done V <| Yt <| Yo <| Yu <| ?_
  refine retV_1 (.inr Z) (pd_ret D _ _ _ _ _ _ (outV_mk [_, _, _, _, _] L (.agg (us := [_, _]) 4 Z Z Z Z Z (.agg (us := [_, _]) 3 Z Z Z Z Z (.nil))) Z (h1.t h2|>.t h5|>.t h6|>.t h7|>.t h8|>.t h9|>.t h10|>.t h12) (fun sR hS2 => ?_)))
  exact ⟨rfl, 0, ⟨[], []⟩, _, _, _, _, _, _, _, _, rfl, (by rw [parP_ok O he8, if_pos hbad]), glos_nil _, fncs_nil _⟩
 have hgood : prgF x8 = (0, 0) := Prod.ext c11.1 c11.2
 refine Yk <| Yt <| Ys <| Yr <| RO_q (QE_ldA 4 [_, _] Z Z Z Z Z) Z <| RO_q (QE_build [] [_, _] Z Z Z Z Z Z) Z <| RO_st 4 [_, _] Z Z Z Z Z Z Z Z Z <| RO_st 3 [_, _] Z Z Z Z Z Z Z Z Z <| Yn <| Yt <| Yo <| ?_
 refine retV_1 (.inr Z) (pd_ret D _ _ _ _ _ _ (outV_mk [_, _, _, _, _] L (.agg (us := [_, _]) 4 Z Z Z Z Z (.agg (us := [_, _]) 3 Z Z Z Z Z (.nil))) Z (h1.t h2|>.t h5|>.t h6|>.t h7|>.t h8|>.t h9|>.t h10) (fun sR hS2 => ?_)))
 exact ⟨rfl, d8, x8, _, _, _, _, _, _, _, _, rfl, (by rw [parP_ok O he8, if_neg (fun h => h (congrArg Prod.fst hgood))]), hE8.le (h9.t h10|>.t hS2), hB8.le (h9.t h10|>.t hS2)⟩
end Go.Proofs.YtiljephghfngnaaGreatDoor
