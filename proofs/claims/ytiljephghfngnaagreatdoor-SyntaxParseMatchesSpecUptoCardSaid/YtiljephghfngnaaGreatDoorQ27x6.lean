/- Part 6 of the proof of syntaxParseMatchesSpec_holds: texts V20, V21, V22, V23, V24, V25, S16, Sr, Ya. -/
import Derived.Test.YtiljephghfngnaaGreatDoorQ27x5
set_option linter.unusedVariables false
set_option linter.unusedSimpArgs false
set_option linter.unnecessarySimpa false
set_option maxRecDepth 100000
set_option maxHeartbeats 8000000
namespace Go.Proofs.YtiljephghfngnaaGreatDoor
open Go.FL
attribute [local irreducible] JC JO JA JB thenQ blockQ retQ AC fill CellsAt QE Ev Mid
theorem kw_split : splitB 32 kwT = kwords := by decide +kernel
theorem kwB_hit {k : Nat} {w s : Str} (h : kwords[k]? = some w) (he : w = s) : kwB s = true := List.any_eq_true.2 ⟨w, List.mem_of_getElem? h, by simp [he]⟩
theorem kwB_miss {s : Str} (h : ∀ i w, i < kwords.length → kwords[i]? = some w → decide (w = s) = false) : kwB s = false := by
  cases hk : kwB s with
  | false => rfl
  | true =>
    obtain ⟨w, hw, e⟩ := List.any_eq_true.1 hk
    obtain ⟨i, hi⟩ := List.getElem?_of_mem hw
    rw [h i w (List.getElem?_eq_some_iff.1 hi).1 hi] at e; cases e
theorem namedS_iff {k : Int} : namedS k = true ↔ (k = 1 ∨ k = 2 ∨ k = 5) := by simp [namedS, or_assoc]
theorem namedS_not {k : Int} : namedS k = false ↔ ¬ (k = 1 ∨ k = 2 ∨ k = 5) := by rw [← namedS_iff]; cases namedS k <;> simp
theorem rkw_ac (D : Nat) (L : Hl) (s : World) (w : List UInt8) : AC Tryz.prog D 18 [St w] L s fun v L' _ => v = .bool (kwB w) ∧ L = L' := by
 refine AC_enter (TT := TT) (fn := Tryz.f18) TT_ok Tryz.func18 V Z Tryz.ntmps18 Z (rs := [.tmp 2]) Z [(0, _)] Z <| Sr <| At Z Z <| Sr <| Jc Z Z Z (split_ac D _ _ kwT 32 (by decide)) ?_
 rintro _ _ s1 h1 ⟨rfl, Ak, nk, ck, rfl, hK⟩
 rw [kw_split] at hK
 have hnk := hK.1
 have hnk2 : kwords.length = 13 := by decide
 refine At Z Z <| Zs <| Sr <| At Z Z <| Zp <| JC_loop (γ := Nat) (fun k => [(0, _), (2, _), (3, _), (4, .int .i64 (k : Int))]) (fun _ => _) (fun k tw => Le D s1 tw ∧ (k ≤ nk ∧ ∀ i x, i < k → kwords[i]? = some x → decide (x = w) = false)) (fun k => nk - k) (fun _ _ _ h hl => ⟨h.1.trans hl, h.2⟩) 0 (.cons Z (.cons Z (.cons Z (.cons Z (.nil _))))) Z ⟨Le.refl _, ⟨Nat.zero_le _, fun i x hi => by omega⟩⟩ ?_
 intro k s2 I2
 have hk0 := I2.2.1
 have hI := I2.2.2
 refine Zs <| Sr <| Zqm Z Z <| Zqm Z Z <| Ws Y4 <| Zqlt Z Z Z <| Nt <| ?_
 refine JC_ifD Z (fun c3 => ?_) (fun c3 => ?_)
 ·
  have hk : k < nk := by omega
  obtain ⟨b, off, x, rfl, hx, hcx, _⟩ := Strs.at_ (hK.le I2.1) hk
  refine Zk <| Zt <| Zs <| Zp <| Sr <| Zqm Z Z <| Zqm Z Z <| JO_q (QE_ia1 Z Z Z Z Z Z hk) Z <| JO_q (QE_ldsR0 Z Z Z (hcx.le (Lr D)) Z) Z <| Zqm Z Z <| Zqse Z Z Z <| Nt <| ?_
  refine JC_ifD Z (fun c4 => ?_) (fun c4 => ?_)
  ·
   have hq := c4
   refine Sr <| At Z Z <| Zo <| Zc <| Zu <| Zu <| Zc <| Zu <| ?_
   refine retQ_mk [] L (.inr Z) (.tmp Z (.nil)) Z (h1.t I2.1) (fun sR hS2 => ?_)
   exact ⟨by rw [kwB_hit hx hq]; rfl, rfl⟩
  have hq := c4
  refine Zk <| Zb <| Zt <| Zr <| Zqm Z Z <| Zqadd Z Z Z (w64 O O) <| Zqa Z Z <| Zn <| ?_
  refine thenQ_n ⟨(k + 1), [], kp, Z, ⟨I2.1, ⟨by omega, below_succ hI hx (decide_eq_false hq)⟩⟩, O⟩
 refine Zl <| Zv <| Zv <| Zd <| Zt <| Sr <| At Z Z <| Zo <| ?_
 refine retQ_mk [] L (.inr Z) (.tmp Z (.nil)) Z (h1.t I2.1) (fun sR hS2 => ?_)
 exact ⟨by rw [kwB_miss (fun i w hi h => hI i w O h)]; rfl, rfl⟩
theorem rident_ac (D : Nat) (L : Hl) (s : World) (w : List UInt8) (hw : w.length ≤ 9223372036854775807) : AC Tryz.prog D 50 [St w] L s fun v L' _ => v = .bool (identB w) ∧ L = L' := by
 refine AC_enter (TT := TT) (fn := Tryz.f50) TT_ok Tryz.func50 V Z Tryz.ntmps50 Z (rs := [.tmp 2]) Z [(0, _)] Z <| Sr <| At Z Z <| Sr <| Zqm Z Z <| Jc Z Z Z (isName_ac D _ _ w 12 hw) ?_
 rintro _ _ s1 h1 ⟨rfl, rfl⟩
 refine Zqm Z Z ?_
 refine JO_case (t := 5) Z (fun c2 => ?_) (fun c2 => ?_)
 ·
  refine Zg Z Z <| Zqm Z Z <| Zg Z Z <| Jc Z Z Z (rkw_ac D _ _ w) ?_
  rintro _ _ s3 h3 ⟨rfl, rfl⟩
  refine Zg Z Z <| Zqno Z Z <| ZqT Z Z Z <| At Z Z <| Zo <| ?_
  refine retQ_mk [] L (.inr Z) (.tmp Z (.nil)) Z (h1.t h3) (fun sR hS2 => ?_)
  refine ⟨?_, Z⟩
  simp only [resV, identB]
  simp_all
 refine Wf Y4 <| Wf Y4 <| Wf Y4 <| ZqF Z Z Z <| At Z Z <| Zo <| ?_
 refine retQ_mk [] L (.inr Z) (.tmp Z (.nil)) Z h1 (fun sR hS2 => ?_)
 refine ⟨?_, Z⟩
 simp only [resV, identB]
 simp_all
theorem rglo_ac (D : Nat) (L : Hl) (s : World) (g : Glo) (A : Option Addr) (n c : Nat) (hA : Wds s A n c g.init) (hu : U32 g.num) (hl : g.name.length ≤ 9223372036854775807) : AC Tryz.prog D 49 [.agg #[.int .i64 g.kind, St g.name, .int .u32 g.num, .slice A n c]] L s fun v L' _ => v = .int .i64 (gloC g) ∧ L = L' := by
 have hn := hA.1
 have hu1 := hu.1
 have hu2 := hu.2
 refine AC_enter (TT := TT) (fn := Tryz.f49) TT_ok Tryz.func49 V Z Tryz.ntmps49 Z (rs := [.tmp 2]) Z [(0, _)] Z <| Sr <| JO_boxA Z Z ?_
 intro β1 s1 h1
 refine At Z Z <| Zs <| Sr <| W0 Y5 <| Wl 0 Y6 <| Jc Z Z Z (in_ac D _ _ _ _ _) ?_
 rintro _ _ s2 h2 ⟨rfl, rfl⟩
 refine Zqno Z Z <| Nt <| ?_
 refine JC_ifN Z (fun c3 => ?_) (fun c3 => ?_)
 ·
  refine Sr <| At Z Z <| Zo <| Zu <| ?_
  refine retQ_mk [_] L (.inr Z) (.tmp Z (.nil)) Z (h1.t h2) (fun sR hS2 => ?_)
  refine ⟨?_, Z⟩
  simp only [resV]; rw [gloC_n hn]
  repeat' split
  all_goals (first | rfl | (exfalso; omega) | (exfalso; simp_all; done) | (exfalso; simp_all; omega))
 refine Zk <| Zt <| Zs <| Sr <| Wb Y5 <| Wl 0 Y6 <| Jc Z Z Z (rident_ac D _ _ g.name hl) ?_
 rintro _ _ s4 h4 ⟨rfl, rfl⟩
 refine Zqno Z Z <| Nt <| ?_
 refine JC_ifM Z (fun c5 => ?_) (fun c5 => ?_)
 ·
  refine Sr <| At Z Z <| Zo <| Zu <| ?_
  refine retQ_mk [_] L (.inr Z) (.tmp Z (.nil)) Z (h1.t h2|>.t h4) (fun sR hS2 => ?_)
  refine ⟨?_, Z⟩
  simp only [resV]; rw [gloC_n hn]
  repeat' split
  all_goals (first | rfl | (exfalso; omega) | (exfalso; simp_all; done) | (exfalso; simp_all; omega))
 refine Zk <| Zt <| Zs <| ?_
 refine JC_cutB 29 ((g.kind ≠ 3 ∧ 0 < n) ∨ (g.kind = 2 ∧ g.num ≠ 0)) ?_ ?_
 ·
  refine Zr <| W0 Y5 <| Wl 0 Y6 <| Zqlt Z Z Z <| Zqm Z Z <| ?_
  refine JO_caseD (t := 14) Z (fun c7 => ?_) (fun c7 => ?_)
  ·
   refine Zg Z Z <| Wb Y5 <| Zg Z Z <| Wl 0 Y6 <| Zg Z Z <| Ws Y4 <| Zg Z Z <| Zqgt Z Z Z <| ZqT Z Z Z <| Zqm Z Z <| ?_
   refine JO_caseD (t := 20) Z (fun c8 => ?_) (fun c8 => ?_)
   ·
    refine Wf Y4 <| Wf Y4 <| Wf Y4 <| Wf Y4 <| Zh Z Z Z <| Zh Z Z Z <| Zh Z Z Z <| Wf Y4 <| ZqT Z Z Z <| Zn <| ?_
    refine thenQ_n (MidB.mk (Lr D) Sb Z ((decide_eq_true O).symm))
   refine Zg Z Z <| W0 Y5 <| Zg Z Z <| Wl 0 Y6 <| Zg Z Z <| Zqeq Z Z Z <| Zg Z Z <| Zqm Z Z <| ?_
   refine JO_caseD (t := 24) Z (fun c9 => ?_) (fun c9 => ?_)
   ·
    refine Zg Z Z <| Wb Y5 <| Zg Z Z <| Wl 0 Y6 <| Zg Z Z <| Zqne Z Z Z <| Zg Z Z <| ZqT Z Z Z <| ZqF Z Z Z <| Zn <| ?_
    refine thenQ_n (MidB.mk (Lr D) Sb Z (ndec_eq O))
   refine Wf Y4 <| Wf Y4 <| Wf Y4 <| Zg Z Z <| ZqF Z Z Z <| ZqF Z Z Z <| Zn <| ?_
   refine thenQ_n (MidB.mk (Lr D) Sb Z ((decide_eq_false O).symm))
  refine Wf Y4 <| Wf Y4 <| Wf Y4 <| Wf Y4 <| ZqF Z Z Z <| Zqm Z Z <| Zg Z Z <| W0 Y5 <| Zg Z Z <| Wl 0 Y6 <| Zg Z Z <| Zqeq Z Z Z <| Zg Z Z <| Zqm Z Z <| ?_
  refine JO_caseD (t := 24) Z (fun c10 => ?_) (fun c10 => ?_)
  ·
   refine Zg Z Z <| Wb Y5 <| Zg Z Z <| Wl 0 Y6 <| Zg Z Z <| Zqne Z Z Z <| Zg Z Z <| ZqT Z Z Z <| ZqF Z Z Z <| Zn <| ?_
   refine thenQ_n (MidB.mk (Lr D) Sb Z (ndec_eq O))
  refine Wf Y4 <| Wf Y4 <| Wf Y4 <| Zg Z Z <| ZqF Z Z Z <| ZqF Z Z Z <| Zn <| ?_
  refine thenQ_n (MidB.mk (Lr D) Sb Z ((decide_eq_false O).symm))
 intro s6 h6
 refine JC_ifD Z (fun c11 => ?_) (fun c11 => ?_)
 ·
  refine Sr <| At Z Z <| Zo <| Zu <| ?_
  refine retQ_mk [_] L (.inr Z) (.tmp Z (.nil)) Z (h1.t h2|>.t h4|>.t h6) (fun sR hS2 => ?_)
  refine ⟨?_, Z⟩
  simp only [resV]; rw [gloC_n hn]
  repeat' split
  all_goals (first | rfl | (exfalso; omega) | (exfalso; simp_all; done) | (exfalso; simp_all; omega))
 refine Zk <| Zt <| Zs <| ?_
 refine JC_cutB 39 (g.kind = 3 ∧ (g.num < 1 ∨ 40000 < g.num)) ?_ ?_
 ·
  refine Zr <| W0 Y5 <| Wl 0 Y6 <| Zqeq Z Z Z <| Zqm Z Z <| ?_
  refine JO_caseD (t := 33) Z (fun c13 => ?_) (fun c13 => ?_)
  ·
   refine Zg Z Z <| Wb Y5 <| Zg Z Z <| Wl 0 Y6 <| Zg Z Z <| JO_q (QE_conv' Z Z Z Z Z (w64 O O)) Z <| Zg Z Z <| Jc Z Z Z (in_ac D _ _ _ _ _) ?_
   rintro _ _ s14 h14 ⟨rfl, rfl⟩
   refine Zg Z Z <| Zqno Z Z <| ZqT Z Z Z <| Zn <| ?_
   refine thenQ_n (MidB.mk h14 Sb Z (ndec_eq O))
  refine Wf Y4 <| Wf Y4 <| Wf Y4 <| Wf Y4 <| Wf Y4 <| ZqF Z Z Z <| Zn <| ?_
  refine thenQ_n (MidB.mk (Lr D) Sb Z ((decide_eq_false O).symm))
 intro s12 h12
 refine JC_ifD Z (fun c15 => ?_) (fun c15 => ?_)
 ·
  refine Sr <| At Z Z <| Zo <| Zu <| ?_
  refine retQ_mk [_] L (.inr Z) (.tmp Z (.nil)) Z (h1.t h2|>.t h4|>.t h6|>.t h12) (fun sR hS2 => ?_)
  refine ⟨?_, Z⟩
  simp only [resV]; rw [gloC_n hn]
  repeat' split
  all_goals (first | rfl | (exfalso; omega) | (exfalso; simp_all; done) | (exfalso; simp_all; omega))
 refine Zk <| Zt <| Zs <| ?_
 refine JC_cutB 51 (g.kind = 3 ∧ g.num < (n : Int)) ?_ ?_
 ·
  refine Zr <| W0 Y5 <| Wl 0 Y6 <| Zqeq Z Z Z <| Zqm Z Z <| ?_
  refine JO_caseD (t := 43) Z (fun c17 => ?_) (fun c17 => ?_)
  ·
   refine Zg Z Z <| Wb Y5 <| Zg Z Z <| Wl 0 Y6 <| Zg Z Z <| Ws Y4 <| Zg Z Z <| Wb Y5 <| Zg Z Z <| Wl 0 Y6 <| Zg Z Z <| JO_q (QE_conv' Z Z Z Z Z (w64 O O)) Z <| Zg Z Z <| Zqgt Z Z Z <| ZqT Z Z Z <| Zn <| ?_
   refine thenQ_n (MidB.mk (Lr D) Sb Z (decide_eq_decide.2 O))
  refine Wf Y4 <| Wf Y4 <| Wf Y4 <| Wf Y4 <| Wf Y4 <| Wf Y4 <| Wf Y4 <| ZqF Z Z Z <| Zn <| ?_
  refine thenQ_n (MidB.mk (Lr D) Sb Z ((decide_eq_false O).symm))
 intro s16 h16
 refine JC_ifD Z (fun c18 => ?_) (fun c18 => ?_)
 ·
  refine Sr <| At Z Z <| Zo <| Zu <| ?_
  refine retQ_mk [_] L (.inr Z) (.tmp Z (.nil)) Z (h1.t h2|>.t h4|>.t h6|>.t h12|>.t h16) (fun sR hS2 => ?_)
  refine ⟨?_, Z⟩
  simp only [resV]; rw [gloC_n hn]
  repeat' split
  all_goals (first | rfl | (exfalso; omega) | (exfalso; simp_all; done) | (exfalso; simp_all; omega))
 refine Zk <| Zt <| Sr <| At Z Z <| Zo <| ?_
 refine retQ_mk [_] L (.inr Z) (.tmp Z (.nil)) Z (h1.t h2|>.t h4|>.t h6|>.t h12|>.t h16) (fun sR hS2 => ?_)
 refine ⟨?_, Z⟩
 simp only [resV]; rw [gloC_n hn]
 repeat' split
 all_goals (first | rfl | (exfalso; omega) | (exfalso; simp_all; done) | (exfalso; simp_all; omega))
theorem rexC_ac (D : Nat) (L : Hl) (s : World) (x : Ex) (A : Option Addr) (n c : Nat) (hn : n = x.args.length) (hc : n ≤ 9223372036854775807) (hl : x.name.length ≤ 9223372036854775807) : AC Tryz.prog D 108 [.agg #[.int .i64 x.kind, .int .i64 x.op, .int .u32 x.num, St x.name, .slice A n c]] L s fun v L' _ => v = .int .i64 (exC x.kind x.op x.num x.name x.args.length) ∧ L = L' := by
 refine AC_enter (TT := TT) (fn := Tryz.f108) TT_ok Tryz.func108 V Z Tryz.ntmps108 Z (rs := [.tmp 2]) Z [(0, _)] Z <| Sr <| JO_boxA Z Z ?_
 intro β1 s1 h1
 refine At Z Z <| Zs <| ?_
 refine JC_cutB 31 (x.kind < 1 ∨ 7 < x.kind ∨ ¬ ¬ ((x.kind = 6 ∧ (x.op < 1 ∨ 3 < x.op)) ∨ (x.kind = 7 ∧ (x.op < 4 ∨ 21 < x.op)))) ?_ ?_
 ·
  refine Zr <| W0 Y5 <| Wl 0 Y6 <| Jc Z Z Z (in_ac D _ _ _ _ _) ?_
  rintro _ _ s3 h3 ⟨rfl, rfl⟩
  refine Zqno Z Z <| Zqm Z Z <| ?_
  refine JO_caseN (t := 10) Z (fun c4 => ?_) (fun c4 => ?_)
  ·
   refine Wf Y4 <| Wf Y4 <| Wf Y4 <| Wf Y4 <| Zh Z Z Z <| Zh Z Z Z <| Zh Z Z Z <| Zh Z Z Z <| Wf Y4 <| ZqT Z Z Z <| Zqm Z Z <| Wf Y4 <| Wf Y4 <| Wf Y4 <| Wf Y4 <| Zh Z Z Z <| Zh Z Z Z <| Zh Z Z Z <| Zh Z Z Z <| Wf Y4 <| ZqT Z Z Z <| Zn <| ?_
   refine thenQ_n (MidB.mk h3 Sb Z ((decide_eq_true O).symm))
  refine Zg Z Z <| W0 Y5 <| Zg Z Z <| Wl 0 Y6 <| Zg Z Z <| Zqeq Z Z Z <| Zg Z Z <| Zqm Z Z <| ?_
  refine JO_caseD (t := 14) Z (fun c5 => ?_) (fun c5 => ?_)
  ·
   refine Zg Z Z <| Wb Y5 <| Zg Z Z <| Wl 0 Y6 <| Zg Z Z <| Jc Z Z Z (in_ac D _ _ _ _ _) ?_
   rintro _ _ s6 h6 ⟨rfl, rfl⟩
   refine Zg Z Z <| Zqno Z Z <| Zg Z Z <| ZqT Z Z Z <| ZqF Z Z Z <| Zqm Z Z <| ?_
   refine JO_caseN (t := 21) Z (fun c7 => ?_) (fun c7 => ?_)
   ·
    refine Wf Y4 <| Wf Y4 <| Wf Y4 <| Wf Y4 <| Zh Z Z Z <| Zh Z Z Z <| Zh Z Z Z <| Zh Z Z Z <| Wf Y4 <| ZqT Z Z Z <| Zn <| ?_
    refine thenQ_n (MidB.mk (h3.t h6) Sb Z ((decide_eq_true O).symm))
   refine Zg Z Z <| W0 Y5 <| Zg Z Z <| Wl 0 Y6 <| Zg Z Z <| Zqeq Z Z Z <| Zg Z Z <| Zqm Z Z <| ?_
   refine JO_caseD (t := 25) Z (fun c8 => ?_) (fun c8 => ?_)
   ·
    refine Zg Z Z <| Wb Y5 <| Zg Z Z <| Wl 0 Y6 <| Zg Z Z <| Jc Z Z Z (in_ac D _ _ _ _ _) ?_
    rintro _ _ s9 h9 ⟨rfl, rfl⟩
    refine Zg Z Z <| Zqno Z Z <| Zg Z Z <| ZqT Z Z Z <| ZqF Z Z Z <| Zn <| ?_
    refine thenQ_n (MidB.mk (h3.t h6|>.t h9) Sb Z (ndec_eq O))
   refine Wf Y4 <| Wf Y4 <| Wf Y4 <| Wf Y4 <| Zg Z Z <| ZqF Z Z Z <| ZqF Z Z Z <| Zn <| ?_
   refine thenQ_n (MidB.mk (h3.t h6) Sb Z ((decide_eq_false O).symm))
  refine Wf Y4 <| Wf Y4 <| Wf Y4 <| Wf Y4 <| Zg Z Z <| ZqF Z Z Z <| ZqF Z Z Z <| Zqm Z Z <| Zg Z Z <| W0 Y5 <| Zg Z Z <| Wl 0 Y6 <| Zg Z Z <| Zqeq Z Z Z <| Zg Z Z <| Zqm Z Z <| ?_
  refine JO_caseD (t := 25) Z (fun c10 => ?_) (fun c10 => ?_)
  ·
   refine Zg Z Z <| Wb Y5 <| Zg Z Z <| Wl 0 Y6 <| Zg Z Z <| Jc Z Z Z (in_ac D _ _ _ _ _) ?_
   rintro _ _ s11 h11 ⟨rfl, rfl⟩
   refine Zg Z Z <| Zqno Z Z <| Zg Z Z <| ZqT Z Z Z <| ZqF Z Z Z <| Zn <| ?_
   refine thenQ_n (MidB.mk (h3.t h11) Sb Z (ndec_eq O))
  refine Wf Y4 <| Wf Y4 <| Wf Y4 <| Wf Y4 <| Zg Z Z <| ZqF Z Z Z <| ZqF Z Z Z <| Zn <| ?_
  refine thenQ_n (MidB.mk h3 Sb Z ((decide_eq_false O).symm))
 intro s2 h2
 refine JC_ifD Z (fun c12 => ?_) (fun c12 => ?_)
 ·
  have hE := exC_5 hn c12
  refine Sr <| At Z Z <| Zo <| Zu <| ?_
  refine retQ_mk [_] L (.inr Z) (.tmp Z (.nil)) Z (h1.t h2) (fun sR hS2 => ?_)
  exact ⟨by rw [hE]; rfl, rfl⟩
 have g5 := c12
 refine Zk <| Zt <| Sr <| W0 Y5 <| Wl 0 Y6 <| Jc Z Z Z (in_ac D _ _ _ _ _) ?_
 rintro _ _ s13 h13 ⟨rfl, rfl⟩
 refine At Z Z <| Zs <| ?_
 refine JC_cutB 41 ((2 ≤ x.kind ∧ x.kind ≤ 4) ∧ identB x.name = false) ?_ ?_
 ·
  refine Zr <| Zqm Z Z <| Zqm Z Z <| ?_
  refine JO_caseD (t := 36) Z (fun c15 => ?_) (fun c15 => ?_)
  ·
   refine Zg Z Z <| Wb Y5 <| Zg Z Z <| Wl 0 Y6 <| Zg Z Z <| Jc Z Z Z (rident_ac D _ _ x.name hl) ?_
   rintro _ _ s16 h16 ⟨rfl, rfl⟩
   refine Zg Z Z <| Zqno Z Z <| ZqT Z Z Z <| Zn <| ?_
   refine thenQ_n (MidB.mk h16 Sb Z ((nid_eq As)))
  refine Wf Y4 <| Wf Y4 <| Wf Y4 <| Wf Y4 <| ZqF Z Z Z <| Zn <| ?_
  refine thenQ_n (MidB.mk (Lr D) Sb Z ((decide_eq_false (fun h => absurd h.1 As)).symm))
 intro s14 h14
 refine JC_ifD Z (fun c17 => ?_) (fun c17 => ?_)
 ·
  have hE := exC_7 hn g5 c17
  refine Sr <| At Z Z <| Zo <| Zu <| ?_
  refine retQ_mk [_] L (.inr Z) (.tmp Z (.nil)) Z (h1.t h2|>.t h13|>.t h14) (fun sR hS2 => ?_)
  exact ⟨by rw [hE]; rfl, rfl⟩
 have g7 := c17
 refine Zk <| Zt <| Sr <| At Z Z <| Sr <| At Z Z <| ?_
 refine JC_cutG (γ := Unit) (fun _ => [(4, .int .i64 (leastE x.kind : Int)), (5, .int .i64 (mostE x.kind : Int))]) [_] Z (fun g => L) (fun g tw => True) (fun _ _ _ h hl => h) ?_ ?_
 ·
  refine JC_cutB 49 (x.kind = 3 ∨ x.kind = 6) ?_ ?_
  ·
   refine Zr <| W0 Y5 <| Wl 0 Y6 <| Zqeq Z Z Z <| Zqm Z Z <| ?_
   refine JO_caseD (t := 45) Z (fun c20 => ?_) (fun c20 => ?_)
   ·
    refine Wf Y4 <| Wf Y4 <| Wf Y4 <| ZqT Z Z Z <| Zn <| ?_
    refine thenQ_n (MidB.mk (Lr D) Sb Z ((decide_eq_true O).symm))
   refine Zg Z Z <| W0 Y5 <| Zg Z Z <| Wl 0 Y6 <| Zg Z Z <| Zqeq Z Z Z <| ZqF Z Z Z <| Zn <| ?_
   refine thenQ_n (MidB.mk (Lr D) Sb Z (decide_eq_decide.2 O))
  intro s19 h19
  refine JC_ifD Z (fun c21 => ?_) (fun c21 => ?_)
  ·
   refine Sr <| At Z Z <| Zr <| Zqa Z Z <| Zn <| ?_
   refine thenQ_n (MidG.mk () [] h19 (.cons (by unfold leastE; first | (rw [if_pos O]; rfl) | (rw [if_neg O, if_pos O]; rfl) | (rw [if_neg O, if_neg O, if_pos O]; rfl) | (rw [if_neg O, if_neg O, if_neg O]; rfl) | (rw [if_neg O, if_neg O]; rfl)) (.cons (by unfold mostE; first | (rw [if_pos O]; rfl) | (rw [if_neg O, if_pos O]; rfl) | (rw [if_neg O, if_neg O, if_pos O]; rfl) | (rw [if_neg O, if_neg O, if_neg O]; rfl) | (rw [if_neg O, if_neg O]; rfl)) (.nil _))) So (List.Perm.refl _) trivial)
  refine Sr <| W0 Y5 <| Wl 0 Y6 <| Zqeq Z Z Z <| Nt <| ?_
  refine JC_ifD Z (fun c22 => ?_) (fun c22 => ?_)
  ·
   refine Zr <| Zqa Z Z <| Zn <| ?_
   refine thenQ_n (MidG.mk () [] h19 (.cons (by unfold leastE; first | (rw [if_pos O]; rfl) | (rw [if_neg O, if_pos O]; rfl) | (rw [if_neg O, if_neg O, if_pos O]; rfl) | (rw [if_neg O, if_neg O, if_neg O]; rfl) | (rw [if_neg O, if_neg O]; rfl)) (.cons (by unfold mostE; first | (rw [if_pos O]; rfl) | (rw [if_neg O, if_pos O]; rfl) | (rw [if_neg O, if_neg O, if_pos O]; rfl) | (rw [if_neg O, if_neg O, if_neg O]; rfl) | (rw [if_neg O, if_neg O]; rfl)) (.nil _))) So (List.Perm.refl _) trivial)
  refine Sr <| W0 Y5 <| Wl 0 Y6 <| Zqeq Z Z Z <| Nt <| ?_
  refine JC_ifD Z (fun c23 => ?_) (fun c23 => ?_)
  ·
   refine Sr <| At Z Z <| Zr <| Zqa Z Z <| Zn <| ?_
   refine thenQ_n (MidG.mk () [] h19 (.cons (by unfold leastE; first | (rw [if_pos O]; rfl) | (rw [if_neg O, if_pos O]; rfl) | (rw [if_neg O, if_neg O, if_pos O]; rfl) | (rw [if_neg O, if_neg O, if_neg O]; rfl) | (rw [if_neg O, if_neg O]; rfl)) (.cons (by unfold mostE; first | (rw [if_pos O]; rfl) | (rw [if_neg O, if_pos O]; rfl) | (rw [if_neg O, if_neg O, if_pos O]; rfl) | (rw [if_neg O, if_neg O, if_neg O]; rfl) | (rw [if_neg O, if_neg O]; rfl)) (.nil _))) So (List.Perm.refl _) trivial)
  refine Zk ?_
  refine thenQ_n (MidG.mk () [] h19 (.cons (by unfold leastE; first | (rw [if_pos O]; rfl) | (rw [if_neg O, if_pos O]; rfl) | (rw [if_neg O, if_neg O, if_pos O]; rfl) | (rw [if_neg O, if_neg O, if_neg O]; rfl) | (rw [if_neg O, if_neg O]; rfl)) (.cons (by unfold mostE; first | (rw [if_pos O]; rfl) | (rw [if_neg O, if_pos O]; rfl) | (rw [if_neg O, if_neg O, if_pos O]; rfl) | (rw [if_neg O, if_neg O, if_neg O]; rfl) | (rw [if_neg O, if_neg O]; rfl)) (.nil _))) So (List.Perm.refl _) trivial)
 intro g s18 h18 I18
 simp only [cQ9, nQ9]
 refine Zs ?_
 refine JC_cutB 91 ((¬ (2 ≤ x.kind ∧ x.kind ≤ 4) ∧ x.name ≠ []) ∨ (x.kind ≠ 1 ∧ x.num ≠ 0) ∨ (¬ (x.kind = 6 ∨ x.kind = 7) ∧ x.op ≠ 0) ∨ n < leastE x.kind ∨ mostE x.kind < n) ?_ ?_
 ·
  refine Zr <| Zqm Z Z <| Zqno Z Z <| Zqm Z Z <| ?_
  refine JO_caseN (t := 58) Z (fun c25 => ?_) (fun c25 => ?_)
  ·
   refine Zg Z Z <| Wb Y5 <| Zg Z Z <| Wl 0 Y6 <| Zg Z Z <| Zqsn Z Z Z <| ZqT Z Z Z <| Zqm Z Z <| ?_
   refine JO_caseN (t := 63) Z (fun c26 => ?_) (fun c26 => ?_)
   ·
    refine Wf Y4 <| Wf Y4 <| Wf Y4 <| Wf Y4 <| Zh Z Z Z <| Zh Z Z Z <| Zh Z Z Z <| Wf Y4 <| ZqT Z Z Z <| Zqm Z Z <| Wf Y4 <| Wf Y4 <| Wf Y4 <| Wf Y4 <| Zh Z Z Z <| Zh Z Z Z <| Zh Z Z Z <| Wf Y4 <| ZqT Z Z Z <| Zqm Z Z <| Wf Y4 <| Wf Y4 <| Wf Y4 <| Wf Y4 <| Wf Y4 <| Wf Y4 <| Wf Y4 <| ZqT Z Z Z <| Zn <| ?_
    refine thenQ_n (MidB.mk (Lr D) Sb Z ((decide_eq_true Og).symm))
   refine Zg Z Z <| W0 Y5 <| Zg Z Z <| Wl 0 Y6 <| Zg Z Z <| Zqne Z Z Z <| Zg Z Z <| Zqm Z Z <| ?_
   refine JO_caseN (t := 67) Z (fun c27 => ?_) (fun c27 => ?_)
   ·
    refine Zg Z Z <| Wb Y5 <| Zg Z Z <| Wl 0 Y6 <| Zg Z Z <| Zqne Z Z Z <| Zg Z Z <| ZqT Z Z Z <| ZqF Z Z Z <| Zqm Z Z <| ?_
    refine JO_caseN (t := 73) Z (fun c28 => ?_) (fun c28 => ?_)
    ·
     refine Wf Y4 <| Wf Y4 <| Wf Y4 <| Wf Y4 <| Zh Z Z Z <| Zh Z Z Z <| Zh Z Z Z <| Wf Y4 <| ZqT Z Z Z <| Zqm Z Z <| Wf Y4 <| Wf Y4 <| Wf Y4 <| Wf Y4 <| Wf Y4 <| Wf Y4 <| Wf Y4 <| ZqT Z Z Z <| Zn <| ?_
     refine thenQ_n (MidB.mk (Lr D) Sb Z ((decide_eq_true Og).symm))
    refine Zg Z Z <| W0 Y5 <| Zg Z Z <| Wl 0 Y6 <| Zg Z Z <| Zqlt Z Z Z <| Zg Z Z <| Zqm Z Z <| ?_
    refine JO_caseD (t := 77) Z (fun c29 => ?_) (fun c29 => ?_)
    ·
     refine Zg Z Z <| Wb Y5 <| Zg Z Z <| Wl 0 Y6 <| Zg Z Z <| Zqne Z Z Z <| Zg Z Z <| ZqT Z Z Z <| ZqF Z Z Z <| Zqm Z Z <| ?_
     refine JO_caseN (t := 83) Z (fun c30 => ?_) (fun c30 => ?_)
     ·
      refine Wf Y4 <| Wf Y4 <| Wf Y4 <| Wf Y4 <| Wf Y4 <| Wf Y4 <| Wf Y4 <| ZqT Z Z Z <| Zn <| ?_
      refine thenQ_n (MidB.mk (Lr D) Sb Z ((decide_eq_true Og).symm))
     refine Zg Z Z <| Wb Y5 <| Zg Z Z <| Wl 0 Y6 <| Zg Z Z <| Ws Y4 <| Zg Z Z <| Zqm Z Z <| Zg Z Z <| Zqm Z Z <| Zg Z Z <| Jc Z Z Z (in_ac D _ _ _ _ _) ?_
     rintro _ _ s31 h31 ⟨rfl, rfl⟩
     refine Zg Z Z <| Zqno Z Z <| ZqF Z Z Z <| Zn <| ?_
     refine thenQ_n (MidB.mk h31 Sb Z (ndec_eq Og))
    refine Wf Y4 <| Wf Y4 <| Wf Y4 <| Zg Z Z <| ZqF Z Z Z <| ZqF Z Z Z <| Zqm Z Z <| Zg Z Z <| Wb Y5 <| Zg Z Z <| Wl 0 Y6 <| Zg Z Z <| Ws Y4 <| Zg Z Z <| Zqm Z Z <| Zg Z Z <| Zqm Z Z <| Zg Z Z <| Jc Z Z Z (in_ac D _ _ _ _ _) ?_
    rintro _ _ s32 h32 ⟨rfl, rfl⟩
    refine Zg Z Z <| Zqno Z Z <| ZqF Z Z Z <| Zn <| ?_
    refine thenQ_n (MidB.mk h32 Sb Z (ndec_eq Og))
   refine Wf Y4 <| Wf Y4 <| Wf Y4 <| Zg Z Z <| ZqF Z Z Z <| ZqF Z Z Z <| Zqm Z Z <| Zg Z Z <| W0 Y5 <| Zg Z Z <| Wl 0 Y6 <| Zg Z Z <| Zqlt Z Z Z <| Zg Z Z <| Zqm Z Z <| ?_
   refine JO_caseD (t := 77) Z (fun c33 => ?_) (fun c33 => ?_)
   ·
    refine Zg Z Z <| Wb Y5 <| Zg Z Z <| Wl 0 Y6 <| Zg Z Z <| Zqne Z Z Z <| Zg Z Z <| ZqT Z Z Z <| ZqF Z Z Z <| Zqm Z Z <| ?_
    refine JO_caseN (t := 83) Z (fun c34 => ?_) (fun c34 => ?_)
    ·
     refine Wf Y4 <| Wf Y4 <| Wf Y4 <| Wf Y4 <| Wf Y4 <| Wf Y4 <| Wf Y4 <| ZqT Z Z Z <| Zn <| ?_
     refine thenQ_n (MidB.mk (Lr D) Sb Z ((decide_eq_true Og).symm))
    refine Zg Z Z <| Wb Y5 <| Zg Z Z <| Wl 0 Y6 <| Zg Z Z <| Ws Y4 <| Zg Z Z <| Zqm Z Z <| Zg Z Z <| Zqm Z Z <| Zg Z Z <| Jc Z Z Z (in_ac D _ _ _ _ _) ?_
    rintro _ _ s35 h35 ⟨rfl, rfl⟩
    refine Zg Z Z <| Zqno Z Z <| ZqF Z Z Z <| Zn <| ?_
    refine thenQ_n (MidB.mk h35 Sb Z (ndec_eq Og))
   refine Wf Y4 <| Wf Y4 <| Wf Y4 <| Zg Z Z <| ZqF Z Z Z <| ZqF Z Z Z <| Zqm Z Z <| Zg Z Z <| Wb Y5 <| Zg Z Z <| Wl 0 Y6 <| Zg Z Z <| Ws Y4 <| Zg Z Z <| Zqm Z Z <| Zg Z Z <| Zqm Z Z <| Zg Z Z <| Jc Z Z Z (in_ac D _ _ _ _ _) ?_
   rintro _ _ s36 h36 ⟨rfl, rfl⟩
   refine Zg Z Z <| Zqno Z Z <| ZqF Z Z Z <| Zn <| ?_
   refine thenQ_n (MidB.mk h36 Sb Z (ndec_eq Og))
  refine Wf Y4 <| Wf Y4 <| Wf Y4 <| ZqF Z Z Z <| Zqm Z Z <| Zg Z Z <| W0 Y5 <| Zg Z Z <| Wl 0 Y6 <| Zg Z Z <| Zqne Z Z Z <| Zg Z Z <| Zqm Z Z ?_
  refine JO_caseN (t := 67) Z (fun c37 => ?_) (fun c37 => ?_)
  ·
   refine Zg Z Z <| Wb Y5 <| Zg Z Z <| Wl 0 Y6 <| Zg Z Z <| Zqne Z Z Z <| Zg Z Z <| ZqT Z Z Z <| ZqF Z Z Z <| Zqm Z Z <| ?_
   refine JO_caseN (t := 73) Z (fun c38 => ?_) (fun c38 => ?_)
   ·
    refine Wf Y4 <| Wf Y4 <| Wf Y4 <| Wf Y4 <| Zh Z Z Z <| Zh Z Z Z <| Zh Z Z Z <| Wf Y4 <| ZqT Z Z Z <| Zqm Z Z <| Wf Y4 <| Wf Y4 <| Wf Y4 <| Wf Y4 <| Wf Y4 <| Wf Y4 <| Wf Y4 <| ZqT Z Z Z <| Zn <| ?_
    refine thenQ_n (MidB.mk (Lr D) Sb Z ((decide_eq_true Og).symm))
   refine Zg Z Z <| W0 Y5 <| Zg Z Z <| Wl 0 Y6 <| Zg Z Z <| Zqlt Z Z Z <| Zg Z Z <| Zqm Z Z <| ?_
   refine JO_caseD (t := 77) Z (fun c39 => ?_) (fun c39 => ?_)
   ·
    refine Zg Z Z <| Wb Y5 <| Zg Z Z <| Wl 0 Y6 <| Zg Z Z <| Zqne Z Z Z <| Zg Z Z <| ZqT Z Z Z <| ZqF Z Z Z <| Zqm Z Z <| ?_
    refine JO_caseN (t := 83) Z (fun c40 => ?_) (fun c40 => ?_)
    ·
     refine Wf Y4 <| Wf Y4 <| Wf Y4 <| Wf Y4 <| Wf Y4 <| Wf Y4 <| Wf Y4 <| ZqT Z Z Z <| Zn <| ?_
     refine thenQ_n (MidB.mk (Lr D) Sb Z ((decide_eq_true Og).symm))
    refine Zg Z Z <| Wb Y5 <| Zg Z Z <| Wl 0 Y6 <| Zg Z Z <| Ws Y4 <| Zg Z Z <| Zqm Z Z <| Zg Z Z <| Zqm Z Z <| Zg Z Z <| Jc Z Z Z (in_ac D _ _ _ _ _) ?_
    rintro _ _ s41 h41 ⟨rfl, rfl⟩
    refine Zg Z Z <| Zqno Z Z <| ZqF Z Z Z <| Zn <| ?_
    refine thenQ_n (MidB.mk h41 Sb Z (ndec_eq Og))
   refine Wf Y4 <| Wf Y4 <| Wf Y4 <| Zg Z Z <| ZqF Z Z Z <| ZqF Z Z Z <| Zqm Z Z <| Zg Z Z <| Wb Y5 <| Zg Z Z <| Wl 0 Y6 <| Zg Z Z <| Ws Y4 <| Zg Z Z <| Zqm Z Z <| Zg Z Z <| Zqm Z Z <| Zg Z Z <| Jc Z Z Z (in_ac D _ _ _ _ _) ?_
   rintro _ _ s42 h42 ⟨rfl, rfl⟩
   refine Zg Z Z <| Zqno Z Z <| ZqF Z Z Z <| Zn <| ?_
   refine thenQ_n (MidB.mk h42 Sb Z (ndec_eq Og))
  refine Wf Y4 <| Wf Y4 <| Wf Y4 <| Zg Z Z <| ZqF Z Z Z <| ZqF Z Z Z <| Zqm Z Z <| Zg Z Z <| W0 Y5 <| Zg Z Z <| Wl 0 Y6 <| Zg Z Z <| Zqlt Z Z Z <| Zg Z Z <| Zqm Z Z <| ?_
  refine JO_caseD (t := 77) Z (fun c43 => ?_) (fun c43 => ?_)
  ·
   refine Zg Z Z <| Wb Y5 <| Zg Z Z <| Wl 0 Y6 <| Zg Z Z <| Zqne Z Z Z <| Zg Z Z <| ZqT Z Z Z <| ZqF Z Z Z <| Zqm Z Z <| ?_
   refine JO_caseN (t := 83) Z (fun c44 => ?_) (fun c44 => ?_)
   ·
    refine Wf Y4 <| Wf Y4 <| Wf Y4 <| Wf Y4 <| Wf Y4 <| Wf Y4 <| Wf Y4 <| ZqT Z Z Z <| Zn <| ?_
    refine thenQ_n (MidB.mk (Lr D) Sb Z ((decide_eq_true Og).symm))
   refine Zg Z Z <| Wb Y5 <| Zg Z Z <| Wl 0 Y6 <| Zg Z Z <| Ws Y4 <| Zg Z Z <| Zqm Z Z <| Zg Z Z <| Zqm Z Z <| Zg Z Z <| Jc Z Z Z (in_ac D _ _ _ _ _) ?_
   rintro _ _ s45 h45 ⟨rfl, rfl⟩
   refine Zg Z Z <| Zqno Z Z <| ZqF Z Z Z <| Zn <| ?_
   refine thenQ_n (MidB.mk h45 Sb Z (ndec_eq Og))
  refine Wf Y4 <| Wf Y4 <| Wf Y4 <| Zg Z Z <| ZqF Z Z Z <| ZqF Z Z Z <| Zqm Z Z <| Zg Z Z <| Wb Y5 <| Zg Z Z <| Wl 0 Y6 <| Zg Z Z <| Ws Y4 <| Zg Z Z <| Zqm Z Z <| Zg Z Z <| Zqm Z Z <| Zg Z Z <| Jc Z Z Z (in_ac D _ _ _ _ _) ?_
  rintro _ _ s46 h46 ⟨rfl, rfl⟩
  refine Zg Z Z <| Zqno Z Z <| ZqF Z Z Z <| Zn <| ?_
  refine thenQ_n (MidB.mk h46 Sb Z (ndec_eq Og))
 intro s24 h24
 refine JC_ifD Z (fun c47 => ?_) (fun c47 => ?_)
 ·
  have hE := exC_6 hn g5 g7 c47
  refine Sr <| At Z Z <| Zo <| Zu <| ?_
  refine retQ_mk [_] L (.inr Z) (.tmp Z (.nil)) Z (h1.t h2|>.t h13|>.t h14|>.t h18|>.t h24) (fun sR hS2 => ?_)
  exact ⟨by rw [hE]; rfl, rfl⟩
 have hE := exC_0 hn g5 g7 c47
 refine Zk <| Zt <| Sr <| At Z Z <| Zo <| ?_
 refine retQ_mk [_] L (.inr Z) (.tmp Z (.nil)) Z (h1.t h2|>.t h13|>.t h14|>.t h18|>.t h24) (fun sR hS2 => ?_)
 exact ⟨by rw [hE]; rfl, rfl⟩
theorem rstC_ac (D : Nat) (L : Hl) (s : World) (x : Stm) (A1 A2 A3 : Option Addr) (n1 q1 n2 q2 n3 q3 : Nat) (hn1 : n1 = x.exprs.length) (hn2 : n2 = x.body.length) (hn3 : n3 = x.els.length) (hc1 : n1 ≤ 9223372036854775807) (hl : x.name.length ≤ 9223372036854775807) : AC Tryz.prog D 78 [.agg #[.int .i64 x.kind, St x.name, .slice A1 n1 q1, .slice A2 n2 q2, .slice A3 n3 q3]] L s fun v L' _ => v = .int .i64 (stC x.kind x.name x.exprs.length x.body.length x.els.length) ∧ L = L' := by
 refine AC_enter (TT := TT) (fn := Tryz.f78) TT_ok Tryz.func78 V Z Tryz.ntmps78 Z (rs := [.tmp 2]) Z [(0, _)] Z <| Sr <| JO_boxA Z Z ?_
 intro β1 s1 h1
 refine At Z Z <| Zs <| Sr <| W0 Y5 <| Wl 0 Y6 <| Jc Z Z Z (in_ac D _ _ _ _ _) ?_
 rintro _ _ s2 h2 ⟨rfl, rfl⟩
 refine Zqno Z Z <| Nt <| ?_
 refine JC_ifN Z (fun c3 => ?_) (fun c3 => ?_)
 ·
  have hE := stC_5 (a := x.exprs.length) (b := x.body.length) (c := x.els.length) (show x.kind < 1 ∨ 10 < x.kind by omega)
  refine Sr <| At Z Z <| Zo <| Zu <| ?_
  refine retQ_mk [_] L (.inr Z) (.tmp Z (.nil)) Z (h1.t h2) (fun sR hS2 => ?_)
  exact ⟨by rw [hE]; rfl, rfl⟩
 have g5 : ¬ (x.kind < 1 ∨ 10 < x.kind) := by omega
 refine Zk <| Zt <| ?_
 refine JC_cutB 3 (x.kind = 1 ∨ x.kind = 2 ∨ x.kind = 5) ?_ ?_
 ·
  refine Zr <| W0 Y5 <| Wl 0 Y6 <| Zqeq Z Z Z <| Zqm Z Z <| ?_
  refine JO_caseD (t := 13) Z (fun c5 => ?_) (fun c5 => ?_)
  ·
   refine Wf Y4 <| Wf Y4 <| Wf Y4 <| ZqT Z Z Z <| Zqm Z Z <| Wf Y4 <| Wf Y4 <| Wf Y4 <| ZqT Z Z Z <| Zqa Z Z <| Zn <| ?_
   refine thenQ_n (MidB.mk (Lr D) Sb Z ((decide_eq_true O).symm))
  refine Zg Z Z <| W0 Y5 <| Zg Z Z <| Wl 0 Y6 <| Zg Z Z <| Zqeq Z Z Z <| ZqF Z Z Z <| Zqm Z Z <| ?_
  refine JO_caseD (t := 18) Z (fun c6 => ?_) (fun c6 => ?_)
  ·
   refine Wf Y4 <| Wf Y4 <| Wf Y4 <| ZqT Z Z Z <| Zqa Z Z <| Zn <| ?_
   refine thenQ_n (MidB.mk (Lr D) Sb Z ((decide_eq_true O).symm))
  refine Zg Z Z <| W0 Y5 <| Zg Z Z <| Wl 0 Y6 <| Zg Z Z <| Zqeq Z Z Z <| ZqF Z Z Z <| Zqa Z Z <| Zn <| ?_
  refine thenQ_n (MidB.mk (Lr D) Sb Z (decide_eq_decide.2 O))
 intro s4 h4
 refine Zs ?_
 refine JC_cutB 29 (namedS x.kind = true ∧ identB x.name = false) ?_ ?_
 ·
  refine Zr <| Zqm Z Z <| Zqm Z Z <| ?_
  refine JO_caseD (t := 24) Z (fun c8 => ?_) (fun c8 => ?_)
  ·
   refine Zg Z Z <| Wb Y5 <| Zg Z Z <| Wl 0 Y6 <| Zg Z Z <| Jc Z Z Z (rident_ac D _ _ x.name hl) ?_
   rintro _ _ s9 h9 ⟨rfl, rfl⟩
   refine Zg Z Z <| Zqno Z Z <| ZqT Z Z Z <| Zn <| ?_
   refine thenQ_n (MidB.mk h9 Sb Z ((nid_eq (namedS_iff.2 As))))
  refine Wf Y4 <| Wf Y4 <| Wf Y4 <| Wf Y4 <| ZqF Z Z Z <| Zn <| ?_
  refine thenQ_n (MidB.mk (Lr D) Sb Z ((decide_eq_false (fun h => absurd (namedS_iff.1 h.1) As)).symm))
 intro s7 h7
 refine JC_ifD Z (fun c10 => ?_) (fun c10 => ?_)
 ·
  have hE := stC_7 (a := x.exprs.length) (b := x.body.length) (c := x.els.length) g5 c10
  refine Sr <| At Z Z <| Zo <| Zu <| ?_
  refine retQ_mk [_] L (.inr Z) (.tmp Z (.nil)) Z (h1.t h2|>.t h4|>.t h7) (fun sR hS2 => ?_)
  exact ⟨by rw [hE]; rfl, rfl⟩
 have g7 := c10
 refine Zk <| Zt <| Sr <| At Z Z <| Sr <| At Z Z <| ?_
 refine JC_cutG (γ := Unit) (fun _ => [(4, .int .i64 (leastS x.kind : Int)), (5, .int .i64 (mostS x.kind : Int))]) [_] Z (fun g => L) (fun g tw => True) (fun _ _ _ h hl => h) ?_ ?_
 ·
  refine Sr <| W0 Y5 <| Wl 0 Y6 <| Zqeq Z Z Z <| Nt <| ?_
  refine JC_ifD Z (fun c12 => ?_) (fun c12 => ?_)
  ·
   refine Sr <| At Z Z <| Zr <| Zqa Z Z <| Zn <| ?_
   refine thenQ_n (MidG.mk () [] (Lr D) (.cons (by unfold leastS; first | (rw [if_pos O]; rfl) | (rw [if_neg O, if_pos O]; rfl) | (rw [if_neg O, if_neg O, if_pos O]; rfl) | (rw [if_neg O, if_neg O, if_neg O]; rfl) | (rw [if_neg O, if_neg O]; rfl)) (.cons (by unfold mostS; first | (rw [if_pos O]; rfl) | (rw [if_neg O, if_pos O]; rfl) | (rw [if_neg O, if_neg O, if_pos O]; rfl) | (rw [if_neg O, if_neg O, if_neg O]; rfl) | (rw [if_neg O, if_neg O]; rfl)) (.nil _))) So (List.Perm.refl _) trivial)
  refine Sr <| W0 Y5 <| Wl 0 Y6 <| Zqeq Z Z Z <| Nt <| ?_
  refine JC_ifD Z (fun c13 => ?_) (fun c13 => ?_)
  ·
   refine Sr <| At Z Z <| Zr <| Zqa Z Z <| Zn <| ?_
   refine thenQ_n (MidG.mk () [] (Lr D) (.cons (by unfold leastS; first | (rw [if_pos O]; rfl) | (rw [if_neg O, if_pos O]; rfl) | (rw [if_neg O, if_neg O, if_pos O]; rfl) | (rw [if_neg O, if_neg O, if_neg O]; rfl) | (rw [if_neg O, if_neg O]; rfl)) (.cons (by unfold mostS; first | (rw [if_pos O]; rfl) | (rw [if_neg O, if_pos O]; rfl) | (rw [if_neg O, if_neg O, if_pos O]; rfl) | (rw [if_neg O, if_neg O, if_neg O]; rfl) | (rw [if_neg O, if_neg O]; rfl)) (.nil _))) So (List.Perm.refl _) trivial)
  refine Sr <| W0 Y5 <| Wl 0 Y6 <| Zqgt Z Z Z <| Nt <| ?_
  refine JC_ifD Z (fun c14 => ?_) (fun c14 => ?_)
  ·
   refine Sr <| At Z Z <| Zr <| Zqa Z Z <| Zn <| ?_
   refine thenQ_n (MidG.mk () [] (Lr D) (.cons (by unfold leastS; first | (rw [if_pos O]; rfl) | (rw [if_neg O, if_pos O]; rfl) | (rw [if_neg O, if_neg O, if_pos O]; rfl) | (rw [if_neg O, if_neg O, if_neg O]; rfl) | (rw [if_neg O, if_neg O]; rfl)) (.cons (by unfold mostS; first | (rw [if_pos O]; rfl) | (rw [if_neg O, if_pos O]; rfl) | (rw [if_neg O, if_neg O, if_pos O]; rfl) | (rw [if_neg O, if_neg O, if_neg O]; rfl) | (rw [if_neg O, if_neg O]; rfl)) (.nil _))) So (List.Perm.refl _) trivial)
  refine Zk ?_
  refine thenQ_n (MidG.mk () [] (Lr D) (.cons (by unfold leastS; first | (rw [if_pos O]; rfl) | (rw [if_neg O, if_pos O]; rfl) | (rw [if_neg O, if_neg O, if_pos O]; rfl) | (rw [if_neg O, if_neg O, if_neg O]; rfl) | (rw [if_neg O, if_neg O]; rfl)) (.cons (by unfold mostS; first | (rw [if_pos O]; rfl) | (rw [if_neg O, if_pos O]; rfl) | (rw [if_neg O, if_neg O, if_pos O]; rfl) | (rw [if_neg O, if_neg O, if_neg O]; rfl) | (rw [if_neg O, if_neg O]; rfl)) (.nil _))) So (List.Perm.refl _) trivial)
 intro g s11 h11 I11
 simp only [cQ9, nQ9]
 refine Zs ?_
 refine JC_cutB 81 ((¬ (x.kind = 1 ∨ x.kind = 2 ∨ x.kind = 5) ∧ x.name ≠ []) ∨ (¬ (x.kind = 3 ∨ x.kind = 4) ∧ 0 < n2) ∨ (¬ x.kind = 3 ∧ 0 < n3) ∨ n1 < leastS x.kind ∨ mostS x.kind < n1) ?_ ?_
 ·
  refine Zr <| Zqm Z Z <| Zqno Z Z <| Zqm Z Z <| ?_
  refine JO_caseN (t := 41) Z (fun c16 => ?_) (fun c16 => ?_)
  ·
   refine Zg Z Z <| Wb Y5 <| Zg Z Z <| Wl 0 Y6 <| Zg Z Z <| Zqsn Z Z Z <| ZqT Z Z Z <| Zqm Z Z <| ?_
   refine JO_caseN (t := 46) Z (fun c17 => ?_) (fun c17 => ?_)
   ·
    refine Wf Y4 <| Wf Y4 <| Wf Y4 <| Wf Y4 <| Wf Y4 <| Wf Y4 <| Wf Y4 <| ZqT Z Z Z <| Zqm Z Z <| Wf Y4 <| Wf Y4 <| Wf Y4 <| Wf Y4 <| Wf Y4 <| Zh Z Z Z <| Zh Z Z Z <| Zh Z Z Z <| Wf Y4 <| Wf Y4 <| Zh Z Z Z <| Zh Z Z Z <| Zh Z Z Z <| Wf Y4 <| ZqT Z Z Z <| Zqm Z Z <| Wf Y4 <| Wf Y4 <| Wf Y4 <| Wf Y4 <| Wf Y4 <| Zh Z Z Z <| Zh Z Z Z <| Zh Z Z Z <| Wf Y4 <| ZqT Z Z Z <| Zn <| ?_
    refine thenQ_n (MidB.mk (Lr D) Sb Z ((decide_eq_true Og).symm))
   refine Zg Z Z <| Wb Y5 <| Zg Z Z <| Wl 0 Y6 <| Zg Z Z <| Ws Y4 <| Zg Z Z <| Zqm Z Z <| Zg Z Z <| Zqm Z Z <| Zg Z Z <| Jc Z Z Z (in_ac D _ _ _ _ _) ?_
   rintro _ _ s18 h18 ⟨rfl, rfl⟩
   refine Zg Z Z <| Zqno Z Z <| ZqF Z Z Z <| Zqm Z Z <| ?_
   refine JO_caseN (t := 55) Z (fun c19 => ?_) (fun c19 => ?_)
   ·
    refine Wf Y4 <| Wf Y4 <| Wf Y4 <| Wf Y4 <| Wf Y4 <| Zh Z Z Z <| Zh Z Z Z <| Zh Z Z Z <| Wf Y4 <| Wf Y4 <| Zh Z Z Z <| Zh Z Z Z <| Zh Z Z Z <| Wf Y4 <| ZqT Z Z Z <| Zqm Z Z <| Wf Y4 <| Wf Y4 <| Wf Y4 <| Wf Y4 <| Wf Y4 <| Zh Z Z Z <| Zh Z Z Z <| Zh Z Z Z <| Wf Y4 <| ZqT Z Z Z <| Zn <| ?_
    refine thenQ_n (MidB.mk h18 Sb Z ((decide_eq_true Og).symm))
   refine Zg Z Z <| Wb Y5 <| Zg Z Z <| Wl 0 Y6 <| Zg Z Z <| Ws Y4 <| Zg Z Z <| Zqgt Z Z Z <| Zg Z Z <| Zqm Z Z <| ?_
   refine JO_caseD (t := 60) Z (fun c20 => ?_) (fun c20 => ?_)
   ·
    refine Zg Z Z <| W0 Y5 <| Zg Z Z <| Wl 0 Y6 <| Zg Z Z <| Zqne Z Z Z <| Zg Z Z <| ZqT Z Z Z <| Zg Z Z <| Zqm Z Z <| ?_
    refine JO_caseN (t := 65) Z (fun c21 => ?_) (fun c21 => ?_)
    ·
     refine Zg Z Z <| W0 Y5 <| Zg Z Z <| Wl 0 Y6 <| Zg Z Z <| Zqne Z Z Z <| Zg Z Z <| ZqT Z Z Z <| ZqF Z Z Z <| Zqm Z Z <| ?_
     refine JO_caseN (t := 71) Z (fun c22 => ?_) (fun c22 => ?_)
     ·
      refine Wf Y4 <| Wf Y4 <| Wf Y4 <| Wf Y4 <| Wf Y4 <| Zh Z Z Z <| Zh Z Z Z <| Zh Z Z Z <| Wf Y4 <| ZqT Z Z Z <| Zn <| ?_
      refine thenQ_n (MidB.mk h18 Sb Z ((decide_eq_true Og).symm))
     refine Zg Z Z <| Wb Y5 <| Zg Z Z <| Wl 0 Y6 <| Zg Z Z <| Ws Y4 <| Zg Z Z <| Zqgt Z Z Z <| Zg Z Z <| Zqm Z Z <| ?_
     refine JO_caseD (t := 76) Z (fun c23 => ?_) (fun c23 => ?_)
     ·
      refine Zg Z Z <| W0 Y5 <| Zg Z Z <| Wl 0 Y6 <| Zg Z Z <| Zqne Z Z Z <| Zg Z Z <| ZqT Z Z Z <| ZqF Z Z Z <| Zn <| ?_
      refine thenQ_n (MidB.mk h18 Sb Z (ndec_eq Og))
     refine Wf Y4 <| Wf Y4 <| Wf Y4 <| Zg Z Z <| ZqF Z Z Z <| ZqF Z Z Z <| Zn <| ?_
     refine thenQ_n (MidB.mk h18 Sb Z ((decide_eq_false Og).symm))
    refine Wf Y4 <| Wf Y4 <| Wf Y4 <| Zg Z Z <| ZqF Z Z Z <| ZqF Z Z Z <| Zqm Z Z <| Zg Z Z <| Wb Y5 <| Zg Z Z <| Wl 0 Y6 <| Zg Z Z <| Ws Y4 <| Zg Z Z <| Zqgt Z Z Z <| Zg Z Z <| Zqm Z Z <| ?_
    refine JO_caseD (t := 76) Z (fun c24 => ?_) (fun c24 => ?_)
    ·
     refine Zg Z Z <| W0 Y5 <| Zg Z Z <| Wl 0 Y6 <| Zg Z Z <| Zqne Z Z Z <| Zg Z Z <| ZqT Z Z Z <| ZqF Z Z Z <| Zn <| ?_
     refine thenQ_n (MidB.mk h18 Sb Z (ndec_eq Og))
    refine Wf Y4 <| Wf Y4 <| Wf Y4 <| Zg Z Z <| ZqF Z Z Z <| ZqF Z Z Z <| Zn <| ?_
    refine thenQ_n (MidB.mk h18 Sb Z ((decide_eq_false Og).symm))
   refine Wf Y4 <| Wf Y4 <| Wf Y4 <| Zg Z Z <| ZqF Z Z Z <| Zg Z Z <| Zqm Z Z <| Wf Y4 <| Wf Y4 <| Wf Y4 <| Zg Z Z <| ZqF Z Z Z <| ZqF Z Z Z <| Zqm Z Z <| Zg Z Z <| Wb Y5 <| Zg Z Z <| Wl 0 Y6 <| Zg Z Z <| Ws Y4 <| Zg Z Z <| Zqgt Z Z Z <| Zg Z Z <| Zqm Z Z <| ?_
   refine JO_caseD (t := 76) Z (fun c25 => ?_) (fun c25 => ?_)
   ·
    refine Zg Z Z <| W0 Y5 <| Zg Z Z <| Wl 0 Y6 <| Zg Z Z <| Zqne Z Z Z <| Zg Z Z <| ZqT Z Z Z <| ZqF Z Z Z <| Zn <| ?_
    refine thenQ_n (MidB.mk h18 Sb Z (ndec_eq Og))
   refine Wf Y4 <| Wf Y4 <| Wf Y4 <| Zg Z Z <| ZqF Z Z Z <| ZqF Z Z Z <| Zn <| ?_
   refine thenQ_n (MidB.mk h18 Sb Z ((decide_eq_false Og).symm))
  refine Wf Y4 <| Wf Y4 <| Wf Y4 <| ZqF Z Z Z <| Zqm Z Z <| Zg Z Z <| Wb Y5 <| Zg Z Z <| Wl 0 Y6 <| Zg Z Z <| Ws Y4 <| Zg Z Z <| Zqm Z Z <| Zg Z Z <| Zqm Z Z <| Zg Z Z <| Jc Z Z Z (in_ac D _ _ _ _ _) ?_
  rintro _ _ s26 h26 ⟨rfl, rfl⟩
  refine Zg Z Z <| Zqno Z Z <| ZqF Z Z Z <| Zqm Z Z <| ?_
  refine JO_caseN (t := 55) Z (fun c27 => ?_) (fun c27 => ?_)
  ·
   refine Wf Y4 <| Wf Y4 <| Wf Y4 <| Wf Y4 <| Wf Y4 <| Zh Z Z Z <| Zh Z Z Z <| Zh Z Z Z <| Wf Y4 <| Wf Y4 <| Zh Z Z Z <| Zh Z Z Z <| Zh Z Z Z <| Wf Y4 <| ZqT Z Z Z <| Zqm Z Z <| Wf Y4 <| Wf Y4 <| Wf Y4 <| Wf Y4 <| Wf Y4 <| Zh Z Z Z <| Zh Z Z Z <| Zh Z Z Z <| Wf Y4 <| ZqT Z Z Z <| Zn <| ?_
   refine thenQ_n (MidB.mk h26 Sb Z ((decide_eq_true Og).symm))
  refine Zg Z Z <| Wb Y5 <| Zg Z Z <| Wl 0 Y6 <| Zg Z Z <| Ws Y4 <| Zg Z Z <| Zqgt Z Z Z <| Zg Z Z <| Zqm Z Z <| ?_
  refine JO_caseD (t := 60) Z (fun c28 => ?_) (fun c28 => ?_)
  ·
   refine Zg Z Z <| W0 Y5 <| Zg Z Z <| Wl 0 Y6 <| Zg Z Z <| Zqne Z Z Z <| Zg Z Z <| ZqT Z Z Z <| Zg Z Z <| Zqm Z Z <| ?_
   refine JO_caseN (t := 65) Z (fun c29 => ?_) (fun c29 => ?_)
   ·
    refine Zg Z Z <| W0 Y5 <| Zg Z Z <| Wl 0 Y6 <| Zg Z Z <| Zqne Z Z Z <| Zg Z Z <| ZqT Z Z Z <| ZqF Z Z Z <| Zqm Z Z <| ?_
    refine JO_caseN (t := 71) Z (fun c30 => ?_) (fun c30 => ?_)
    ·
     refine Wf Y4 <| Wf Y4 <| Wf Y4 <| Wf Y4 <| Wf Y4 <| Zh Z Z Z <| Zh Z Z Z <| Zh Z Z Z <| Wf Y4 <| ZqT Z Z Z <| Zn <| ?_
     refine thenQ_n (MidB.mk h26 Sb Z ((decide_eq_true Og).symm))
    refine Zg Z Z <| Wb Y5 <| Zg Z Z <| Wl 0 Y6 <| Zg Z Z <| Ws Y4 <| Zg Z Z <| Zqgt Z Z Z <| Zg Z Z <| Zqm Z Z <| ?_
    refine JO_caseD (t := 76) Z (fun c31 => ?_) (fun c31 => ?_)
    ·
     refine Zg Z Z <| W0 Y5 <| Zg Z Z <| Wl 0 Y6 <| Zg Z Z <| Zqne Z Z Z <| Zg Z Z <| ZqT Z Z Z <| ZqF Z Z Z <| Zn <| ?_
     refine thenQ_n (MidB.mk h26 Sb Z (ndec_eq Og))
    refine Wf Y4 <| Wf Y4 <| Wf Y4 <| Zg Z Z <| ZqF Z Z Z <| ZqF Z Z Z <| Zn <| ?_
    refine thenQ_n (MidB.mk h26 Sb Z ((decide_eq_false Og).symm))
   refine Wf Y4 <| Wf Y4 <| Wf Y4 <| Zg Z Z <| ZqF Z Z Z <| ZqF Z Z Z <| Zqm Z Z <| Zg Z Z <| Wb Y5 <| Zg Z Z <| Wl 0 Y6 <| Zg Z Z <| Ws Y4 <| Zg Z Z <| Zqgt Z Z Z <| Zg Z Z <| Zqm Z Z <| ?_
   refine JO_caseD (t := 76) Z (fun c32 => ?_) (fun c32 => ?_)
   ·
    refine Zg Z Z <| W0 Y5 <| Zg Z Z <| Wl 0 Y6 <| Zg Z Z <| Zqne Z Z Z <| Zg Z Z <| ZqT Z Z Z <| ZqF Z Z Z <| Zn <| ?_
    refine thenQ_n (MidB.mk h26 Sb Z (ndec_eq Og))
   refine Wf Y4 <| Wf Y4 <| Wf Y4 <| Zg Z Z <| ZqF Z Z Z <| ZqF Z Z Z <| Zn <| ?_
   refine thenQ_n (MidB.mk h26 Sb Z ((decide_eq_false Og).symm))
  refine Wf Y4 <| Wf Y4 <| Wf Y4 <| Zg Z Z <| ZqF Z Z Z <| Zg Z Z <| Zqm Z Z <| Wf Y4 <| Wf Y4 <| Wf Y4 <| Zg Z Z <| ZqF Z Z Z <| ZqF Z Z Z <| Zqm Z Z <| Zg Z Z <| Wb Y5 <| Zg Z Z <| Wl 0 Y6 <| Zg Z Z <| Ws Y4 <| Zg Z Z <| Zqgt Z Z Z <| Zg Z Z <| Zqm Z Z <| ?_
  refine JO_caseD (t := 76) Z (fun c33 => ?_) (fun c33 => ?_)
  ·
   refine Zg Z Z <| W0 Y5 <| Zg Z Z <| Wl 0 Y6 <| Zg Z Z <| Zqne Z Z Z <| Zg Z Z <| ZqT Z Z Z <| ZqF Z Z Z <| Zn <| ?_
   refine thenQ_n (MidB.mk h26 Sb Z (ndec_eq Og))
  refine Wf Y4 <| Wf Y4 <| Wf Y4 <| Zg Z Z <| ZqF Z Z Z <| ZqF Z Z Z <| Zn <| ?_
  refine thenQ_n (MidB.mk h26 Sb Z ((decide_eq_false Og).symm))
 intro s15 h15
 refine JC_ifD Z (fun c34 => ?_) (fun c34 => ?_)
 ·
  have hE := stC_6 hn1 hn2 hn3 g5 g7 (by rw [namedS_not]; exact c34)
  refine Sr <| At Z Z <| Zo <| Zu <| ?_
  refine retQ_mk [_] L (.inr Z) (.tmp Z (.nil)) Z (h1.t h2|>.t h4|>.t h7|>.t h11|>.t h15) (fun sR hS2 => ?_)
  exact ⟨by rw [hE]; rfl, rfl⟩
 have hE := stC_0 hn1 hn2 hn3 g5 g7 (by rw [namedS_not]; exact c34)
 refine Zk <| Zt <| Sr <| At Z Z <| Zo <| ?_
 refine retQ_mk [_] L (.inr Z) (.tmp Z (.nil)) Z (h1.t h2|>.t h4|>.t h7|>.t h11|>.t h15) (fun sR hS2 => ?_)
 exact ⟨by rw [hE]; rfl, rfl⟩
def RXC (D d : Nat) : Prop := ∀ (L : Hl) (s : World) (lv c : Nat) (A : Option Addr) (n cc : Nat) (l : List Ex), Exs d s A n cc l → c ≤ 2000 → lv ≤ 17 → AC Tryz.prog D 79 [.slice A n cc, .int .i64 (lv : Int), .int .i64 (c : Int)] L s fun v L' _ => v = .tuple #[.int .i64 ((wkXs l lv c).1 : Int), .int .i64 (wkXs l lv c).2] ∧ L = L'
def RSC (D d : Nat) : Prop := ∀ (L : Hl) (s : World) (lv c : Nat) (A : Option Addr) (n cc : Nat) (l : List Stm), Stms d s A n cc l → c ≤ 2000 → lv ≤ 17 → AC Tryz.prog D 51 [.slice A n cc, .int .i64 (lv : Int), .int .i64 (c : Int)] L s fun v L' _ => v = .tuple #[.int .i64 ((wkSs l lv c).1 : Int), .int .i64 (wkSs l lv c).2] ∧ L = L'
theorem wkXs_count {l : List Ex} {lv c : Nat} (hc : c ≤ 2000) (h : (wkXs l lv c).2 = 0) : (wkXs l lv c).1 ≤ 2000 := by
  have hw := wkXs_ok l lv c h; rw [hw.2.1]; rcases hw.2.2 with h | h <;> omega
theorem wkSs_count {l : List Stm} {lv c : Nat} (hc : c ≤ 2000) (h : (wkSs l lv c).2 = 0) : (wkSs l lv c).1 ≤ 2000 := by
  have hw := wkSs_ok l lv c h; rw [hw.2.1]; rcases hw.2.2 with h | h <;> omega
theorem rwx_step (D d : Nat) (ih : ∀ e, d = e + 1 → RXC D e) (L : Hl) (s : World) (lv c : Nat) (A : Option Addr) (n cc : Nat) (l : List Ex) (hA : Exs d s A n cc l) (hc : c ≤ 2000) (hlv : lv ≤ 17) : AC Tryz.prog D 79 [.slice A n cc, .int .i64 (lv : Int), .int .i64 (c : Int)] L s fun v L' _ => v = .tuple #[.int .i64 ((wkXs l lv c).1 : Int), .int .i64 (wkXs l lv c).2] ∧ L = L' := by
 have hn := hA.1
 have hc1 := hA.2.1
 have hc2 := hA.2.2.1
 refine AC_enter (TT := TT) (fn := Tryz.f79) TT_ok Tryz.func79 V Z Tryz.ntmps79 Z (rs := [.tmp 6, .tmp 7]) Z [(0, _), (1, _), (2, _)] Z <| Sr <| Zqa Z Z <| At Z Z <| Zs <| Sr <| At Z Z <| Zp ?_
 refine JC_loop (γ := Nat × Nat) (fun g => [(0, _), (1, _), (2, .int .i64 (g.2 : Int)), (6, _), (7, _), (8, .int .i64 (g.1 : Int))]) (fun _ => _) (fun g tw => Le D s tw ∧ (g.1 ≤ n ∧ g.2 ≤ 2000 ∧ wkXs l lv c = wkXs (l.drop g.1) lv g.2)) (fun g => n - g.1) (fun _ _ _ h hl => ⟨h.1.trans hl, h.2⟩) (0, c) (.cons Z (.cons Z (.cons Z (.cons Z (.cons Z (.cons Z (.nil _))))))) Z ⟨Le.refl _, ⟨Nat.zero_le _, hc, Z⟩⟩ ?_
 intro g s1 I1
 obtain ⟨k, ck⟩ := g
 obtain ⟨hk0, hck, hS⟩ := I1.2
 simp only at hk0 hck hS
 dsimp only
 refine Zs <| Sr <| Zqm Z Z <| Zqm Z Z <| Ws Y4 <| Zqlt Z Z Z <| Nt <| ?_
 refine JC_ifD Z (fun c2 => ?_) (fun c2 => ?_)
 ·
  have hk : k < n := by omega
  obtain ⟨e, b, off, x, A', n', c', hd, rfl, hx, hcx, hax, hux, hnl⟩ := Exs.at_ (hA.le I1.1) hk
  have hn' := hax.1
  have hq' := hax.2.2.1
  have hq2' := hax.2.1
  refine Zk <| Zt <| Zs <| Zp <| Sr <| Zqm Z Z <| JO_q (QE_add' Z Z (show IntKind.i64.wrap ((ck : Int) + 1) = ((ck + 1 : Nat) : Int) by rw [w64 O O]; simp)) Z <| At Z Z <| Zs <| ?_
  refine JC_cutB 23 (16 < lv ∨ 2000 < ck + 1) ?_ ?_
  ·
   refine Zr <| Zqm Z Z <| Zqgt Z Z Z <| Zqm Z Z <| ?_
   refine JO_caseD (t := 20) Z (fun c4 => ?_) (fun c4 => ?_)
   ·
    refine Wf Y4 <| Wf Y4 <| ZqT Z Z Z <| Zn <| ?_
    refine thenQ_n (MidB.mk (Lr D) Sb Z ((decide_eq_true O).symm))
   refine Zg Z Z <| Zqm Z Z <| Zg Z Z <| Zqgt Z Z Z <| ZqF Z Z Z <| Zn <| ?_
   refine thenQ_n (MidB.mk (Lr D) Sb Z (decide_eq_decide.2 O))
  intro s3 h3
  refine JC_ifD Z (fun c5 => ?_) (fun c5 => ?_)
  ·
   have g4 : 16 < lv ∨ 2000 < ck + 1 := by have := c5; omega
   have hE : wkX x lv ck = (ck + 1, 2) := by rw [wkX_eq, if_pos g4]
   have gE : ¬ (wkX x lv ck).2 = 0 := by rw [hE]; simp
   refine Sr <| Zqm Z Z <| Zqa Z Z <| At Z Z <| Zo <| Zu <| Zc <| Zu <| Zu <| Zc <| Zu <| ?_
   refine retQ_mk [] L (.inr Z) (.tmp Z (.tmp Z (.nil))) Z (I1.1.t h3) (fun sR hS2 => ?_)
   rw [hS, wkXs_at hx, if_pos gE, hE]; exact ⟨rfl, rfl⟩
  have g4 : ¬ (16 < lv ∨ 2000 < ck + 1) := by have := c5; omega
  refine Zk <| Zt <| Sr <| Zqm Z Z <| Zqm Z Z <| JO_q (QE_iaN Z Z Z Z Z Z hk) Z <| JO_q (QE_ldsA Z Z Z (hcx.le h3) Z) Z <| Jc Z Z Z (rexC_ac D _ _ x A' n' c' hn' O hnl) ?_
  rintro _ _ s6 h6 ⟨rfl, rfl⟩
  refine At Z Z <| Zs <| Sr <| Zqm Z Z <| Zqeq Z Z Z <| Nt <| ?_
  refine JC_ifD Z (fun c7 => ?_) (fun c7 => ?_)
  ·
   have hE : wkX x lv ck = wkXs x.args (lv + 1) (ck + 1) := by rw [wkX_eq, if_neg g4, if_neg (fun h => h c7)]
   refine Zr <| Zqm Z Z <| Zqm Z Z <| JO_q (QE_iaN Z Z Z Z Z Z hk) Z <| JO_q (QE_fa Z Z Z Z) Z <| JO_q (QE_ldsR 4 Z Z Z (hcx.le (h3.t h6)) Z) Z <| Zqm Z Z <| JO_q (QE_add' Z Z (show IntKind.i64.wrap ((lv : Int) + 1) = ((lv + 1 : Nat) : Int) by rw [w64 O O]; simp)) Z <| Zqm Z Z <| Jc Z Z Z (ih e hd _ _ (lv + 1) (ck + 1) A' n' c' x.args (hax.le (h3.t h6)) O O) ?_
   rintro _ _ s8 h8 ⟨rfl, rfl⟩
   refine Zqm Z Z <| Zqx Z Z Z <| Zqx Z Z Z <| Zqa Z Z <| At Z Z <| Sr <| Zqm Z Z <| Zqne Z Z Z <| Nt ?_
   refine JC_ifN Z (fun c9 => ?_) (fun c9 => ?_)
   ·
    have gE : ¬ (wkX x lv ck).2 = 0 := by rw [hE]; exact c9
    refine Sr <| Zqm Z Z <| Zqm Z Z <| Zqa Z Z <| At Z Z <| Zo <| Zc <| Zu <| Zu <| Zc <| Zu <| ?_
    refine retQ_mk [] L (.inr Z) (.tmp Z (.tmp Z (.nil))) Z (I1.1.t h3|>.t h6|>.t h8) (fun sR hS2 => ?_)
    rw [hS, wkXs_at hx, if_pos gE, hE]; exact ⟨rfl, rfl⟩
   have g1 := c9
   refine Zk <| Zb <| Zt <| Zr <| Zqm Z Z <| Zqadd Z Z Z (w64 O O) <| Zqa Z Z <| Zn <| ?_
   refine thenQ_n ⟨(k + 1, (wkXs x.args (lv + 1) (ck + 1)).1), [], kp, Z, ⟨(I1.1.t h3|>.t h6|>.t h8), ⟨by simp only; omega, wkXs_count O g1, by simp only; rw [hS, wkXs_at hx, hE, if_neg (by rw [g1]; decide)]⟩⟩, (by simp only; omega)⟩
  have g0 := c7
  have hE : wkX x lv ck = (ck + 1, exC x.kind x.op x.num x.name x.args.length) := by rw [wkX_eq, if_neg g4, if_pos c7]
  refine Zk <| Zt <| Sr <| Zqm Z Z <| Zqne Z Z Z <| Nt <| ?_
  refine JC_ifN Z (fun c10 => ?_) (fun c10 => ?_)
  ·
   have gE : ¬ (wkX x lv ck).2 = 0 := by rw [hE]; exact c10
   refine Sr <| Zqm Z Z <| Zqm Z Z <| Zqa Z Z <| At Z Z <| Zo <| Zc <| Zu <| Zu <| Zc <| Zu <| ?_
   refine retQ_mk [] L (.inr Z) (.tmp Z (.tmp Z (.nil))) Z (I1.1.t h3|>.t h6) (fun sR hS2 => ?_)
   rw [hS, wkXs_at hx, if_pos gE, hE]; exact ⟨rfl, rfl⟩
  exact absurd c10 g0 --end
 rw [List.drop_eq_nil_of_le O, wkXs] at hS
 refine Zl <| Zv <| Zv <| Zd <| Zt <| Sr <| Zqm Z Z <| Zqa Z Z <| At Z Z <| Zo ?_
 refine retQ_mk [] L (.inr Z) (.tmp Z (.tmp Z (.nil))) Z I1.1 (fun sR hS2 => ?_)
 rw [hS]; exact ⟨rfl, rfl⟩
theorem rwx_ac (D : Nat) : ∀ d, RXC D d
  | 0 => fun L s lv c A n cc l hA hc hlv => rwx_step D 0 (fun e h => by omega) L s lv c A n cc l hA hc hlv
  | d + 1 => fun L s lv c A n cc l hA hc hlv => rwx_step D (d + 1) (fun e h => (show d = e by omega) ▸ rwx_ac D d) L s lv c A n cc l hA hc hlv
theorem rws_step (D d : Nat) (ih : ∀ e, d = e + 1 → RSC D e) (L : Hl) (s : World) (lv c : Nat) (A : Option Addr) (n cc : Nat) (l : List Stm) (hA : Stms d s A n cc l) (hc : c ≤ 2000) (hlv : lv ≤ 17) : AC Tryz.prog D 51 [.slice A n cc, .int .i64 (lv : Int), .int .i64 (c : Int)] L s fun v L' _ => v = .tuple #[.int .i64 ((wkSs l lv c).1 : Int), .int .i64 (wkSs l lv c).2] ∧ L = L' := by
 have hn := hA.1
 have hc1 := hA.2.1
 have hc2 := hA.2.2.1
 refine AC_enter (TT := TT) (fn := Tryz.f51) TT_ok Tryz.func51 V Z Tryz.ntmps51 Z (rs := [.tmp 6, .tmp 7]) Z [(0, _), (1, _), (2, _)] Z <| Sr <| Zqa Z Z <| At Z Z <| Zs <| Sr <| At Z Z <| Zp ?_
 refine JC_loop (γ := Nat × Nat) (fun g => [(0, _), (1, _), (2, .int .i64 (g.2 : Int)), (6, _), (7, _), (8, .int .i64 (g.1 : Int))]) (fun _ => _) (fun g tw => Le D s tw ∧ (g.1 ≤ n ∧ g.2 ≤ 2000 ∧ wkSs l lv c = wkSs (l.drop g.1) lv g.2)) (fun g => n - g.1) (fun _ _ _ h hl => ⟨h.1.trans hl, h.2⟩) (0, c) (.cons Z (.cons Z (.cons Z (.cons Z (.cons Z (.cons Z (.nil _))))))) Z ⟨Le.refl _, ⟨Nat.zero_le _, hc, Z⟩⟩ ?_
 intro g s1 I1
 obtain ⟨k, ck⟩ := g
 obtain ⟨hk0, hck, hS⟩ := I1.2
 simp only at hk0 hck hS
 dsimp only
 refine Zs <| Sr <| Zqm Z Z <| Zqm Z Z <| Ws Y4 <| Zqlt Z Z Z <| Nt <| ?_
 refine JC_ifD Z (fun c2 => ?_) (fun c2 => ?_)
 ·
  have hk : k < n := by omega
  obtain ⟨e, b, off, x, A1, n1, p1, A2, n2, p2, A3, n3, p3, hd, rfl, hx, hcx, hax, hbx, hex, hnl⟩ := Stms.at_ (hA.le I1.1) hk
  have hn1 := hax.1
  have hn2 := hbx.1
  have hn3 := hex.1
  have hq1 := hax.2.2.1
  have hq2 := hax.2.1
  refine Zk <| Zt <| Zs <| Zp <| Sr <| Zqm Z Z <| JO_q (QE_add' Z Z (show IntKind.i64.wrap ((ck : Int) + 1) = ((ck + 1 : Nat) : Int) by rw [w64 O O]; simp)) Z <| At Z Z <| Zs <| ?_
  refine JC_cutB 23 (16 < lv ∨ 2000 < ck + 1) ?_ ?_
  ·
   refine Zr <| Zqm Z Z <| Zqgt Z Z Z <| Zqm Z Z <| ?_
   refine JO_caseD (t := 20) Z (fun c4 => ?_) (fun c4 => ?_)
   ·
    refine Wf Y4 <| Wf Y4 <| ZqT Z Z Z <| Zn <| ?_
    refine thenQ_n (MidB.mk (Lr D) Sb Z ((decide_eq_true O).symm))
   refine Zg Z Z <| Zqm Z Z <| Zg Z Z <| Zqgt Z Z Z <| ZqF Z Z Z <| Zn <| ?_
   refine thenQ_n (MidB.mk (Lr D) Sb Z (decide_eq_decide.2 O))
  intro s3 h3
  refine JC_ifD Z (fun c5 => ?_) (fun c5 => ?_)
  ·
   have g4 : 16 < lv ∨ 2000 < ck + 1 := by have := c5; omega
   have hE : wkS x lv ck = (ck + 1, 2) := by rw [wkS_eq, if_pos g4]
   have gE : ¬ (wkS x lv ck).2 = 0 := by rw [hE]; simp
   refine Sr <| Zqm Z Z <| Zqa Z Z <| At Z Z <| Zo <| Zu <| Zc <| Zu <| Zu <| Zc <| Zu <| ?_
   refine retQ_mk [] L (.inr Z) (.tmp Z (.tmp Z (.nil))) Z (I1.1.t h3) (fun sR hS2 => ?_)
   rw [hS, wkSs_at hx, if_pos gE, hE]; exact ⟨rfl, rfl⟩
  have g4 : ¬ (16 < lv ∨ 2000 < ck + 1) := by have := c5; omega
  refine Zk <| Zt <| Sr <| Zqm Z Z <| Zqm Z Z <| JO_q (QE_iaN Z Z Z Z Z Z hk) Z <| JO_q (QE_ldsA Z Z Z (hcx.le h3) Z) Z <| Jc Z Z Z (rstC_ac D _ _ x A1 A2 A3 n1 p1 n2 p2 n3 p3 hn1 hn2 hn3 O hnl) ?_
  rintro _ _ s6 h6 ⟨rfl, rfl⟩
  refine At Z Z <| Zs <| Sr <| Zqm Z Z <| Zqeq Z Z Z <| Nt <| ?_
  refine JC_ifD Z (fun c7 => ?_) (fun c7 => ?_)
  ·
   have g0 := c7
   refine Zr <| Zqm Z Z <| Zqm Z Z <| JO_q (QE_iaN Z Z Z Z Z Z hk) Z <| JO_q (QE_fa Z Z Z Z) Z <| JO_q (QE_ldsR 2 Z Z Z (hcx.le (h3.t h6)) Z) Z <| Zqm Z Z <| Jc Z Z Z (rwx_ac D e _ _ 1 (ck + 1) A1 n1 p1 x.exprs (hax.le (h3.t h6)) O O) ?_
   rintro _ _ s8 h8 ⟨rfl, rfl⟩
   refine Zqm Z Z <| Zqx Z Z Z <| Zqx Z Z Z <| Zqa Z Z <| At Z Z <| Zs <| Sr <| Zqm Z Z <| Zqeq Z Z Z <| Nt <| ?_
   refine JC_ifD Z (fun c9 => ?_) (fun c9 => ?_)
   ·
    have g1 := c9
    refine Zr <| Zqm Z Z <| Zqm Z Z <| JO_q (QE_iaN Z Z Z Z Z Z hk) Z <| JO_q (QE_fa Z Z Z Z) Z <| JO_q (QE_ldsR 3 Z Z Z (hcx.le (h3.t h6|>.t h8)) Z) Z <| Zqm Z Z <| JO_q (QE_add' Z Z (show IntKind.i64.wrap ((lv : Int) + 1) = ((lv + 1 : Nat) : Int) by rw [w64 O O]; simp)) Z <| Zqm Z Z <| Jc Z Z Z (ih e hd _ _ (lv + 1) (wkXs x.exprs 1 (ck + 1)).1 A2 n2 p2 x.body (hbx.le (h3.t h6|>.t h8)) (wkXs_count O g1) O) ?_
    rintro _ _ s10 h10 ⟨rfl, rfl⟩
    refine Zqm Z Z <| Zqx Z Z Z <| Zqx Z Z Z <| Zqa Z Z <| At Z Z <| Zs <| Sr <| Zqm Z Z <| Zqeq Z Z Z <| Nt <| ?_
    refine JC_ifD Z (fun c11 => ?_) (fun c11 => ?_)
    ·
     have g2 := c11
     refine Zr <| Zqm Z Z <| Zqm Z Z <| JO_q (QE_iaN Z Z Z Z Z Z hk) Z <| JO_q (QE_fa Z Z Z Z) Z <| JO_q (QE_ldsR 4 Z Z Z (hcx.le (h3.t h6|>.t h8|>.t h10)) Z) Z <| Zqm Z Z <| JO_q (QE_add' Z Z (show IntKind.i64.wrap ((lv : Int) + 1) = ((lv + 1 : Nat) : Int) by rw [w64 O O]; simp)) Z <| Zqm Z Z <| Jc Z Z Z (ih e hd _ _ (lv + 1) (wkSs x.body (lv + 1) (wkXs x.exprs 1 (ck + 1)).1).1 A3 n3 p3 x.els (hex.le (h3.t h6|>.t h8|>.t h10)) (wkSs_count (wkXs_count O g1) g2) O) ?_
     rintro _ _ s12 h12 ⟨rfl, rfl⟩
     refine Zqm Z Z <| Zqx Z Z Z <| Zqx Z Z Z <| Zqa Z Z <| At Z Z <| Sr <| Zqm Z Z <| Zqne Z Z Z <| Nt ?_
     refine JC_ifN Z (fun c13 => ?_) (fun c13 => ?_)
     ·
      have hE : wkS x lv ck = wkSs x.els (lv + 1) (wkSs x.body (lv + 1) (wkXs x.exprs 1 (ck + 1)).1).1 := by rw [wkS_eq, if_neg g4, if_neg (fun h => h g0), if_neg (fun h => h g1), if_neg (fun h => h g2)]
      have gE : ¬ (wkS x lv ck).2 = 0 := by rw [hE]; exact c13
      refine Sr <| Zqm Z Z <| Zqm Z Z <| Zqa Z Z <| At Z Z <| Zo <| Zc <| Zu <| Zu <| Zc <| Zu <| ?_
      refine retQ_mk [] L (.inr Z) (.tmp Z (.tmp Z (.nil))) Z (I1.1.t h3|>.t h6|>.t h8|>.t h10|>.t h12) (fun sR hS2 => ?_)
      rw [hS, wkSs_at hx, if_pos gE, hE]; exact ⟨rfl, rfl⟩
     have g3 := c13
     have hE : wkS x lv ck = wkSs x.els (lv + 1) (wkSs x.body (lv + 1) (wkXs x.exprs 1 (ck + 1)).1).1 := by rw [wkS_eq, if_neg g4, if_neg (fun h => h g0), if_neg (fun h => h g1), if_neg (fun h => h g2)]
     refine Zk <| Zb <| Zt <| Zr <| Zqm Z Z <| Zqadd Z Z Z (w64 O O) <| Zqa Z Z <| Zn <| ?_
     refine thenQ_n ⟨(k + 1, (wkSs x.els (lv + 1) (wkSs x.body (lv + 1) (wkXs x.exprs 1 (ck + 1)).1).1).1), [], kp, Z, ⟨(I1.1.t h3|>.t h6|>.t h8|>.t h10|>.t h12), ⟨by simp only; omega, wkSs_count (wkSs_count (wkXs_count O g1) g2) g3, by simp only; rw [hS, wkSs_at hx, hE, if_neg (fun h => h g3)]⟩⟩, (by simp only; omega)⟩
    have g2 := c11
    refine Zk <| Zt <| Sr <| Zqm Z Z <| Zqne Z Z Z <| Nt <| ?_
    refine JC_ifN Z (fun c14 => ?_) (fun c14 => ?_)
    ·
     have hE : wkS x lv ck = wkSs x.body (lv + 1) (wkXs x.exprs 1 (ck + 1)).1 := by rw [wkS_eq, if_neg g4, if_neg (fun h => h g0), if_neg (fun h => h g1), if_pos g2]
     have gE : ¬ (wkS x lv ck).2 = 0 := by rw [hE]; exact c14
     refine Sr <| Zqm Z Z <| Zqm Z Z <| Zqa Z Z <| At Z Z <| Zo <| Zc <| Zu <| Zu <| Zc <| Zu <| ?_
     refine retQ_mk [] L (.inr Z) (.tmp Z (.tmp Z (.nil))) Z (I1.1.t h3|>.t h6|>.t h8|>.t h10) (fun sR hS2 => ?_)
     rw [hS, wkSs_at hx, if_pos gE, hE]; exact ⟨rfl, rfl⟩
    exact absurd c14 g2 --end
   have g1 := c9
   refine Zk <| Zt <| Zs <| Sr <| Zqm Z Z <| Zqeq Z Z Z <| Nt <| ?_
   refine JC_ifD Z (fun c15 => ?_) (fun c15 => ?_)
   ·
    exact absurd c15 g1 --end
   refine Zk <| Zt <| Sr <| Zqm Z Z <| Zqne Z Z Z <| Nt <| ?_
   refine JC_ifN Z (fun c16 => ?_) (fun c16 => ?_)
   ·
    have hE : wkS x lv ck = wkXs x.exprs 1 (ck + 1) := by rw [wkS_eq, if_neg g4, if_neg (fun h => h g0), if_pos g1]
    have gE : ¬ (wkS x lv ck).2 = 0 := by rw [hE]; exact c16
    refine Sr <| Zqm Z Z <| Zqm Z Z <| Zqa Z Z <| At Z Z <| Zo <| Zc <| Zu <| Zu <| Zc <| Zu <| ?_
    refine retQ_mk [] L (.inr Z) (.tmp Z (.tmp Z (.nil))) Z (I1.1.t h3|>.t h6|>.t h8) (fun sR hS2 => ?_)
    rw [hS, wkSs_at hx, if_pos gE, hE]; exact ⟨rfl, rfl⟩
   exact absurd c16 g1 --end
  have g0 := c7
  refine Zk <| Zt <| Zs <| Sr <| Zqm Z Z <| Zqeq Z Z Z <| Nt <| ?_
  refine JC_ifD Z (fun c17 => ?_) (fun c17 => ?_)
  ·
   exact absurd c17 g0 --end
  refine Zk <| Zt <| Zs <| Sr <| Zqm Z Z <| Zqeq Z Z Z <| Nt <| ?_
  refine JC_ifD Z (fun c18 => ?_) (fun c18 => ?_)
  ·
   exact absurd c18 g0 --end
  refine Zk <| Zt <| Sr <| Zqm Z Z <| Zqne Z Z Z <| Nt <| ?_
  refine JC_ifN Z (fun c19 => ?_) (fun c19 => ?_)
  ·
   have hE : wkS x lv ck = (ck + 1, stC x.kind x.name x.exprs.length x.body.length x.els.length) := by rw [wkS_eq, if_neg g4, if_pos g0]
   have gE : ¬ (wkS x lv ck).2 = 0 := by rw [hE]; exact c19
   refine Sr <| Zqm Z Z <| Zqm Z Z <| Zqa Z Z <| At Z Z <| Zo <| Zc <| Zu <| Zu <| Zc <| Zu <| ?_
   refine retQ_mk [] L (.inr Z) (.tmp Z (.tmp Z (.nil))) Z (I1.1.t h3|>.t h6) (fun sR hS2 => ?_)
   rw [hS, wkSs_at hx, if_pos gE, hE]; exact ⟨rfl, rfl⟩
  exact absurd c19 g0 --end
 rw [List.drop_eq_nil_of_le O, wkSs] at hS
 refine Zl <| Zv <| Zv <| Zd <| Zt <| Sr <| Zqm Z Z <| Zqa Z Z <| At Z Z <| Zo ?_
 refine retQ_mk [] L (.inr Z) (.tmp Z (.tmp Z (.nil))) Z I1.1 (fun sR hS2 => ?_)
 rw [hS]; exact ⟨rfl, rfl⟩
theorem rws_ac (D : Nat) : ∀ d, RSC D d
  | 0 => fun L s lv c A n cc l hA hc hlv => rws_step D 0 (fun e h => by omega) L s lv c A n cc l hA hc hlv
  | d + 1 => fun L s lv c A n cc l hA hc hlv => rws_step D (d + 1) (fun e h => (show d = e by omega) ▸ rws_ac D d) L s lv c A n cc l hA hc hlv
theorem fnC_bad {x : Fnc} {c : Nat} {w : Str} (h : ¬ identB x.name = false) (hs2 : ¬ (6 < x.params.length ∨ 12 < x.locals.length)) (hw : w ∈ x.params ++ x.locals) (hi : identB w = false) : fnC x c = (c, 7) := by
  obtain ⟨i, hi2⟩ := List.getElem?_of_mem hw
  exact fnC_par h hs2 hi2 hi
theorem fnC_all {x : Fnc} {c : Nat} (h : ¬ identB x.name = false) (hs2 : ¬ (6 < x.params.length ∨ 12 < x.locals.length)) (h3 : ∀ i w, i < x.params.length → x.params[i]? = some w → identB w = true) (h4 : ∀ i w, i < x.locals.length → x.locals[i]? = some w → identB w = true) : fnC x c = wkSs x.body 1 c := by
  refine fnC_ok h hs2 fun i w _ hi => ?_
  have hw := List.mem_of_getElem? hi
  rcases List.mem_append.1 hw with hw | hw
  · obtain ⟨j, hj⟩ := List.getElem?_of_mem hw; exact h3 j w (List.getElem?_eq_some_iff.1 hj).1 hj
  · obtain ⟨j, hj⟩ := List.getElem?_of_mem hw; exact h4 j w (List.getElem?_eq_some_iff.1 hj).1 hj
theorem rshape_ac (D : Nat) (L : Hl) (s : World) (d : Nat) (p : Prg) (Ag Af : Option Addr) (ng cg nf cf : Nat) (hGl : Glos s Ag ng cg p.globals) (hFn : Fncs d s Af nf cf p.funcs) : AC Tryz.prog D 22 [.agg #[.slice Ag ng cg, .slice Af nf cf]] L s fun v L' _ => v = .agg #[.int .i64 (shapeF p).1, .int .i64 (shapeF p).2] ∧ L = L' := by
 have hn1 := hGl.1
 have hn2 := hFn.1
 refine AC_enter (TT := TT) (fn := Tryz.f22) TT_ok Tryz.func22 V Z Tryz.ntmps22 Z (rs := [.cell 2 27]) Z [(0, _)] Z <| Sr <| JO_boxA Z Z ?_
 intro β1 s1 h1
 refine JO_allocZ Z [_, _] Z Z ?_
 intro β2 s2 h2
 refine Nt <| Zs <| ?_
 refine JC_cutB 22 (64 < ng ∨ 64 < nf) ?_ ?_
 ·
  refine Zr <| W0 Y5 <| Wl 1 Y6 <| Ws Y4 <| Zqgt Z Z Z <| Zqm Z Z <| ?_
  refine JO_caseD (t := 17) Z (fun c4 => ?_) (fun c4 => ?_)
  ·
   refine Wf Y4 <| Wf Y4 <| Wf Y4 <| Wf Y4 <| ZqT Z Z Z <| Zn <| ?_
   refine thenQ_n (MidB.mk (Lr D) Sb Z ((decide_eq_true O).symm))
  refine Zg Z Z <| Wb Y5 <| Zg Z Z <| Wl 1 Y6 <| Zg Z Z <| Ws Y4 <| Zg Z Z <| Zqgt Z Z Z <| ZqF Z Z Z <| Zn <| ?_
  refine thenQ_n (MidB.mk (Lr D) Sb Z (decide_eq_decide.2 O))
 intro s3 h3
 refine JC_ifD Z (fun c5 => ?_) (fun c5 => ?_)
 ·
  have hE := sh_many (p := p) O
  refine Sr <| Jc Z Z Z (at_ac D _ _ _ _) ?_
  rintro _ _ s6 h6 ⟨rfl, rfl⟩
  refine Wt 0 [_, _] Y9 <| Nt <| Zo <| Zu <| ?_
  refine retQ_mk [_, _] L (.inr Z) (.agg (us := [_, _]) 0 Z Z Z Z Z (.nil)) Z (h1.t h2|>.t h3|>.t h6) (fun sR hS2 => ?_)
  exact ⟨by rw [hE]; rfl, rfl⟩
 have g20 : ¬ (64 < p.globals.length ∨ 64 < p.funcs.length) := by omega
 refine Zk <| Zt <| Sr <| At Z Z <| Zs <| Sr <| At Z Z <| Zp <| JC_loopX [_, _] (γ := Nat × Nat) (fun g => [(1, _), (2, _), (3, .int .i64 (g.2 : Int)), (4, .int .i64 (g.1 : Int))]) (fun g => L) (fun g tw => Le D s3 tw ∧ (g.1 ≤ ng ∧ glF p.globals 0 = glF (p.globals.drop g.1) g.1 ∧ g.2 = ((p.globals.take g.1).map fun g => g.init.length).sum ∧ g.2 ≤ g.1 * 40000)) (fun g => ng - g.1) (fun _ _ _ h hl => ⟨h.1.trans hl, h.2⟩) (0, 0) (.cons Z (.cons Z (.cons Z (.cons Z (.nil _))))) Z ⟨Le.refl _, ⟨Nat.zero_le _, Z, Z, Nat.zero_le _⟩⟩ ?_
 intro g s7 I7
 simp only [cQ9, nQ9]
 obtain ⟨k, z⟩ := g
 obtain ⟨hk0, hS, hz, hz4⟩ := I7.2
 simp only at hk0 hS hz hz4
 dsimp only
 refine Zs <| Sr <| Zqm Z Z <| W0 Y5 <| Wl 1 Y6 <| Ws Y4 <| Zqlt Z Z Z <| Nt <| ?_
 refine JC_ifD Z (fun c8 => ?_) (fun c8 => ?_)
 ·
  have hk : k < ng := by omega
  obtain ⟨b, off, x, Ai, ni, ci, rfl, hx, hcx, hix, hux, hnl⟩ := Glos.at_ (hGl.le (h1.t h2|>.t h3|>.t I7.1)) hk
  have hni := hix.1
  refine Zk <| Zt <| Zs <| Zp <| Sr <| W0 Y5 <| Wl 1 Y6 <| Zqm Z Z <| JO_q (QE_iaN Z Z Z Z Z Z hk) Z <| JO_q (QE_ldsA Z Z Z (hcx.le (Lr D)) Z) Z <| Jc Z Z Z (rglo_ac D _ _ x Ai ni ci (hix.le (Lr D)) hux hnl) ?_
  rintro _ _ s9 h9 ⟨rfl, rfl⟩
  refine At Z Z <| Zs <| Sr <| Zqm Z Z <| Zqne Z Z Z <| Nt <| ?_
  refine JC_ifN Z (fun c10 => ?_) (fun c10 => ?_)
  ·
   have hE : shapeF p = (gloC x, (k : Int)) := by
     have h9 : glF p.globals 0 = (gloC x, (k : Int)) := by rw [hS, glF_at hx, if_pos c10]
     rw [sh_glo g20 (by rw [h9]; exact c10), h9]
   refine Sr <| Zqm Z Z <| Zqm Z Z <| Jc Z Z Z (at_ac D _ _ _ _) ?_
   rintro _ _ s11 h11 ⟨rfl, rfl⟩
   refine Wt 0 [_, _] Y9 <| Nt <| Zo <| Zu <| Zc <| Zu <| Zu <| Zc <| Zu <| ?_
   refine retQ_mk [_, _] L (.inr Z) (.agg (us := [_, _]) 0 Z Z Z Z Z (.nil)) Z (h1.t h2|>.t h3|>.t I7.1|>.t h9|>.t h11) (fun sR hS2 => ?_)
   exact ⟨by rw [hE]; rfl, rfl⟩
  have g33 : ¬ gloC x ≠ 0 := fun h => h c10
  have hg4 := (gloC_zero (show gloC x = 0 by simpa using g33)).2.2.2.2.2
  refine Zk <| Zt <| Zr <| Zqm Z Z <| W0 Y5 <| Wl 1 Y6 <| Zqm Z Z <| JO_q (QE_iaN Z Z Z Z Z Z hk) Z <| JO_q (QE_fa Z Z Z Z) Z <| JO_q (QE_ldsR 3 Z Z Z (hcx.le h9) Z) Z <| Ws Y4 <| JO_q (QE_add' Z Z (show IntKind.i64.wrap ((z : Int) + (ni : Int)) = ((z + ni : Nat) : Int) by rw [w64 O O]; simp)) Z <| Zqa Z Z <| Zn <| Zb <| Zt <| Zr <| Zqm Z Z <| Zqadd Z Z Z (w64 O O) <| Zqa Z Z <| Zn <| ?_
  refine thenQ_n ⟨(k + 1, z + ni), [], kp, Z, ⟨(I7.1.t h9), ⟨by simp only; omega, by simp only; rw [hS, glF_at hx, if_neg g33], by simp only; rw [tsum_at hx, ← hz, hni], by simp only; omega⟩⟩, (by simp only; omega)⟩
 rw [List.drop_eq_nil_of_le O] at hS
 rw [List.take_of_length_le O] at hz
 refine Zl <| Zv <| Zv <| Zd <| Zt <| Zs <| Sr <| Zqm Z Z <| Zqgt Z Z Z <| Nt <| ?_
 refine JC_ifD Z (fun c12 => ?_) (fun c12 => ?_)
 ·
  have hE := sh_cells g20 hS O
  refine Sr <| Jc Z Z Z (at_ac D _ _ _ _) ?_
  rintro _ _ s13 h13 ⟨rfl, rfl⟩
  refine Wt 0 [_, _] Y9 <| Nt <| Zo <| Zu <| ?_
  refine retQ_mk [_, _] L (.inr Z) (.agg (us := [_, _]) 0 Z Z Z Z Z (.nil)) Z (h1.t h2|>.t h3|>.t I7.1|>.t h13) (fun sR hS2 => ?_)
  exact ⟨by rw [hE]; rfl, rfl⟩
 have g44 := sh_fn g20 hS O
 refine Zk <| Zt <| Sr <| At Z Z <| Zs <| Sr <| At Z Z <| Zp <| JC_loopX [_, _] (γ := Nat × Nat) (fun g => [(1, _), (2, _), (6, .int .i64 (g.2 : Int)), (7, .int .i64 (g.1 : Int))]) (fun g => L) (fun g tw => Le D s7 tw ∧ (g.1 ≤ nf ∧ g.2 ≤ 2000 ∧ fnF p.funcs p.globals.length 0 = fnF (p.funcs.drop g.1) (p.globals.length + g.1) g.2)) (fun g => nf - g.1) (fun _ _ _ h hl => ⟨h.1.trans hl, h.2⟩) (0, 0) (.cons Z (.cons Z (.cons Z (.cons Z (.nil _))))) Z ⟨Le.refl _, ⟨Nat.zero_le _, Nat.zero_le _, Z⟩⟩ ?_
 intro g s14 I14
 simp only [cQ9, nQ9]
 obtain ⟨k, ck⟩ := g
 obtain ⟨hk0, hck, hS2⟩ := I14.2
 simp only at hk0 hck hS2
 dsimp only
 refine Zs <| Sr <| Zqm Z Z <| Wb Y5 <| Wl 1 Y6 <| Ws Y4 <| Zqlt Z Z Z <| Nt <| ?_
 refine JC_ifD Z (fun c15 => ?_) (fun c15 => ?_)
 ·
  have hk : k < nf := by omega
  obtain ⟨b, off, x, B1, m1, d1, B2, m2, d2, B3, m3, d3, rfl, hx, hcx, hpx, hlx, hbx, hnl⟩ := Fncs.at_ (hFn.le (h1.t h2|>.t h3|>.t I7.1|>.t I14.1)) hk
  have hm1 := hpx.1
  have hm2 := hlx.1
  refine Zk <| Zt <| Zs <| Zp <| Sr <| Wb Y5 <| Wl 1 Y6 <| Zqm Z Z <| JO_q (QE_iaN Z Z Z Z Z Z hk) Z <| JO_q (QE_ldsA Z Z Z (hcx.le (Lr D)) Z) Z <| JO_allocZ Z [_, _, _, _] Z Z ?_
  intro β16 s16 h16
  refine Wt 0 [_, _, _, _] Y9 <| Nt <| Sr <| W0 Y5 <| Wl 2 Y6 <| Ws Y4 <| Zqm Z Z <| JO_q (QE_add' Z Z (show IntKind.i64.wrap ((ng : Int) + (k : Int)) = ((ng + k : Nat) : Int) by rw [w64 O O]; simp)) Z <| At Z Z <| Zs <| Sr <| W0 Y5 <| Wl 0 Y6 <| Jc Z Z Z (rident_ac D _ _ x.name hnl) ?_
  rintro _ _ s17 h17 ⟨rfl, rfl⟩
  refine Zqno Z Z <| Nt <| ?_
  refine JC_ifM Z (fun c18 => ?_) (fun c18 => ?_)
  ·
   have hi : identB x.name = false := by simpa using c18
   have hC := fnC_name (c := ck) hi
   have hE : shapeF p = ((fnC x ck).2, ((ng + k : Nat) : Int)) := by rw [g44, hS2, fnF_at hx, if_pos (by rw [hC]; exact (by simp)), hn1]
   rw [hC] at hE
   refine Sr <| Zqm Z Z <| Jc Z Z Z (at_ac D _ _ _ _) ?_
   rintro _ _ s19 h19 ⟨rfl, rfl⟩
   refine Wt 1 [_, _] Y9 <| Nt <| Zo <| Zu <| Zc <| Zu <| Zu <| Zc <| Zu <| ?_
   refine retQ_mk [_, _, _] L (.inr Z) (.agg (us := [_, _]) 1 Z Z Z Z Z (.nil)) Z (h1.t h2|>.t h3|>.t I7.1|>.t I14.1|>.t h16|>.t h17|>.t h19) (fun sR hS2 => ?_)
   exact ⟨by rw [hE]; rfl, rfl⟩
  have g74 : ¬ identB x.name = false := by simpa using c18
  refine Zk <| Zt <| Zs <| ?_
  refine JC_cutB 86 (6 < m1 ∨ 12 < m2) ?_ ?_
  ·
   refine Zr <| Wb Y5 <| Wl 0 Y6 <| Ws Y4 <| Zqgt Z Z Z <| Zqm Z Z <| ?_
   refine JO_caseD (t := 81) Z (fun c21 => ?_) (fun c21 => ?_)
   ·
    refine Wf Y4 <| Wf Y4 <| Wf Y4 <| Wf Y4 <| ZqT Z Z Z <| Zn <| ?_
    refine thenQ_n (MidB.mk (Lr D) Sb Z ((decide_eq_true O).symm))
   refine Zg Z Z <| Wb Y5 <| Zg Z Z <| Wl 0 Y6 <| Zg Z Z <| Ws Y4 <| Zg Z Z <| Zqgt Z Z Z <| ZqF Z Z Z <| Zn <| ?_
   refine thenQ_n (MidB.mk (Lr D) Sb Z (decide_eq_decide.2 O))
  intro s20 h20
  refine JC_ifD Z (fun c22 => ?_) (fun c22 => ?_)
  ·
   have hC := fnC_many (c := ck) g74 O
   have hE : shapeF p = ((fnC x ck).2, ((ng + k : Nat) : Int)) := by rw [g44, hS2, fnF_at hx, if_pos (by rw [hC]; exact (by simp)), hn1]
   rw [hC] at hE
   refine Sr <| Zqm Z Z <| Jc Z Z Z (at_ac D _ _ _ _) ?_
   rintro _ _ s23 h23 ⟨rfl, rfl⟩
   refine Wt 1 [_, _] Y9 <| Nt <| Zo <| Zu <| Zc <| Zu <| Zu <| Zc <| Zu <| ?_
   refine retQ_mk [_, _, _] L (.inr Z) (.agg (us := [_, _]) 1 Z Z Z Z Z (.nil)) Z (h1.t h2|>.t h3|>.t I7.1|>.t I14.1|>.t h16|>.t h17|>.t h20|>.t h23) (fun sR hS2 => ?_)
   exact ⟨by rw [hE]; rfl, rfl⟩
  have g86 : ¬ (6 < x.params.length ∨ 12 < x.locals.length) := by omega
  refine Zk <| Zt <| Zs <| Sr <| At Z Z <| Zp <| JC_loopX [_, _, _] (γ := Nat) (fun j => [(1, _), (2, _), (6, _), (7, _), (8, _), (9, _), (10, .int .i64 (j : Int))]) (fun j => L) (fun j tw => Le D s20 tw ∧ (j ≤ m1 ∧ ∀ i w, i < j → x.params[i]? = some w → identB w = true)) (fun j => m1 - j) (fun _ _ _ h hl => ⟨h.1.trans hl, h.2⟩) 0 (.cons Z (.cons Z (.cons Z (.cons Z (.cons Z (.cons Z (.cons Z (.nil _)))))))) Z ⟨Le.refl _, ⟨Nat.zero_le _, fun i w hi => by omega⟩⟩ ?_
  intro j s24 I24
  simp only [cQ9, nQ9]
  have hj0 := I24.2.1
  have hP := I24.2.2
  refine Zs <| Sr <| Zqm Z Z <| Wb Y5 <| Wl 0 Y6 <| Ws Y4 <| Zqlt Z Z Z <| Nt <| ?_
  refine JC_ifD Z (fun c25 => ?_) (fun c25 => ?_)
  ·
   have hj : j < m1 := by omega
   obtain ⟨bw, ow, w, rfl, hw, hcw, hwl⟩ := Strs.at_ (hpx.le (h16.t h17|>.t h20|>.t I24.1)) hj
   refine Zk <| Zt <| Zs <| Zp <| Sr <| Wb Y5 <| Wl 0 Y6 <| Zqm Z Z <| JO_q (QE_ia1 Z Z Z Z Z Z hj) Z <| JO_q (QE_ldsR0 Z Z Z (hcw.le (Lr D)) Z) Z <| Jc Z Z Z (rident_ac D _ _ w hwl) ?_
   rintro _ _ s26 h26 ⟨rfl, rfl⟩
   refine Zqno Z Z <| Nt <| ?_
   refine JC_ifM Z (fun c27 => ?_) (fun c27 => ?_)
   ·
    have hC := fnC_bad (c := ck) g74 g86 (List.mem_append_left _ (List.mem_of_getElem? hw)) (by simpa using c27)
    have hE : shapeF p = ((fnC x ck).2, ((ng + k : Nat) : Int)) := by rw [g44, hS2, fnF_at hx, if_pos (by rw [hC]; exact (by simp)), hn1]
    rw [hC] at hE
    refine Sr <| Zqm Z Z <| Jc Z Z Z (at_ac D _ _ _ _) ?_
    rintro _ _ s28 h28 ⟨rfl, rfl⟩
    refine Wt 1 [_, _] Y9 <| Nt <| Zo <| Zc <| Zu <| Zu <| Zc <| Zu <| Zc <| Zu <| Zu <| Zc <| Zu ?_
    refine retQ_mk [_, _, _] L (.inr Z) (.agg (us := [_, _]) 1 Z Z Z Z Z (.nil)) Z (h1.t h2|>.t h3|>.t I7.1|>.t I14.1|>.t h16|>.t h17|>.t h20|>.t I24.1|>.t h26|>.t h28) (fun sR hS2 => ?_)
    exact ⟨by rw [hE]; rfl, rfl⟩
   have hid : identB w = true := by simpa using c27
   refine Zk <| Zb <| Zt <| Zr <| Zqm Z Z <| Zqadd Z Z Z (w64 O O) <| Zqa Z Z <| Zn <| ?_
   refine thenQ_n ⟨(j + 1), [], kp, Z, ⟨(I24.1.t h26), ⟨by omega, below_succ hP hw hid⟩⟩, O⟩
  obtain rfl : j = m1 := by omega
  refine Zl <| Zv <| Zv <| Zd <| Zt <| Zs <| Sr <| At Z Z <| Zp <| JC_loopX [_, _, _] (γ := Nat) (fun j => [(1, _), (2, _), (6, _), (7, _), (8, _), (9, _), (11, .int .i64 (j : Int))]) (fun j => L) (fun j tw => Le D s24 tw ∧ (j ≤ m2 ∧ ∀ i w, i < j → x.locals[i]? = some w → identB w = true)) (fun j => m2 - j) (fun _ _ _ h hl => ⟨h.1.trans hl, h.2⟩) 0 (.cons Z (.cons Z (.cons Z (.cons Z (.cons Z (.cons Z (.cons Z (.nil _)))))))) Z ⟨Le.refl _, ⟨Nat.zero_le _, fun i w hi => by omega⟩⟩ ?_
  intro j s29 I29
  simp only [cQ9, nQ9]
  have hj0 := I29.2.1
  have hQ := I29.2.2
  refine Zs <| Sr <| Zqm Z Z <| Wb Y5 <| Wl 0 Y6 <| Ws Y4 <| Zqlt Z Z Z <| Nt <| ?_
  refine JC_ifD Z (fun c30 => ?_) (fun c30 => ?_)
  ·
   have hj : j < m2 := by omega
   obtain ⟨bw, ow, w, rfl, hw, hcw, hwl⟩ := Strs.at_ (hlx.le (h16.t h17|>.t h20|>.t I24.1|>.t I29.1)) hj
   refine Zk <| Zt <| Zs <| Zp <| Sr <| Wb Y5 <| Wl 0 Y6 <| Zqm Z Z <| JO_q (QE_ia1 Z Z Z Z Z Z hj) Z <| JO_q (QE_ldsR0 Z Z Z (hcw.le (Lr D)) Z) Z <| Jc Z Z Z (rident_ac D _ _ w hwl) ?_
   rintro _ _ s31 h31 ⟨rfl, rfl⟩
   refine Zqno Z Z <| Nt <| ?_
   refine JC_ifM Z (fun c32 => ?_) (fun c32 => ?_)
   ·
    have hC := fnC_bad (c := ck) g74 g86 (List.mem_append_right _ (List.mem_of_getElem? hw)) (by simpa using c32)
    have hE : shapeF p = ((fnC x ck).2, ((ng + k : Nat) : Int)) := by rw [g44, hS2, fnF_at hx, if_pos (by rw [hC]; exact (by simp)), hn1]
    rw [hC] at hE
    refine Sr <| Zqm Z Z <| Jc Z Z Z (at_ac D _ _ _ _) ?_
    rintro _ _ s33 h33 ⟨rfl, rfl⟩
    refine Wt 1 [_, _] Y9 <| Nt <| Zo <| Zc <| Zu <| Zu <| Zc <| Zu <| Zc <| Zu <| Zu <| Zc <| Zu ?_
    refine retQ_mk [_, _, _] L (.inr Z) (.agg (us := [_, _]) 1 Z Z Z Z Z (.nil)) Z (h1.t h2|>.t h3|>.t I7.1|>.t I14.1|>.t h16|>.t h17|>.t h20|>.t I24.1|>.t I29.1|>.t h31|>.t h33) (fun sR hS2 => ?_)
    exact ⟨by rw [hE]; rfl, rfl⟩
   have hid : identB w = true := by simpa using c32
   refine Zk <| Zb <| Zt <| Zr <| Zqm Z Z <| Zqadd Z Z Z (w64 O O) <| Zqa Z Z <| Zn <| ?_
   refine thenQ_n ⟨(j + 1), [], kp, Z, ⟨(I29.1.t h31), ⟨by omega, below_succ hQ hw hid⟩⟩, O⟩
  obtain rfl : j = m2 := by omega
  have hC := fnC_all (c := ck) g74 g86 (fun i w hi h => hP i w O h) (fun i w hi h => hQ i w O h)
  refine Zl <| Zv <| Zv <| Zd <| Zt <| Sr <| At Z Z <| Sr <| Wb Y5 <| Wl 0 Y6 <| Zqm Z Z <| Jc Z Z Z (rws_ac D d _ _ 1 ck B3 m3 d3 x.body (hbx.le (h16.t h17|>.t h20|>.t I24.1|>.t I29.1)) hck O) ?_
  rintro _ _ s34 h34 ⟨rfl, rfl⟩
  refine Zqm Z Z <| Zqx Z Z Z <| Zqx Z Z Z <| Zqa Z Z <| At Z Z <| Sr <| Zqm Z Z <| Zqne Z Z Z <| Nt ?_
  refine JC_ifN Z (fun c35 => ?_) (fun c35 => ?_)
  ·
   have hE : shapeF p = ((fnC x ck).2, ((ng + k : Nat) : Int)) := by rw [g44, hS2, fnF_at hx, if_pos (by rw [hC]; exact c35), hn1]
   rw [hC] at hE
   refine Sr <| Zqm Z Z <| Zqm Z Z <| Jc Z Z Z (at_ac D _ _ _ _) ?_
   rintro _ _ s36 h36 ⟨rfl, rfl⟩
   refine Wt 1 [_, _] Y9 <| Nt <| Zo <| Zc <| Zu <| Zu <| Zc <| Zu <| ?_
   refine retQ_mk [_, _, _] L (.inr Z) (.agg (us := [_, _]) 1 Z Z Z Z Z (.nil)) Z (h1.t h2|>.t h3|>.t I7.1|>.t I14.1|>.t h16|>.t h17|>.t h20|>.t I24.1|>.t I29.1|>.t h34|>.t h36) (fun sR hS2 => ?_)
   exact ⟨by rw [hE]; rfl, rfl⟩
  have g60 : (wkSs x.body 1 ck).2 = 0 := c35
  refine Zk <| Zb <| Zt <| Zr <| Zqm Z Z <| Zqadd Z Z Z (w64 O O) <| Zqa Z Z <| Zn <| ?_
  refine thenQ_n ⟨(k + 1, (wkSs x.body 1 ck).1), [_], kp, Z, ⟨(I14.1.t h16|>.t h17|>.t h20|>.t I24.1|>.t I29.1|>.t h34), ⟨by simp only; omega, wkSs_count hck g60, by simp only; rw [hS2, fnF_at hx, hC, if_neg (fun h => h g60)]; rfl⟩⟩, (by simp only; omega)⟩
 rw [List.drop_eq_nil_of_le O] at hS2
 have hE : shapeF p = (0, 0) := by rw [g44, hS2]; rfl
 refine Zl <| Zv <| Zv <| Zd <| Zt <| Sr <| JO_q (QE_build [] [_, _] Z Z Z Z Z Z) Z <| Wt 0 [_, _] Y9 <| Nt <| Zo <| ?_
 refine retQ_mk [_, _] L (.inr Z) (.agg (us := [_, _]) 0 Z Z Z Z Z (.nil)) Z (h1.t h2|>.t h3|>.t I7.1|>.t I14.1) (fun sR hS2 => ?_)
 exact ⟨by rw [hE]; rfl, rfl⟩
theorem dec_more {w : Nat} (h : ¬ w < 10) : Lib.decDigits w = Lib.decDigits (w / 10) ++ Lib.decDigits (w % 10) := by
  rw [Lib.decDigits, dif_neg h, Lib.decDigits_one (i := w % 10) O]
theorem rem10 (n : Nat) : Value.int .u32 ((n : Int).tmod 10) = .int .u32 ((n % 10 : Nat) : Int) := by rw [Int.tmod_eq_emod_of_nonneg O]; rfl
theorem quo10 {n : Nat} (h : n < 4294967296) : Value.int .u32 (IntKind.u32.wrap ((n : Int).tdiv 10)) = .int .u32 ((n / 10 : Nat) : Int) := by
  rw [Int.tdiv_eq_ediv_of_nonneg O, IntKind.wrap_u32]; congr 1; omega
theorem dig48 {n : Nat} (h : n < 10) : Value.int .u8 (IntKind.u8.wrap (IntKind.u32.wrap (48 + (n : Int)))) = .int .u8 ((UInt8.ofNat (48 + n)).toNat : Int) := by
  rw [IntKind.wrap_u32, IntKind.wrap_u8]; congr 1; simp only [UInt8.toNat_ofNat']; omega
theorem bts_lit {s : World} {b : Nat} {l : List UInt8} (h : CellsAt s b 0 (bv l)) (hl : l.length ≤ 1000) : Bts s (some ⟨b, 0, none⟩) l.length l.length l := bts_pub (yc := []) (cc := l.length) (by simpa using h) (by simp) O
theorem decimalI_ac (D : Nat) (L : Hl) (s : World) (w : Nat) (hw : w < 4294967296) (ih : ∀ w', w' < w → ∀ (L : Hl) (s : World), AC Tryz.prog D 28 [.int .u32 (w' : Int)] L s fun v L' _ => v = St (Lib.decDigits w') ∧ L = L') : AC Tryz.prog D 28 [.int .u32 (w : Int)] L s fun v L' _ => v = St (Lib.decDigits w) ∧ L = L' := by
 refine AC_enter (TT := TT) (fn := Tryz.f28) TT_ok Tryz.func28 V Z Tryz.ntmps28 Z (rs := [.tmp 2]) Z [(0, _)] Z <| Sr <| At Z Z <| Zs <| Sr <| Zqm Z Z <| Zqlt Z Z Z <| Nt <| ?_
 refine JC_ifD Z (fun c1 => ?_) (fun c1 => ?_)
 ·
  have hw1 : w < 10 := by omega
  refine Sr <| Zqm Z Z <| JO_q (QE_add Z Z) Z <| JO_q (QE_cast (QE_conv Z Z Z Z Z) (dig48 hw1)) Z <| JO_bs [(_, _)] [_] Z Z Z Z Z Z Z Z Z ?_
  intro βn s2 h2 hcb
  refine JO_q (QE_b2s Z Z Z Z Z Z Z (bts_lit (l := [UInt8.ofNat (48 + w)]) (hcb.le (Lr D)) (by simp))) Z <| At Z Z <| Zo <| Zu <| ?_
  refine retQ_mk [] L (.inr Z) (.tmp Z (.nil)) Z h2 (fun sR hS2 => ?_)
  exact ⟨by rw [Lib.decDigits_one hw1]; rfl, rfl⟩
 have hw1 : ¬ w < 10 := by omega
 have hl1 := dec_len (u := w / 10) O
 have hl2 := dec_len (u := w % 10) O
 refine Zk <| Zt <| Sr <| Zqm Z Z <| JO_q (QE_cast (QE_quo Z Z (by decide)) (quo10 hw)) Z <| Jc Z Z Z (ih (w / 10) O _ _) ?_
 rintro _ _ s3 h3 ⟨rfl, rfl⟩
 refine Zqm Z Z <| JO_q (QE_cast (QE_rem Z Z (by decide)) (rem10 w)) Z <| Jc Z Z Z (ih (w % 10) O _ _) ?_
 rintro _ _ s4 h4 ⟨rfl, rfl⟩
 refine JO_q (QE_sadd Z Z O) Z <| At Z Z <| Zo <| ?_
 refine retQ_mk [] L (.inr Z) (.tmp Z (.nil)) Z (h3.t h4) (fun sR hS2 => ?_)
 exact ⟨by rw [dec_more hw1]; rfl, rfl⟩
theorem decimal_ac (D : Nat) (w : Nat) (hw : w < 4294967296) : ∀ (L : Hl) (s : World), AC Tryz.prog D 28 [.int .u32 (w : Int)] L s fun v L' _ => v = St (Lib.decDigits w) ∧ L = L' := by
  induction w using Nat.strongRecOn with
  | _ w ih => exact fun L s => decimalI_ac D L s w hw fun w' h => ih w' h O
theorem dec_ac (D : Nat) (L : Hl) (s : World) (n : Int) (hn : U32 n) : AC Tryz.prog D 28 [.int .u32 n] L s fun v L' _ => v = St (decS n) ∧ L = L' := by
  obtain ⟨w, rfl⟩ := Int.eq_ofNat_of_zero_le hn.1
  have := hn.2
  exact decimal_ac D w O L s
theorem comma_s0 {ws : List Str} {k : Nat} {x : Str} (h : ws[k]? = some x) (hk : ¬ 0 < k) : commaW (ws.take (k + 1)) = commaW (ws.take k) ++ x := by
  obtain rfl : k = 0 := by omega
  cases ws with
  | nil => cases h
  | cons y r => simp at h; subst h; rfl
theorem comma_app (l : List Str) (h : l ≠ []) (x : Str) : commaW (l ++ [x]) = commaW l ++ [44, 32] ++ x := by
  induction l with
  | nil => exact absurd rfl h
  | cons y r ih =>
    cases r with
    | nil => simp [commaW]
    | cons z r =>
      have := ih (by simp)
      simp only [List.cons_append] at this ⊢
      rw [commaW, this, commaW]; simp
theorem comma_s1 {ws : List Str} {k : Nat} {x : Str} (h : ws[k]? = some x) (hk : 0 < k) : commaW (ws.take (k + 1)) = commaW (ws.take k) ++ [44, 32] ++ x := by
  obtain ⟨hl, rfl⟩ := List.getElem?_eq_some_iff.1 h
  rw [List.take_succ_eq_append_getElem hl]
  exact comma_app _ (fun h => by have := congrArg List.length h; rw [List.length_take, List.length_nil] at this; omega) _
theorem totW_take (ws : List Str) (k : Nat) : totW (ws.take k) ≤ totW ws := by
  induction ws generalizing k with
  | nil => simp
  | cons x r ih =>
    cases k with
    | zero => simp [totW]
    | succ k => have := ih k; rw [List.take_succ_cons, totW_cons, totW_cons]; omega
def sgV : Str := [32, 33, 32, 45, 32, 126, 32, 42, 32, 47, 32, 37, 32, 60, 60, 32, 62, 62, 32, 38, 32, 43, 32, 45, 32, 124, 32, 94, 32, 61, 61, 32, 33, 61, 32, 60, 32, 60, 61, 32, 62, 32, 62, 61, 32, 38, 38, 32, 124, 124]
theorem sg_split : splitB 32 sgV = signL := by decide +kernel
def strT : Str := [32, 32, 32, 32, 53, 53, 53, 53, 53, 53, 52, 52, 52, 52, 51, 51, 51, 51, 51, 51, 50, 49]
theorem strT_at {j : Nat} (h4 : 4 ≤ j) (h : j ≤ 21) : ∃ ch, strT[j]? = some ch ∧ (ch.toNat : Int) - 48 = strg j := by
  have k : ∀ i : _root_.Fin 22, 4 ≤ i.val → strT[i.val]? = some (strT.getD i.val 0) ∧ ((strT.getD i.val 0).toNat : Int) - 48 = strg i.val := by decide +kernel
  exact ⟨_, k ⟨j, by omega⟩ h4⟩
theorem rcom_ac (D : Nat) (L : Hl) (s : World) (A : Option Addr) (n c : Nat) (ws : List Str) (hS : Strs s A n c ws) (hW : totW ws ≤ 1000000000) : AC Tryz.prog D 29 [.slice A n c] L s fun v L' _ => v = St (commaW ws) ∧ L = L' := by
 have hn := hS.1
 have hq := hS.2.1
 have hq2 := hS.2.2.1
 refine AC_enter (TT := TT) (fn := Tryz.f29) TT_ok Tryz.func29 V Z Tryz.ntmps29 Z (rs := [.tmp 2]) Z [(0, _)] Z <| Sr <| At Z Z <| Sr <| At Z Z <| Zs <| Sr <| At Z Z <| Zp <| JC_loop (γ := Nat) (fun k => [(0, _), (2, _), (3, St (commaW (ws.take k))), (4, .int .i64 (k : Int))]) (fun _ => _) (fun k tw => Le D s tw ∧ (k ≤ n)) (fun k => n - k) (fun _ _ _ h hl => ⟨h.1.trans hl, h.2⟩) 0 (.cons Z (.cons Z (.cons Z (.cons Z (.nil _))))) Z ⟨Le.refl _, Nat.zero_le _⟩ ?_
 intro k s1 I1
 have hk0 := I1.2
 refine Zs <| Sr <| Zqm Z Z <| Zqm Z Z <| Ws Y4 <| Zqlt Z Z Z <| Nt <| ?_
 refine JC_ifD Z (fun c2 => ?_) (fun c2 => ?_)
 ·
  have hk : k < n := by omega
  obtain ⟨b, off, x, rfl, hx, hcx, hxl⟩ := Strs.at_ (hS.le I1.1) hk
  have hcl := comma_len (ws.take (k + 1))
  have hct := totW_take ws (k + 1)
  refine Zk <| Zt <| Zs <| Zp <| Zs <| Sr <| Zqm Z Z <| Zqgt Z Z Z <| Nt <| ?_
  refine JC_ifD Z (fun c3 => ?_) (fun c3 => ?_)
  ·
   have g12 : 0 < k := by omega
   rw [comma_s1 hx g12] at hcl
   simp only [List.length_append, List.length_cons, List.length_nil] at hcl
   refine Zr <| Zqm Z Z <| JO_q (QE_sadd Z Z Uo) Z <| At Z Z <| Zr <| Zqm Z Z <| Zqm Z Z <| Zqm Z Z <| JO_q (QE_ia1 Z Z Z Z Z Z hk) Z <| JO_q (QE_ldsR0 Z Z Z (hcx.le (Lr D)) Z) Z <| JO_q (QE_sadd Z Z Ut) Z <| Zqa Z Z <| Zn <| Zb <| Zt <| Zr <| Zqm Z Z <| Zqadd Z Z Z (w64 O O) <| Zqa Z Z <| Zn <| ?_
   refine thenQ_n ⟨(k + 1), [], (.cons Z (.cons Z (.cons (by first | exact congrArg (fun l => some (St l)) (comma_s1 hx O).symm | exact congrArg (fun l => some (St l)) (comma_s0 hx O).symm) kp))), Z, ⟨I1.1, (show k + 1 ≤ n by omega)⟩, O⟩
  have g12 : ¬ 0 < k := by omega
  rw [comma_s0 hx g12] at hcl
  simp only [List.length_append, List.length_cons, List.length_nil] at hcl
  refine Zk <| Zt <| Zr <| Zqm Z Z <| Zqm Z Z <| Zqm Z Z <| JO_q (QE_ia1 Z Z Z Z Z Z hk) Z <| JO_q (QE_ldsR0 Z Z Z (hcx.le (Lr D)) Z) Z <| JO_q (QE_sadd Z Z Ut) Z <| Zqa Z Z <| Zn <| Zb <| Zt <| Zr <| Zqm Z Z <| Zqadd Z Z Z (w64 O O) <| Zqa Z Z <| Zn <| ?_
  refine thenQ_n ⟨(k + 1), [], (.cons Z (.cons Z (.cons (by first | exact congrArg (fun l => some (St l)) (comma_s1 hx O).symm | exact congrArg (fun l => some (St l)) (comma_s0 hx O).symm) kp))), Z, ⟨I1.1, (show k + 1 ≤ n by omega)⟩, O⟩
 obtain rfl : k = n := by omega
 refine Zl <| Zv <| Zv <| Zd <| Zt <| Sr <| Zqm Z Z <| At Z Z <| Zo <| ?_
 refine retQ_mk [] L (.inr Z) (.tmp Z (.nil)) Z I1.1 (fun sR hS2 => ?_)
 exact ⟨by rw [List.take_of_length_le O]; rfl, rfl⟩
theorem rsgn_ac (D : Nat) (L : Hl) (s : World) (o : Int) (ho : 1 ≤ o ∧ o ≤ 21) : AC Tryz.prog D 113 [.int .i64 o] L s fun v L' _ => v = St (sgnT o) ∧ L = L' := by
 obtain ⟨j, rfl⟩ : ∃ j : Nat, o = (j : Int) := Int.eq_ofNat_of_zero_le O
 refine AC_enter (TT := TT) (fn := Tryz.f113) TT_ok Tryz.func113 V Z Tryz.ntmps113 Z (rs := [.tmp 2]) Z [(0, _)] Z <| Sr <| At Z Z <| Sr <| Jc Z Z Z (split_ac D _ _ sgV 32 (by decide)) ?_
 rintro _ _ s1 h1 ⟨rfl, Ak, nk, ck, rfl, hK⟩
 rw [sg_split] at hK
 have hnk : nk = 22 := hK.1
 obtain ⟨bk, ok, xk, rfl, hxk, hck, _⟩ := Strs.at_ hK (show j < nk by omega)
 refine Zqm Z Z <| JO_q (QE_ia1 Z Z Z Z Z Z (show j < nk by omega)) Z <| JO_q (QE_ldsR0 Z Z Z (hck.le (Lr D)) Z) Z <| At Z Z <| Zo <| ?_
 refine retQ_mk [] L (.inr Z) (.tmp Z (.nil)) Z h1 (fun sR hS2 => ?_)
 refine ⟨?_, Z⟩
 rw [sgnT, Int.toNat_natCast, List.getD, hxk]; rfl
theorem rstr_ac (D : Nat) (L : Hl) (s : World) (o : Int) (ho : 4 ≤ o ∧ o ≤ 21) : AC Tryz.prog D 114 [.int .i64 o] L s fun v L' _ => v = .int .i64 (strg o) ∧ L = L' := by
 obtain ⟨j, rfl⟩ : ∃ j : Nat, o = (j : Int) := Int.eq_ofNat_of_zero_le O
 obtain ⟨ch, hch, hv⟩ := strT_at (j := j) O O
 have hc8 := ch.toNat_lt
 refine AC_enter (TT := TT) (fn := Tryz.f114) TT_ok Tryz.func114 V Z Tryz.ntmps114 Z (rs := [.tmp 2]) Z [(0, _)] Z <| Sr <| At Z Z <| Sr <| Zqm Z Z <| JO_q (QE_ix Z Z Z Z hch) Z <| JO_q (QE_cast (QE_conv Z Z Z Z Z) (show Value.int .i64 (IntKind.i64.wrap (ch.toNat : Int)) = .int .i64 (ch.toNat : Int) by rw [w64 O O])) Z <| JO_q (QE_sub' (c := strg j) Z Z (by rw [w64 O O]; exact hv)) Z <| At Z Z <| Zo <| ?_
 refine retQ_mk [] L (.inr Z) (.tmp Z (.nil)) Z (Lr D) (fun sR hS2 => ?_)
 exact ⟨rfl, rfl⟩
theorem rmar_ac (D : Nat) (L : Hl) (s : World) (lv : Nat) (hlv : lv ≤ 20) : AC Tryz.prog D 57 [.int .i64 (lv : Int)] L s fun v L' _ => v = St (margin lv) ∧ L = L' := by
 refine AC_enter (TT := TT) (fn := Tryz.f57) TT_ok Tryz.func57 V Z Tryz.ntmps57 Z (rs := [.tmp 2]) Z [(0, _)] Z <| Sr <| At Z Z <| Sr <| At Z Z <| Zs <| Sr <| At Z Z <| Zp <| JC_loop (γ := Nat) (fun k => [(0, _), (2, _), (3, St (margin k)), (4, .int .i64 (k : Int))]) (fun _ => _) (fun k tw => Le D s tw ∧ (k ≤ lv)) (fun k => lv - k) (fun _ _ _ h hl => ⟨h.1.trans hl, h.2⟩) 0 (.cons Z (.cons Z (.cons Z (.cons Z (.nil _))))) Z ⟨Le.refl _, Nat.zero_le _⟩ ?_
 intro k s1 I1
 have hk0 := I1.2
 have hml := margin_len k
 refine Zs <| Sr <| Zqm Z Z <| Zqm Z Z <| Zqlt Z Z Z <| Nt <| ?_
 refine JC_ifD Z (fun c2 => ?_) (fun c2 => ?_)
 ·
  have hk : k < lv := by omega
  refine Zk <| Zt <| Zs <| Zp <| Zr <| Zqm Z Z <| JO_q (QE_sadd Z Z Uo) Z <| Zqa Z Z <| Zn <| Zb <| Zt <| Zr <| Zqm Z Z <| Zqadd Z Z Z (w64 O O) <| Zqa Z Z <| Zn <| ?_
  refine thenQ_n ⟨(k + 1), [], kp, Z, ⟨I1.1, (show k + 1 ≤ lv by omega)⟩, O⟩
 obtain rfl : k = lv := by omega
 refine Zl <| Zv <| Zv <| Zd <| Zt <| Sr <| Zqm Z Z <| At Z Z <| Zo <| ?_
 refine retQ_mk [] L (.inr Z) (.tmp Z (.nil)) Z I1.1 (fun sR hS2 => ?_)
 exact ⟨rfl, rfl⟩
def EXR (D d : Nat) : Prop := ∀ (L : Hl) (s : World) (x : Ex) (A : Option Addr) (n c : Nat) (out : Int), Exs d s A n c x.args → U32 x.num → exV x = true → exN x ≤ 2000 → AC Tryz.prog D 85 [.agg #[.int .i64 x.kind, .int .i64 x.op, .int .u32 x.num, St x.name, .slice A n c], .int .i64 out] L s fun v L' _ => v = St (exT x out) ∧ L = L'
theorem exT_n7 {x : Ex} (hv : exV x = true) (h : ¬ x.kind = 7) (out : Int) : exT x out = exT x 0 := by
  have hk := exC_args (exV_eq hv).1
  rw [exT_out hk.1 hk.2.1 out, if_neg (fun k => h k.1)]
theorem exT_p7 {x : Ex} (hv : exV x = true) (h : x.kind = 7) {out : Int} (ho : strg x.op < out) : exT x out = [40] ++ exT x 0 ++ [41] := by
  have hk := exC_args (exV_eq hv).1
  rw [exT_out hk.1 hk.2.1 out, if_pos ⟨h, ho⟩]
theorem exT_o7 {x : Ex} (hv : exV x = true) (h : x.kind = 7) {out : Int} (ho : ¬ strg x.op < out) : exT x out = exT x 0 := by
  have hk := exC_args (exV_eq hv).1
  rw [exT_out hk.1 hk.2.1 out, if_neg (fun k => ho k.2)]
theorem rex_step (D d : Nat) (ih : ∀ e, d = e + 1 → EXR D e) (L : Hl) (s : World) (x : Ex) (A : Option Addr) (n c : Nat) (out : Int) (hA : Exs d s A n c x.args) (hu : U32 x.num) (hv : exV x = true) (hN : exN x ≤ 2000) : AC Tryz.prog D 85 [.agg #[.int .i64 x.kind, .int .i64 x.op, .int .u32 x.num, St x.name, .slice A n c], .int .i64 out] L s fun v L' _ => v = St (exT x out) ∧ L = L' := by
 have hxl := exT_len x 0 hv (exU_eq hu hA.u)
 have hC := exV_eq hv
 have hka := exC_args hC.1
 have hl := hA.1
 have hq1 := hA.2.1
 have hq2 := hA.2.2.1
 have hNx := exN_eq x
 have htw := exTs_len x.args [] hC.2 hA.u
 rw [exTs_nil] at htw
 refine AC_enter (TT := TT) (fn := Tryz.f85) TT_ok Tryz.func85 V Z Tryz.ntmps85 Z (rs := [.tmp 4]) Z [(0, _), (1, _)] Z <| Sr <| JO_boxA Z Z ?_
 intro β1 s1 h1
 refine At Z Z <| Sr <| At Z Z <| Zs <| ?_
 refine JC_cutB 16 (x.kind = 3 ∨ x.kind = 4) ?_ ?_
 ·
  refine Zr <| W0 Y5 <| Wl 0 Y6 <| Zqeq Z Z Z <| Zqm Z Z <| ?_
  refine JO_caseD (t := 12) Z (fun c3 => ?_) (fun c3 => ?_)
  ·
   refine Wf Y4 <| Wf Y4 <| Wf Y4 <| ZqT Z Z Z <| Zn <| ?_
   refine thenQ_n (MidB.mk (Lr D) Sb Z ((decide_eq_true O).symm))
  refine Zg Z Z <| W0 Y5 <| Zg Z Z <| Wl 0 Y6 <| Zg Z Z <| Zqeq Z Z Z <| ZqF Z Z Z <| Zn <| ?_
  refine thenQ_n (MidB.mk (Lr D) Sb Z (decide_eq_decide.2 O))
 intro s2 h2
 refine JC_ifD Z (fun c4 => ?_) (fun c4 => ?_)
 ·
  have g34 := c4
  have hn6 : n ≤ 6 := g34.elim (fun h => by have := args_1 hv (.inl h); omega) (fun h => by have := args_4 hv h; omega)
  refine Sr <| At Z Z <| Zp <| JC_loop (γ := Nat × Value × Hl) (fun g => [(1, _), (2, _), (4, _), (5, g.2.1), (6, .int .i64 (g.1 : Int))]) (fun g => _ :: (g.2.2 ++ L)) (fun g tw => Le D s2 tw ∧ (g.1 ≤ n ∧ FL.Own 9 1 g.2.2 g.2.1 g.1 (sb ((x.args.take g.1).map fun x => exT x 0)))) (fun g => n - g.1) (fun _ _ _ h hl => ⟨h.1.trans hl, h.2⟩) (0, .slice none 0 0, []) (.cons Z (.cons Z (.cons Z (.cons Z (.cons Z (.nil _)))))) Z ⟨Le.refl _, ⟨Nat.zero_le _, Own.nil⟩⟩ ?_
  intro g s5 I5
  obtain ⟨k, vo, Mo⟩ := g
  obtain ⟨hk0, hO⟩ := I5.2
  simp only at hk0 hO
  dsimp only
  refine Zs <| Sr <| Zqm Z Z <| Wb Y5 <| Wl 0 Y6 <| Ws Y4 <| Zqlt Z Z Z <| Nt <| ?_
  refine JC_ifD Z (fun c6 => ?_) (fun c6 => ?_)
  ·
   have hk : k < n := by omega
   obtain ⟨e, b, off, y, A', n', c', rfl, rfl, hx, hcy, hay, huy, hnl⟩ := Exs.at_ (hA.le (h1.t h2|>.t I5.1)) hk
   obtain ⟨hvy, hNy⟩ := exV_at hC.2 hx
   refine Zk <| Zt <| Zs <| Zp <| Zr <| Zqm Z Z <| Wb Y5 <| Wl 0 Y6 <| Zqm Z Z <| JO_q (QE_iaN Z Z Z Z Z Z hk) Z <| JO_q (QE_ldsA Z Z Z (hcy.le (Lr D)) Z) Z <| Jc Z Z Z (ih e Z _ _ y A' n' c' 0 (hay.le (Lr D)) huy hvy O) ?_
   rintro _ _ s7 h7 ⟨rfl, rfl⟩
   refine JO_bs [(_, _)] [_] Z Z Z Z Z Z Z Z Z ?_
   intro βn s8 h8 hcb
   refine JO_app (sz := 1) [_] Mo L Z Z Z Z Z Z Z hO (Row.of_cells (hcb.le (Lr D)) Z Z) ⟨by simp [ti9]; omega, by omega⟩ Z ?_
   intro vq Mq s9 h9 oq
   obtain ⟨Avq, cvq, rfl, _, _⟩ := Own.slice oq
   simp only [cQ9, nQ9]
   refine Zqa Z Z <| Zn <| Zb <| Zt <| Zr <| Zqm Z Z <| Zqadd Z Z Z (w64 O O) <| Zqa Z Z <| Zn <| ?_
   refine thenQ_n ⟨(k + 1, .slice Avq (k + 1) cvq, Mq), [], kp, Z, ⟨(I5.1.t h7|>.t h8|>.t h9), ⟨by simp only; omega, by rw [take_map_next (fun x => exT x 0) hx, sb_app]; exact oq⟩⟩, (by simp only; omega)⟩
  obtain rfl : k = n := by omega
  rw [List.take_of_length_le O] at hO
  obtain ⟨Ao, co, rfl, _, _⟩ := Own.slice hO
  refine Zl <| Zv <| Zv <| Zd <| Zt <| Zs <| Sr <| W0 Y5 <| Wl 0 Y6 <| Zqeq Z Z Z <| Nt ?_
  refine JC_ifD Z (fun c10 => ?_) (fun c10 => ?_)
  ·
   exfalso; omega --end
  refine Zk <| Zt <| Zs <| Sr <| W0 Y5 <| Wl 0 Y6 <| Zqeq Z Z Z <| Nt <| ?_
  refine JC_ifD Z (fun c11 => ?_) (fun c11 => ?_)
  ·
   exfalso; omega --end
  refine Zk <| Zt <| Zs <| Sr <| W0 Y5 <| Wl 0 Y6 <| Zqeq Z Z Z <| Nt <| ?_
  refine JC_ifD Z (fun c12 => ?_) (fun c12 => ?_)
  ·
   obtain ⟨y0, hy0⟩ : ∃ y, x.args[0]? = some y := ⟨_, List.getElem?_eq_getElem (show 0 < x.args.length by have := args_1 hv (.inl c12); omega)⟩
   have hT3 := exT_3 c12 (args_1 hv (.inl c12)) hy0
   have hT := (exT_n7 hv O out).trans hT3
   have hW : commaW (x.args.map fun x => exT x 0) = exT y0 0 := by rw [list1 (args_1 hv (.inl c12)) hy0]; rfl
   rw [← hW] at hT
   have hcl := comma_len (x.args.map fun x => exT x 0)
   have hnm := exC_name hC.1
   refine Zs <| JC_pubX [_] Mo _ ?_
   intro s13 h13 hpub13
   simp only [cQ9, nQ9]
   have hSt := Own.strs hO (exTs_mem hC.2 hA.u O) hpub13 (by rw [List.length_map]; omega)
   refine JC_draw drawsMixed 8 Z _ (fun _ h => h) ?_
   intro s14 h14
   refine za 0 Z (We Y4) Z <| za 1 Z (Wd 0 Y5) Z <| za 2 Z (QE_sadd Z Z Uo) Z <| za 3 Z (QE_mv Z) Z <| JA_1 4 V <| Jb Z trivial Z Z Z (rcom_ac D _ _ Ao _ co (x.args.map fun x => exT x 0) (hSt.le h14) O) ?_
   rintro _ _ s15 h15 ⟨rfl, rfl⟩
   refine ⟨fun _ _ h => h, ?_⟩
   refine za 5 Z (QE_sadd Z Z Uo) Z <| za 6 Z (QE_sadd Z Z Uo) Z <| za 7 Z (QE_as Z) Z <| JA_done V <| Zt <| Zo <| Zu <| ?_
   refine retQ_mk [_] L (.inr Z) (.tmp Z (.nil)) Z (h1.t h2|>.t I5.1|>.t h13|>.t h14|>.t h15) (fun sR hS2 => ?_)
   exact ⟨by rw [hT]; rfl, rfl⟩
  refine Zk <| Zt <| Zs <| Sr <| W0 Y5 <| Wl 0 Y6 <| Zqeq Z Z Z <| Nt <| ?_
  refine JC_ifD Z (fun c16 => ?_) (fun c16 => ?_)
  ·
   have hT := (exT_n7 hv O out).trans (exT_4 c16)
   rw [exTs_nil] at hT
   have hcl := comma_len (x.args.map fun x => exT x 0)
   have hnm := exC_name hC.1
   refine Zs <| JC_pubX [_] Mo _ ?_
   intro s17 h17 hpub17
   simp only [cQ9, nQ9]
   have hSt := Own.strs hO (exTs_mem hC.2 hA.u O) hpub17 (by rw [List.length_map]; omega)
   refine JC_draw drawsMixed 8 Z _ (fun _ h => h) ?_
   intro s18 h18
   refine za 0 Z (We Y4) Z <| za 1 Z (Wd 0 Y5) Z <| za 2 Z (QE_sadd Z Z Uo) Z <| za 3 Z (QE_mv Z) Z <| JA_1 4 V <| Jb Z trivial Z Z Z (rcom_ac D _ _ Ao _ co (x.args.map fun x => exT x 0) (hSt.le h18) O) ?_
   rintro _ _ s19 h19 ⟨rfl, rfl⟩
   refine ⟨fun _ _ h => h, ?_⟩
   refine za 5 Z (QE_sadd Z Z Uo) Z <| za 6 Z (QE_sadd Z Z Uo) Z <| za 7 Z (QE_as Z) Z <| JA_done V <| Zt <| Zo <| Zu <| ?_
   refine retQ_mk [_] L (.inr Z) (.tmp Z (.nil)) Z (h1.t h2|>.t I5.1|>.t h17|>.t h18|>.t h19) (fun sR hS2 => ?_)
   exact ⟨by rw [hT]; rfl, rfl⟩
  exfalso; omega --end
 have g34 := c4
 refine Zk <| Zt <| Zs <| Sr <| W0 Y5 <| Wl 0 Y6 <| Zqeq Z Z Z <| Nt <| ?_
 refine JC_ifD Z (fun c20 => ?_) (fun c20 => ?_)
 ·
  have hT := (exT_n7 hv O out).trans (exT_1 c20)
  refine Sr <| Wb Y5 <| Wl 0 Y6 <| Jc Z Z Z (dec_ac D _ _ _ hu) ?_
  rintro _ _ s21 h21 ⟨rfl, rfl⟩
  refine At Z Z <| Zo <| Zu <| ?_
  refine retQ_mk [_] L (.inr Z) (.tmp Z (.nil)) Z (h1.t h2|>.t h21) (fun sR hS2 => ?_)
  exact ⟨by rw [hT]; rfl, rfl⟩
 refine Zk <| Zt <| Zs <| Sr <| W0 Y5 <| Wl 0 Y6 <| Zqeq Z Z Z <| Nt <| ?_
 refine JC_ifD Z (fun c22 => ?_) (fun c22 => ?_)
 ·
  have hT := (exT_n7 hv O out).trans (exT_2 c22)
  refine Sr <| Wb Y5 <| Wl 0 Y6 <| At Z Z <| Zo <| Zu <| ?_
  refine retQ_mk [_] L (.inr Z) (.tmp Z (.nil)) Z (h1.t h2) (fun sR hS2 => ?_)
  exact ⟨by rw [hT]; rfl, rfl⟩
 refine Zk <| Zt <| Zs <| Sr <| W0 Y5 <| Wl 0 Y6 <| Zqeq Z Z Z <| Nt <| ?_
 refine JC_ifD Z (fun c23 => ?_) (fun c23 => ?_)
 ·
  exfalso; omega --end
 refine Zk <| Zt <| Zs <| Sr <| W0 Y5 <| Wl 0 Y6 <| Zqeq Z Z Z <| Nt <| ?_
 refine JC_ifD Z (fun c24 => ?_) (fun c24 => ?_)
 ·
  exfalso; omega --end
 refine Zk <| Zt <| Zs <| Sr <| W0 Y5 <| Wl 0 Y6 <| Zqeq Z Z Z <| Nt <| ?_
 refine JC_ifD Z (fun c25 => ?_) (fun c25 => ?_)
 ·
  have hT := (exT_n7 hv O out).trans (exT_5 c25)
  refine Sr <| At Z Z <| Zo <| Zu <| ?_
  refine retQ_mk [_] L (.inr Z) (.tmp Z (.nil)) Z (h1.t h2) (fun sR hS2 => ?_)
  exact ⟨by rw [hT]; rfl, rfl⟩
 refine Zk <| Zt <| Zs <| Sr <| W0 Y5 <| Wl 0 Y6 <| Zqeq Z Z Z <| Nt <| ?_
 refine JC_ifD Z (fun c26 => ?_) (fun c26 => ?_)
 ·
  have hl1 := args_1 hv (.inr c26)
  have hop := hka.2.2.2.2.1 c26
  obtain ⟨e, b, off, y, A1, n1, c1, rfl, rfl, hy, hcy, hay, huy, hnl⟩ := Exs.at_ (hA.le (h1.t h2)) (show 0 < n by omega)
  obtain ⟨hvy, hNy⟩ := exV_at hC.2 hy
  have hT := (exT_n7 hv O out).trans (exT_6 c26 hl1 hy)
  have hyl := exT_len y 9 hvy (exU_eq huy hay.u)
  have hsl := sgn_len x.op
  refine Zs <| JC_draw drawsMixed 10 Z _ (fun _ h => h) ?_
  intro s27 h27
  refine za 0 Z (We Y4) Z <| za 1 Z (Wd 0 Y5) Z <| za 3 Z (We Y4) Z <| za 4 Z (Wd 0 Y5) Z <| za 5 Z (QE_iaN (j := 0) Z Z Z Z Z Z O) Z <| za 6 Z (QE_ldsA Z Z Z (hcy.le h27) Z) Z <| JA_1 2 V <| Jb Z trivial Z Z Z (rsgn_ac D _ _ x.op O) ?_
  rintro _ _ s28 h28 ⟨rfl, rfl⟩
  refine ⟨fun _ _ h => h, ?_⟩
  refine JA_1 7 V <| Jb Z trivial Z Z Z (ih e Z _ _ y A1 n1 c1 9 (hay.le (h27.t h28)) huy hvy O) ?_
  rintro _ _ s29 h29 ⟨rfl, rfl⟩
  refine ⟨fun _ _ h => h, ?_⟩
  refine za 8 Z (QE_sadd Z Z O) Z <| za 9 Z (QE_as Z) Z <| JA_done V <| Zt <| Zo <| Zu <| ?_
  refine retQ_mk [_] L (.inr Z) (.tmp Z (.nil)) Z (h1.t h2|>.t h27|>.t h28|>.t h29) (fun sR hS2 => ?_)
  exact ⟨by rw [hT]; rfl, rfl⟩
 have h7 : x.kind = 7 := by omega
 have hl2 := args_2 hv h7
 have hop := hka.2.2.2.2.2 h7
 obtain ⟨e, b, off, y, A1, n1, c1, rfl, rfl, hy, hcy, hay, huy, hnl⟩ := Exs.at_ (hA.le (h1.t h2)) (show 0 < n by omega)
 obtain ⟨hvy, hNy⟩ := exV_at hC.2 hy
 obtain ⟨e', b', off', z, A2, n2, c2, hd2, hab, hz, hcz, haz, huz, hnz⟩ := Exs.at_ (hA.le (h1.t h2)) (show 1 < n by omega)
 cases hab
 obtain rfl : e = e' := by omega
 obtain ⟨hvz, hNz⟩ := exV_at hC.2 hz
 have hT0 := exT_7 h7 hl2 hy hz
 rw [hT0] at hxl
 simp only [List.length_append, List.length_cons, List.length_nil] at hxl
 have hsg := strg_le x.op
 refine Zk <| Zt <| Sr <| Wb Y5 <| Wl 0 Y6 <| Jc Z Z Z (rstr_ac D _ _ x.op O) ?_
 rintro _ _ s30 h30 ⟨rfl, rfl⟩
 refine At Z Z <| Zs <| JC_draw drawsMixed 21 Z _ (fun _ h => h) ?_
 intro s31 h31
 refine za 0 Z (We Y4) Z <| za 1 Z (Wd 0 Y5) Z <| za 2 Z (QE_iaN (j := 0) Z Z Z Z Z Z O) Z <| za 3 Z (QE_ldsA Z Z Z (hcy.le (h30.t h31)) Z) Z <| za 4 Z (QE_mv Z) Z <| za 7 Z (We Y4) Z <| za 8 Z (Wd 0 Y5) Z <| za 12 Z (We Y4) Z <| za 13 Z (Wd 0 Y5) Z <| za 14 Z (QE_iaN (j := 1) Z Z Z Z Z Z O) Z <| za 15 Z (QE_ldsA Z Z Z (hcz.le (h30.t h31)) Z) Z <| za 16 Z (QE_mv Z) Z <| za 17 Z (QE_add' (c := strg x.op + 1) Z Z (by rw [w64 O O])) Z <| JA_1 5 V ?_
 refine Jb Z trivial Z Z Z (ih e Z _ _ y A1 n1 c1 (strg x.op) (hay.le (h30.t h31)) huy hvy O) ?_
 rintro _ _ s32 h32 ⟨rfl, rfl⟩
 refine ⟨fun _ _ h => h, ?_⟩
 refine za 6 Z (QE_sadd Z Z Uo) Z <| JA_1 9 V <| Jb Z trivial Z Z Z (rsgn_ac D _ _ x.op O) ?_
 rintro _ _ s33 h33 ⟨rfl, rfl⟩
 refine ⟨fun _ _ h => h, ?_⟩
 refine za 10 Z (QE_sadd Z Z Uo) Z <| za 11 Z (QE_sadd Z Z Uo) Z <| JA_1 18 V <| Jb Z trivial Z Z Z (ih e Z _ _ z A2 n2 c2 (strg x.op + 1) (haz.le (h30.t h31|>.t h32|>.t h33)) huz hvz O) ?_
 rintro _ _ s34 h34 ⟨rfl, rfl⟩
 refine ⟨fun _ _ h => h, ?_⟩
 refine za 19 Z (QE_sadd Z Z Uo) Z <| za 20 Z (QE_as Z) Z <| JA_done V <| Zt <| Zs <| Sr <| Zqm Z Z <| Zqm Z Z <| Zqlt Z Z Z <| Nt <| ?_
 refine JC_ifD Z (fun c35 => ?_) (fun c35 => ?_)
 ·
  have hT := (exT_p7 hv h7 c35).trans (by rw [hT0])
  refine Sr <| Zqm Z Z <| JO_q (QE_sadd Z Z Uo) Z <| JO_q (QE_sadd Z Z Uo) Z <| At Z Z <| Zo <| Zu <| ?_
  refine retQ_mk [_] L (.inr Z) (.tmp Z (.nil)) Z (h1.t h2|>.t h30|>.t h31|>.t h32|>.t h33|>.t h34) (fun sR hS2 => ?_)
  exact ⟨by rw [hT]; rfl, rfl⟩
 have hT := (exT_o7 hv h7 c35).trans hT0
 refine Zk <| Zt <| Sr <| Zqm Z Z <| At Z Z <| Zo <| ?_
 refine retQ_mk [_] L (.inr Z) (.tmp Z (.nil)) Z (h1.t h2|>.t h30|>.t h31|>.t h32|>.t h33|>.t h34) (fun sR hS2 => ?_)
 exact ⟨by rw [hT]; rfl, rfl⟩
theorem rex_ac (D : Nat) : ∀ d, EXR D d
  | 0 => fun L s x A n c out hA hu hv hN => rex_step D 0 (fun e h => by omega) L s x A n c out hA hu hv hN
  | d + 1 => fun L s x A n c out hA hu hv hN => rex_step D (d + 1) (fun e h => (show d = e by omega) ▸ rex_ac D d) L s x A n c out hA hu hv hN
def RTC (D d : Nat) : Prop := ∀ (L : Hl) (s : World) (x : Stm) (A1 A2 A3 : Option Addr) (n1 q1 n2 q2 n3 q3 : Nat) (lv : Nat), Exs d s A1 n1 q1 x.exprs → Stms d s A2 n2 q2 x.body → Stms d s A3 n3 q3 x.els → stV x lv = true → stN x ≤ 2000 → AC Tryz.prog D 58 [.agg #[.int .i64 x.kind, St x.name, .slice A1 n1 q1, .slice A2 n2 q2, .slice A3 n3 q3], .int .i64 (lv : Int)] L s fun v L' _ => v = St (stT x lv) ∧ L = L'
def RSS (D d : Nat) : Prop := ∀ (L : Hl) (s : World) (A : Option Addr) (n c : Nat) (xs : List Stm) (lv : Nat), Stms d s A n c xs → stVs xs lv = true → stNs xs ≤ 2000 → lv ≤ 17 → AC Tryz.prog D 30 [.slice A n c, .int .i64 (lv : Int)] L s fun v L' _ => v = St (stTs xs lv) ∧ L = L'
theorem totW_get {l : List Str} {i : Nat} {w : Str} (h : l[i]? = some w) : w.length + 2 ≤ totW l := by
  induction l generalizing i with
  | nil => cases h
  | cons x r ih =>
    rw [totW_cons]
    cases i with
    | zero => simp at h; subst h; omega
    | succ i => have := ih (by simpa using h); omega
theorem stTs_take {xs : List Stm} {k lv : Nat} {x : Stm} (h : xs[k]? = some x) : stTs (xs.take (k + 1)) lv = stTs (xs.take k) lv ++ margin lv ++ stT x lv := by
  induction xs generalizing k with
  | nil => cases h
  | cons y r ih =>
    cases k with
    | zero => simp at h; subst h; simp [stTs]
    | succ k => rw [List.take_succ_cons, List.take_succ_cons, stTs, stTs, ih (by simpa using h)]; simp
theorem stTs_tlen {xs : List Stm} {lv : Nat} (k : Nat) : (stTs (xs.take k) lv).length ≤ (stTs xs lv).length := by
  induction xs generalizing k with
  | nil => simp
  | cons y r ih =>
    cases k with
    | zero => simp [stTs]
    | succ k => have := ih k; rw [List.take_succ_cons, stTs, stTs]; simp only [List.length_append]; omega
section
variable {x z : Stm} {lv : Nat} {w0 w1 wd : Str}
theorem rt_1 (h : x.kind = 1) (h0 : (exTs x.exprs [])[0]? = some w0) : stT x lv = x.name ++ [32, 61, 32] ++ w0 ++ [59, 10] := by
  rw [stT_w O, stW0, if_pos h, List.getD, h0]; rfl
theorem rt_2 (h : x.kind = 2) (h0 : (exTs x.exprs [])[0]? = some w0) (h1 : (exTs x.exprs [])[1]? = some w1) : stT x lv = x.name ++ [91] ++ w0 ++ [93, 32, 61, 32] ++ w1 ++ [59, 10] := by
  rw [stT_w O, stW0, if_neg O, if_pos h, List.getD, h0, List.getD, h1]; rfl
theorem rt_5 (h : x.kind = 5) : stT x lv = x.name ++ [40] ++ commaW (exTs x.exprs []) ++ [41, 59, 10] := by
  rw [stT_w O, stW0, if_neg O, if_neg O, if_pos h]
theorem rt_6 (h : x.kind = 6) : stT x lv = [114, 101, 116, 117, 114, 110, 32] ++ commaW (exTs x.exprs []) ++ [59, 10] := by
  rw [stT_w O, stW0, if_neg O, if_neg O, if_neg O, if_pos h]
theorem rt_7 (h : x.kind = 7) : stT x lv = [112, 117, 116, 32] ++ commaW (exTs x.exprs []) ++ [59, 10] := by
  rw [stT_w O, stW0, if_neg O, if_neg O, if_neg O, if_neg O, if_pos h]
theorem rt_8 (h : x.kind = 8) : stT x lv = [115, 116, 111, 112, 32] ++ commaW (exTs x.exprs []) ++ [59, 10] := by
  rw [stT_w O, stW0, if_neg O, if_neg O, if_neg O, if_neg O, if_neg O, if_pos h]
theorem rt_9 (h : x.kind = 9) : stT x lv = [98, 114, 101, 97, 107] ++ commaW (exTs x.exprs []) ++ [59, 10] := by
  rw [stT_w O, stW0, if_neg O, if_neg O, if_neg O, if_neg O, if_neg O, if_neg O, if_pos h]
theorem rt_10 (h : x.kind = 10) : stT x lv = [99, 111, 110, 116, 105, 110, 117, 101] ++ commaW (exTs x.exprs []) ++ [59, 10] := by
  rw [stT_w O, stW0, if_neg O, if_neg O, if_neg O, if_neg O, if_neg O, if_neg O, if_neg O]
theorem rt_h (h : x.kind = 3 ∨ x.kind = 4) (h0 : (exTs x.exprs [])[0]? = some w0) (hw : (if x.kind = 3 then [105, 102] else [119, 104, 105, 108, 101]) = wd) : stT x lv = wd ++ [32, 40] ++ w0 ++ [41, 32, 123, 10] ++ stTs x.body (lv + 1) ++ margin lv ++ [125] ++ (if x.els.isEmpty = true then [10] else if isIf x.els = true then [32, 101, 108, 115, 101, 32] ++ st1 x.els lv else [32, 101, 108, 115, 101, 32, 123, 10] ++ stTs x.els (lv + 1) ++ margin lv ++ [125, 10]) := by
  cases x with
  | mk k nm es b e =>
    have h : k = 3 ∨ k = 4 := h
    have h0 : (exTs es [])[0]? = some w0 := h0
    have hw : (if k = 3 then [105, 102] else [119, 104, 105, 108, 101]) = wd := hw
    simp only [stT]; rw [if_pos h, hw, List.getD, h0]; rfl
theorem rt_a (h : x.kind = 3 ∨ x.kind = 4) (h0 : (exTs x.exprs [])[0]? = some w0) (hw : (if x.kind = 3 then [105, 102] else [119, 104, 105, 108, 101]) = wd) (he : x.els = []) : stT x lv = wd ++ [32, 40] ++ w0 ++ [41, 32, 123, 10] ++ stTs x.body (lv + 1) ++ margin lv ++ [125] ++ [10] := by
  rw [rt_h h h0 hw, he]; rfl
theorem rt_b (h : x.kind = 3 ∨ x.kind = 4) (h0 : (exTs x.exprs [])[0]? = some w0) (hw : (if x.kind = 3 then [105, 102] else [119, 104, 105, 108, 101]) = wd) (hl : x.els.length = 1) (hz : x.els[0]? = some z) (hk : z.kind = 3) : stT x lv = wd ++ [32, 40] ++ w0 ++ [41, 32, 123, 10] ++ stTs x.body (lv + 1) ++ margin lv ++ [125] ++ [32, 101, 108, 115, 101, 32] ++ stT z lv := by
  rw [rt_h h h0 hw, list1 hl hz]
  cases z with
  | mk k nm es b l =>
    have hk : k = 3 := hk
    rw [if_neg (by simp), if_pos (by simp [isIf, hk])]; simp [st1]
theorem rt_c (h : x.kind = 3 ∨ x.kind = 4) (h0 : (exTs x.exprs [])[0]? = some w0) (hw : (if x.kind = 3 then [105, 102] else [119, 104, 105, 108, 101]) = wd) (hl : x.els.length ≠ 0) (hn : ¬ (x.els.length = 1 ∧ ∀ z, x.els[0]? = some z → z.kind = 3)) : stT x lv = wd ++ [32, 40] ++ w0 ++ [41, 32, 123, 10] ++ stTs x.body (lv + 1) ++ margin lv ++ [125] ++ [32, 101, 108, 115, 101, 32, 123, 10] ++ stTs x.els (lv + 1) ++ margin lv ++ [125, 10] := by
  rw [rt_h h h0 hw, if_neg (by intro g; exact hl (by simpa using g)), if_neg]
  · simp
  · intro g
    match he : x.els, g with
    | [.mk k nm es b l], g => exact hn ⟨by rw [he]; rfl, fun z hz => by rw [he] at hz; simp at hz; subst hz; show k = 3; simpa [isIf] using g⟩
end
theorem rss_step (D d : Nat) (ih : ∀ e, d = e + 1 → RTC D e) (L : Hl) (s : World) (A : Option Addr) (n c : Nat) (xs : List Stm) (lv : Nat) (hA : Stms d s A n c xs) (hv : stVs xs lv = true) (hN : stNs xs ≤ 2000) (hlv : lv ≤ 17) : AC Tryz.prog D 30 [.slice A n c, .int .i64 (lv : Int)] L s fun v L' _ => v = St (stTs xs lv) ∧ L = L' := by
 have hn := hA.1
 have hc1 := hA.2.1
 have hc2 := hA.2.2.1
 have hml := margin_len lv
 have htl := stTs_len xs lv hv hA.u
 refine AC_enter (TT := TT) (fn := Tryz.f30) TT_ok Tryz.func30 V Z Tryz.ntmps30 Z (rs := [.tmp 4]) Z [(0, _), (1, _)] Z <| Sr <| At Z Z <| Sr <| At Z Z <| Zs <| Sr <| At Z Z <| Zp <| JC_loop (γ := Nat) (fun k => [(0, _), (1, _), (4, _), (5, St (stTs (xs.take k) lv)), (6, .int .i64 (k : Int))]) (fun _ => _) (fun k tw => Le D s tw ∧ (k ≤ n)) (fun k => n - k) (fun _ _ _ h hl => ⟨h.1.trans hl, h.2⟩) 0 (.cons Z (.cons Z (.cons Z (.cons Z (.cons Z (.nil _)))))) Z ⟨Le.refl _, Nat.zero_le _⟩ ?_
 intro k s1 I1
 have hk0 := I1.2
 have htk := stTs_tlen (xs := xs) (lv := lv) k
 refine Zs <| Sr <| Zqm Z Z <| Zqm Z Z <| Ws Y4 <| Zqlt Z Z Z <| Nt <| ?_
 refine JC_ifD Z (fun c2 => ?_) (fun c2 => ?_)
 ·
  have hk : k < n := by omega
  obtain ⟨e, b, off, x, A1, n1, p1, A2, n2, p2, A3, n3, p3, hd, rfl, hx, hcx, hax, hbx, hex, hnl⟩ := Stms.at_ (hA.le I1.1) hk
  obtain ⟨hvx, hNx⟩ := stV_at hv hx
  have hxs := stT_len x lv hvx (Stms.u_at hA.u hx)
  refine Zk <| Zt <| Zs <| Zp <| JC_draw drawsMixed 12 Z _ (fun _ h => h) ?_
  intro s3 h3
  refine za 0 Z (QE_mv Z) Z <| za 1 Z (QE_mv Z) Z <| za 4 Z (QE_mv Z) Z <| za 5 Z (QE_mv Z) Z <| za 6 Z (QE_iaN Z Z Z Z Z Z hk) Z <| za 7 Z (QE_ldsA Z Z Z (hcx.le h3) Z) Z <| za 8 Z (QE_mv Z) Z <| JA_1 2 V <| Jb Z trivial Z Z Z (rmar_ac D _ _ lv O) ?_
  rintro _ _ s4 h4 ⟨rfl, rfl⟩
  refine ⟨fun _ _ h => h, ?_⟩
  refine za 3 Z (QE_sadd Z Z Ut) Z <| JA_1 9 V <| Jb Z trivial Z Z Z (ih e hd _ _ x A1 A2 A3 n1 p1 n2 p2 n3 p3 lv (hax.le (h3.t h4)) (hbx.le (h3.t h4)) (hex.le (h3.t h4)) hvx O) ?_
  rintro _ _ s5 h5 ⟨rfl, rfl⟩
  refine ⟨fun _ _ h => h, ?_⟩
  refine za 10 Z (QE_sadd Z Z Ut) Z <| za 11 Z (QE_as Z) Z <| JA_done V <| Zb <| Zt <| Zr <| Zqm Z Z <| Zqadd Z Z Z (w64 O O) <| Zqa Z Z <| Zn <| ?_
  refine thenQ_n ⟨(k + 1), [], (.cons Z (.cons Z (.cons Z (.cons (congrArg (fun l => some (St l)) (stTs_take hx).symm) kp)))), Z, ⟨(I1.1.t h3|>.t h4|>.t h5), (show k + 1 ≤ n by omega)⟩, O⟩
 obtain rfl : k = n := by omega
 refine Zl <| Zv <| Zv <| Zd <| Zt <| Sr <| Zqm Z Z <| At Z Z <| Zo <| ?_
 refine retQ_mk [] L (.inr Z) (.tmp Z (.nil)) Z I1.1 (fun sR hS2 => ?_)
 exact ⟨by rw [List.take_of_length_le O]; rfl, rfl⟩
theorem mostS_le (k : Int) : mostS k ≤ 6 := by
  unfold mostS
  repeat' split
  all_goals decide
theorem rtc_step (D d : Nat) (hB : RSS D d) (ih : ∀ e, d = e + 1 → RTC D e) (L : Hl) (s : World) (x : Stm) (A1 A2 A3 : Option Addr) (n1 q1 n2 q2 n3 q3 : Nat) (lv : Nat) (hA1 : Exs d s A1 n1 q1 x.exprs) (hA2 : Stms d s A2 n2 q2 x.body) (hA3 : Stms d s A3 n3 q3 x.els) (hv : stV x lv = true) (hN : stN x ≤ 2000) : AC Tryz.prog D 58 [.agg #[.int .i64 x.kind, St x.name, .slice A1 n1 q1, .slice A2 n2 q2, .slice A3 n3 q3], .int .i64 (lv : Int)] L s fun v L' _ => v = St (stT x lv) ∧ L = L' := by
 have hn := hA1.1
 have hn3 := hA3.1
 have hq := hA1.2.1
 have hq9 := hA1.2.2.1
 have hml := margin_len lv
 obtain ⟨hlv, hC, hvE, hvB, hvL⟩ := stV_eq hv
 have hka := stC_args hC
 have hNs := stN_eq x
 have htw := exTs_len x.exprs [] hvE hA1.u
 have hbl := stTs_len x.body (lv + 1) hvB hA2.u
 have hel := stTs_len x.els (lv + 1) hvL hA3.u
 have hnm := stC_name hC
 have hn6 : n1 ≤ 6 := by have h := hka.2.2.2.1; have := mostS_le x.kind; omega
 refine AC_enter (TT := TT) (fn := Tryz.f58) TT_ok Tryz.func58 V Z Tryz.ntmps58 Z (rs := [.tmp 4]) Z [(0, _), (1, _)] Z <| Sr <| JO_boxA Z Z ?_
 intro β1 s1 h1
 refine At Z Z <| Sr <| At Z Z <| Zs <| Sr <| At Z Z <| Zp <| JC_loop (γ := Nat × Value × Hl) (fun g => [(1, _), (2, _), (4, _), (5, g.2.1), (6, .int .i64 (g.1 : Int))]) (fun g => _ :: (g.2.2 ++ L)) (fun g tw => Le D s1 tw ∧ (g.1 ≤ n1 ∧ FL.Own 9 1 g.2.2 g.2.1 g.1 (sb ((x.exprs.take g.1).map fun x => exT x 0)))) (fun g => n1 - g.1) (fun _ _ _ h hl => ⟨h.1.trans hl, h.2⟩) (0, .slice none 0 0, []) (.cons Z (.cons Z (.cons Z (.cons Z (.cons Z (.nil _)))))) Z ⟨Le.refl _, ⟨Nat.zero_le _, Own.nil⟩⟩ ?_
 intro g s2 I2
 obtain ⟨k, vo, Mo⟩ := g
 obtain ⟨hk0, hO⟩ := I2.2
 simp only at hk0 hO
 dsimp only
 refine Zs <| Sr <| Zqm Z Z <| Wb Y5 <| Wl 0 Y6 <| Ws Y4 <| Zqlt Z Z Z <| Nt <| ?_
 refine JC_ifD Z (fun c3 => ?_) (fun c3 => ?_)
 ·
  have hk : k < n1 := by omega
  obtain ⟨e, b, off, y, A', n', c', hd, rfl, hx, hcy, hay, huy, hnl⟩ := Exs.at_ (hA1.le (h1.t I2.1)) hk
  obtain ⟨hvy, hNy⟩ := exV_at hvE hx
  refine Zk <| Zt <| Zs <| Zp <| Zr <| Zqm Z Z <| Wb Y5 <| Wl 0 Y6 <| Zqm Z Z <| JO_q (QE_iaN Z Z Z Z Z Z hk) Z <| JO_q (QE_ldsA Z Z Z (hcy.le (Lr D)) Z) Z <| Jc Z Z Z (rex_ac D e _ _ y A' n' c' 0 (hay.le (Lr D)) huy hvy O) ?_
  rintro _ _ s4 h4 ⟨rfl, rfl⟩
  refine JO_bs [(_, _)] [_] Z Z Z Z Z Z Z Z Z ?_
  intro βn s5 h5 hcb
  refine JO_app (sz := 1) [_] Mo L Z Z Z Z Z Z Z hO (Row.of_cells (hcb.le (Lr D)) Z Z) ⟨by simp [ti9]; omega, by omega⟩ Z ?_
  intro vq Mq s6 h6 oq
  obtain ⟨Avq, cvq, rfl, _, _⟩ := Own.slice oq
  simp only [cQ9, nQ9]
  refine Zqa Z Z <| Zn <| Zb <| Zt <| Zr <| Zqm Z Z <| Zqadd Z Z Z (w64 O O) <| Zqa Z Z <| Zn <| ?_
  refine thenQ_n ⟨(k + 1, .slice Avq (k + 1) cvq, Mq), [], kp, Z, ⟨(I2.1.t h4|>.t h5|>.t h6), ⟨by simp only; omega, by rw [take_map_next (fun x => exT x 0) hx, sb_app]; exact oq⟩⟩, (by simp only; omega)⟩
 obtain rfl : n1 = k := by omega
 rw [List.take_of_length_le O] at hO
 obtain ⟨Ao, co, rfl, _, _⟩ := Own.slice hO
 refine Zl <| Zv <| Zv <| Zd <| Zt <| Zs <| Zs <| JC_pubX [_] Mo _ ?_
 intro s7 h7 hpub7
 simp only [cQ9, nQ9]
 have hSt := Own.strs hO (exTs_mem hvE hA1.u O) hpub7 (by rw [List.length_map]; omega)
 refine Zr <| W0 Y5 <| Wl 0 Y6 <| Zqeq Z Z Z <| Nt <| ?_
 refine JC_ifD Z (fun c8 => ?_) (fun c8 => ?_)
 ·
  have hl1 := stA_1 hv (.inl c8)
  obtain ⟨b0, o0, w0, hb0, hw0, hcw, hwl⟩ := Strs.at_ (hSt.le (Lr D)) (show 0 < n1 by omega)
  cases hb0
  rw [← exTs_nil] at hw0
  have hg0 := totW_get hw0
  have hT := rt_1 (lv := lv) c8 hw0
  refine Zs <| JC_draw drawsMixed 9 Z _ (fun _ h => h) ?_
  intro s9 h9
  refine za 0 Z (We Y4) Z <| za 1 Z (Wd 0 Y5) Z <| za 2 Z (QE_sadd Z Z Uo) Z <| za 3 Z (QE_mv Z) Z <| za 4 Z (QE_ia1 (j := 0) Z Z Z Z Z Z (show 0 < n1 by omega)) Z <| za 5 Z (QE_ldsR0 Z Z Z (hcw.le h9) Z) Z <| za 6 Z (QE_sadd Z Z Uo) Z <| za 7 Z (QE_sadd Z Z Uo) Z <| za 8 Z (QE_as Z) Z <| JA_done V <| Zt <| Zo <| Zu <| ?_
  refine retQ_mk [_] L (.inr Z) (.tmp Z (.nil)) Z (h1.t I2.1|>.t h7|>.t h9) (fun sR hS2 => ?_)
  exact ⟨by rw [hT]; rfl, rfl⟩
 refine Zk <| Zt <| Zs <| Sr <| W0 Y5 <| Wl 0 Y6 <| Zqeq Z Z Z <| Nt <| ?_
 refine JC_ifD Z (fun c10 => ?_) (fun c10 => ?_)
 ·
  have hl1 := stA_2 hv c10
  obtain ⟨b0, o0, w0, hb0, hw0, hcw, hwl⟩ := Strs.at_ (hSt.le (Lr D)) (show 0 < n1 by omega)
  cases hb0
  rw [← exTs_nil] at hw0
  have hg0 := totW_get hw0
  obtain ⟨b1, o1, w1, hb1, hw1, hcw1, hwl1⟩ := Strs.at_ (hSt.le (Lr D)) (show 1 < n1 by omega)
  cases hb1
  rw [← exTs_nil] at hw1
  have hg1 := totW_get hw1
  have hT := rt_2 (lv := lv) c10 hw0 hw1
  refine Zs <| JC_draw drawsMixed 14 Z _ (fun _ h => h) ?_
  intro s11 h11
  refine za 0 Z (We Y4) Z <| za 1 Z (Wd 0 Y5) Z <| za 2 Z (QE_sadd Z Z Uo) Z <| za 3 Z (QE_mv Z) Z <| za 4 Z (QE_ia1 (j := 0) Z Z Z Z Z Z (show 0 < n1 by omega)) Z <| za 5 Z (QE_ldsR0 Z Z Z (hcw.le h11) Z) Z <| za 6 Z (QE_sadd Z Z Uo) Z <| za 7 Z (QE_sadd Z Z Uo) Z <| za 8 Z (QE_mv Z) Z <| za 9 Z (QE_ia1 (j := 1) Z Z Z Z Z Z (show 1 < n1 by omega)) Z <| za 10 Z (QE_ldsR0 Z Z Z (hcw1.le h11) Z) Z <| za 11 Z (QE_sadd Z Z Uo) Z <| za 12 Z (QE_sadd Z Z Uo) Z <| za 13 Z (QE_as Z) Z <| JA_done V <| Zt <| Zo <| Zu <| ?_
  refine retQ_mk [_] L (.inr Z) (.tmp Z (.nil)) Z (h1.t I2.1|>.t h7|>.t h11) (fun sR hS2 => ?_)
  exact ⟨by rw [hT]; rfl, rfl⟩
 refine Zk <| Zt <| Zs <| Sr <| W0 Y5 <| Wl 0 Y6 <| Zqeq Z Z Z <| Nt <| ?_
 refine JC_ifD Z (fun c12 => ?_) (fun c12 => ?_)
 ·
  have hT := rt_5 (lv := lv) c12
  rw [exTs_nil] at hT htw
  have hcl := comma_len (x.exprs.map fun x => exT x 0)
  refine Zs <| JC_draw drawsMixed 8 Z _ (fun _ h => h) ?_
  intro s13 h13
  refine za 0 Z (We Y4) Z <| za 1 Z (Wd 0 Y5) Z <| za 2 Z (QE_sadd Z Z Uo) Z <| za 3 Z (QE_mv Z) Z <| JA_1 4 V <| Jb Z trivial Z Z Z (rcom_ac D _ _ Ao _ co (x.exprs.map fun x => exT x 0) (hSt.le h13) O) ?_
  rintro _ _ s14 h14 ⟨rfl, rfl⟩
  refine ⟨fun _ _ h => h, ?_⟩
  refine za 5 Z (QE_sadd Z Z Uo) Z <| za 6 Z (QE_sadd Z Z Uo) Z <| za 7 Z (QE_as Z) Z <| JA_done V <| Zt <| Zo <| Zu <| ?_
  refine retQ_mk [_] L (.inr Z) (.tmp Z (.nil)) Z (h1.t I2.1|>.t h7|>.t h13|>.t h14) (fun sR hS2 => ?_)
  exact ⟨by rw [hT]; rfl, rfl⟩
 refine Zk <| Zt <| Zs <| Sr <| W0 Y5 <| Wl 0 Y6 <| Zqgt Z Z Z <| Nt <| ?_
 refine JC_ifD Z (fun c15 => ?_) (fun c15 => ?_)
 ·
  rw [exTs_nil] at htw
  have hcl := comma_len (x.exprs.map fun x => exT x 0)
  refine Sr <| JO_bs [(_, _), (_, _), (_, _), (_, _), (_, _)] [_, _, _, _, _] Z Z Z Z Z Z Z Z Z ?_
  intro βr s16 h16 hcr
  refine At Z Z <| Zs <| ?_
  rcases (show x.kind = 6 ∨ x.kind = 7 ∨ x.kind = 8 ∨ x.kind = 9 ∨ x.kind = 10 by omega) with gk6 | gk7 | gk8 | gk9 | gk10
  ·
   have hT := rt_6 (lv := lv) gk6
   rw [exTs_nil] at hT
   refine JC_draw drawsMixed 11 Z _ (fun _ h => h) ?_
   intro s17 h17
   refine za 0 Z (QE_mv Z) Z <| za 1 Z (QE_fa0 Z Z Z Z) Z <| za 2 Z (Wd 0 Y5) Z <| za 3 Z (QE_sub' (c := ((0 : Nat) : Int)) Z Z (by rw [w64 O O]; omega)) Z <| za 4 Z (QE_ia1 Z Z Z Z Z Z (show 0 < 5 by omega)) Z <| za 5 Z (QE_ldsR0 Z Z Z (hcr.le h17) Z) Z <| za 6 Z (QE_mv Z) Z <| JA_1 7 V <| Jb Z trivial Z Z Z (rcom_ac D _ _ Ao _ co (x.exprs.map fun x => exT x 0) (hSt.le (h16.t h17)) O) ?_
   rintro _ _ s18 h18 ⟨rfl, rfl⟩
   refine ⟨fun _ _ h => h, ?_⟩
   refine za 8 Z (QE_sadd Z Z Uo) Z <| za 9 Z (QE_sadd Z Z Uo) Z <| za 10 Z (QE_as Z) Z <| JA_done V <| Zt <| Zo <| Zu <| ?_
   refine retQ_mk [_] L (.inr Z) (.tmp Z (.nil)) Z (h1.t I2.1|>.t h7|>.t h16|>.t h17|>.t h18) (fun sR hS2 => ?_)
   exact ⟨by rw [hT]; rfl, rfl⟩
  ·
   have hT := rt_7 (lv := lv) gk7
   rw [exTs_nil] at hT
   refine JC_draw drawsMixed 11 Z _ (fun _ h => h) ?_
   intro s19 h19
   refine za 0 Z (QE_mv Z) Z <| za 1 Z (QE_fa0 Z Z Z Z) Z <| za 2 Z (Wd 0 Y5) Z <| za 3 Z (QE_sub' (c := ((1 : Nat) : Int)) Z Z (by rw [w64 O O]; omega)) Z <| za 4 Z (QE_ia1 Z Z Z Z Z Z (show 1 < 5 by omega)) Z <| za 5 Z (QE_ldsR 1 Z Z Z (hcr.le h19) Z) Z <| za 6 Z (QE_mv Z) Z <| JA_1 7 V <| Jb Z trivial Z Z Z (rcom_ac D _ _ Ao _ co (x.exprs.map fun x => exT x 0) (hSt.le (h16.t h19)) O) ?_
   rintro _ _ s20 h20 ⟨rfl, rfl⟩
   refine ⟨fun _ _ h => h, ?_⟩
   refine za 8 Z (QE_sadd Z Z Uo) Z <| za 9 Z (QE_sadd Z Z Uo) Z <| za 10 Z (QE_as Z) Z <| JA_done V <| Zt <| Zo <| Zu <| ?_
   refine retQ_mk [_] L (.inr Z) (.tmp Z (.nil)) Z (h1.t I2.1|>.t h7|>.t h16|>.t h19|>.t h20) (fun sR hS2 => ?_)
   exact ⟨by rw [hT]; rfl, rfl⟩
  ·
   have hT := rt_8 (lv := lv) gk8
   rw [exTs_nil] at hT
   refine JC_draw drawsMixed 11 Z _ (fun _ h => h) ?_
   intro s21 h21
   refine za 0 Z (QE_mv Z) Z <| za 1 Z (QE_fa0 Z Z Z Z) Z <| za 2 Z (Wd 0 Y5) Z <| za 3 Z (QE_sub' (c := ((2 : Nat) : Int)) Z Z (by rw [w64 O O]; omega)) Z <| za 4 Z (QE_ia1 Z Z Z Z Z Z (show 2 < 5 by omega)) Z <| za 5 Z (QE_ldsR 2 Z Z Z (hcr.le h21) Z) Z <| za 6 Z (QE_mv Z) Z <| JA_1 7 V <| Jb Z trivial Z Z Z (rcom_ac D _ _ Ao _ co (x.exprs.map fun x => exT x 0) (hSt.le (h16.t h21)) O) ?_
   rintro _ _ s22 h22 ⟨rfl, rfl⟩
   refine ⟨fun _ _ h => h, ?_⟩
   refine za 8 Z (QE_sadd Z Z Uo) Z <| za 9 Z (QE_sadd Z Z Uo) Z <| za 10 Z (QE_as Z) Z <| JA_done V <| Zt <| Zo <| Zu <| ?_
   refine retQ_mk [_] L (.inr Z) (.tmp Z (.nil)) Z (h1.t I2.1|>.t h7|>.t h16|>.t h21|>.t h22) (fun sR hS2 => ?_)
   exact ⟨by rw [hT]; rfl, rfl⟩
  ·
   have hT := rt_9 (lv := lv) gk9
   rw [exTs_nil] at hT
   refine JC_draw drawsMixed 11 Z _ (fun _ h => h) ?_
   intro s23 h23
   refine za 0 Z (QE_mv Z) Z <| za 1 Z (QE_fa0 Z Z Z Z) Z <| za 2 Z (Wd 0 Y5) Z <| za 3 Z (QE_sub' (c := ((3 : Nat) : Int)) Z Z (by rw [w64 O O]; omega)) Z <| za 4 Z (QE_ia1 Z Z Z Z Z Z (show 3 < 5 by omega)) Z <| za 5 Z (QE_ldsR 3 Z Z Z (hcr.le h23) Z) Z <| za 6 Z (QE_mv Z) Z <| JA_1 7 V <| Jb Z trivial Z Z Z (rcom_ac D _ _ Ao _ co (x.exprs.map fun x => exT x 0) (hSt.le (h16.t h23)) O) ?_
   rintro _ _ s24 h24 ⟨rfl, rfl⟩
   refine ⟨fun _ _ h => h, ?_⟩
   refine za 8 Z (QE_sadd Z Z Uo) Z <| za 9 Z (QE_sadd Z Z Uo) Z <| za 10 Z (QE_as Z) Z <| JA_done V <| Zt <| Zo <| Zu <| ?_
   refine retQ_mk [_] L (.inr Z) (.tmp Z (.nil)) Z (h1.t I2.1|>.t h7|>.t h16|>.t h23|>.t h24) (fun sR hS2 => ?_)
   exact ⟨by rw [hT]; rfl, rfl⟩
  have hT := rt_10 (lv := lv) gk10
  rw [exTs_nil] at hT
  refine JC_draw drawsMixed 11 Z _ (fun _ h => h) ?_
  intro s25 h25
  refine za 0 Z (QE_mv Z) Z <| za 1 Z (QE_fa0 Z Z Z Z) Z <| za 2 Z (Wd 0 Y5) Z <| za 3 Z (QE_sub' (c := ((4 : Nat) : Int)) Z Z (by rw [w64 O O]; omega)) Z <| za 4 Z (QE_ia1 Z Z Z Z Z Z (show 4 < 5 by omega)) Z <| za 5 Z (QE_ldsR 4 Z Z Z (hcr.le h25) Z) Z <| za 6 Z (QE_mv Z) Z <| JA_1 7 V <| Jb Z trivial Z Z Z (rcom_ac D _ _ Ao _ co (x.exprs.map fun x => exT x 0) (hSt.le (h16.t h25)) O) ?_
  rintro _ _ s26 h26 ⟨rfl, rfl⟩
  refine ⟨fun _ _ h => h, ?_⟩
  refine za 8 Z (QE_sadd Z Z Uo) Z <| za 9 Z (QE_sadd Z Z Uo) Z <| za 10 Z (QE_as Z) Z <| JA_done V <| Zt <| Zo <| Zu <| ?_
  refine retQ_mk [_] L (.inr Z) (.tmp Z (.nil)) Z (h1.t I2.1|>.t h7|>.t h16|>.t h25|>.t h26) (fun sR hS2 => ?_)
  exact ⟨by rw [hT]; rfl, rfl⟩
 have h34 : x.kind = 3 ∨ x.kind = 4 := by omega
 have hl1 := stA_1 hv (h34.elim (fun h => .inr (.inl h)) (fun h => .inr (.inr (.inl h))))
 obtain ⟨b0, o0, w0, hb0, hw0, hcw, hwl⟩ := Strs.at_ (hSt.le (Lr D)) (show 0 < n1 by omega)
 cases hb0
 rw [← exTs_nil] at hw0
 have hg0 := totW_get hw0
      
 refine Zk <| Zt <| Sr <| At Z Z <| Zs <| Sr <| W0 Y5 <| Wl 0 Y6 <| Zqeq Z Z Z <| Nt <| ?_
 refine JC_ifD Z (fun c27 => ?_) (fun c27 => ?_)
 ·
  have hwd : (if x.kind = 3 then [105, 102] else [119, 104, 105, 108, 101]) = ([105, 102] : Str) := if_pos c27
  refine Zr <| At Z Z <| Zs <| JC_draw drawsMixed 18 Z _ (fun _ h => h) ?_
  intro s28 h28
  refine za 0 Z (QE_mv Z) Z <| za 1 Z (QE_sadd Z Z Uo) Z <| za 2 Z (QE_mv Z) Z <| za 3 Z (QE_ia1 (j := 0) Z Z Z Z Z Z (show 0 < n1 by omega)) Z <| za 4 Z (QE_ldsR0 Z Z Z (hcw.le h28) Z) Z <| za 5 Z (QE_sadd Z Z Uo) Z <| za 6 Z (QE_sadd Z Z Uo) Z <| za 7 Z (We Y4) Z <| za 8 Z (Wd 0 Y5) Z <| za 9 Z (QE_mv Z) Z <| za 10 Z (QE_add' Z Z (show IntKind.i64.wrap ((lv : Int) + 1) = ((lv + 1 : Nat) : Int) by rw [w64 O O]; simp)) Z <| za 13 Z (QE_mv Z) Z <| JA_1 11 V <| Jb Z trivial Z Z Z (hB _ _ A2 n2 q2 x.body (lv + 1) (hA2.le (h1.t I2.1|>.t h7|>.t h28)) hvB O O) ?_
  rintro _ _ s29 h29 ⟨rfl, rfl⟩
  refine ⟨fun _ _ h => h, ?_⟩
  refine za 12 Z (QE_sadd Z Z Uo) Z <| JA_1 14 V <| Jb Z trivial Z Z Z (rmar_ac D _ _ lv O) ?_
  rintro _ _ s30 h30 ⟨rfl, rfl⟩
  refine ⟨fun _ _ h => h, ?_⟩
  refine za 15 Z (QE_sadd Z Z Uo) Z <| za 16 Z (QE_sadd Z Z Uo) Z <| za 17 Z (QE_as Z) Z <| JA_done V <| Zt <| Zs <| Sr <| Wb Y5 <| Wl 0 Y6 <| Ws Y4 <| Zqeq Z Z Z <| Nt <| ?_
  refine JC_ifD Z (fun c31 => ?_) (fun c31 => ?_)
  ·
   have hT := rt_a h34 hw0 hwd (List.eq_nil_of_length_eq_zero O) (lv := lv)
   refine Sr <| Zqm Z Z <| JO_q (QE_sadd Z Z Uo) Z <| At Z Z <| Zo <| Zu <| ?_
   refine retQ_mk [_] L (.inr Z) (.tmp Z (.nil)) Z (h1.t I2.1|>.t h7|>.t h28|>.t h29|>.t h30) (fun sR hS2 => ?_)
   exact ⟨by rw [hT]; rfl, rfl⟩
  have g0 : x.els.length ≠ 0 := by omega
  obtain ⟨e, b, off, z, B1, m1, d1, B2, m2, d2, B3, m3, d3, hd, rfl, hz, hcz, haz, hbz, hez, hnlz⟩ := Stms.at_ (hA3.le (h1.t I2.1|>.t h7|>.t h28|>.t h29|>.t h30)) (show 0 < n3 by omega)
  obtain ⟨hvz, hNz⟩ := stV_at hvL hz
  refine Zk <| Zt <| Zs <| ?_
  refine JC_cutB 114 (n3 = 1 ∧ z.kind = 3) ?_ ?_
  ·
   refine Zr <| Wb Y5 <| Wl 0 Y6 <| Ws Y4 <| Zqeq Z Z Z <| Zqm Z Z <| ?_
   refine JO_caseD (t := 107) Z (fun c33 => ?_) (fun c33 => ?_)
   ·
    refine Zg Z Z <| Wb Y5 <| Zg Z Z <| Wl 0 Y6 <| Zg Z Z <| JO_q (QE_iaN (j := 0) Z Z Z Z Z Z O) Z <| Zg Z Z <| W0 Y5 <| Zg Z Z <| JO_q (QE_ldsR0 Z Z Z (hcz.le (Lr D)) Z) Z <| Zg Z Z <| Zqeq Z Z Z <| ZqT Z Z Z <| Zn <| ?_
    refine thenQ_n (MidB.mk (Lr D) Sb Z (decide_eq_decide.2 O))
   refine Wf Y4 <| Wf Y4 <| Wf Y4 <| Wf Y4 <| Wf Y4 <| Wf Y4 <| ZqF Z Z Z <| Zn <| ?_
   refine thenQ_n (MidB.mk (Lr D) Sb Z ((decide_eq_false O).symm))
  intro s32 h32
  refine JC_ifD Z (fun c34 => ?_) (fun c34 => ?_)
  ·
   have g3 := c34
   have hT := rt_b h34 hw0 hwd O hz g3.2 (lv := lv)
   have hvz2 := stV_mono z lv (lv + 1) O hvz
   have hzl := stT_len z lv hvz2 (Stms.u_at hA3.u hz)
   refine Sr <| Zqm Z Z <| JO_q (QE_sadd Z Z Uo) Z <| Wb Y5 <| Wl 0 Y6 <| JO_q (QE_iaN (j := 0) Z Z Z Z Z Z O) Z <| JO_q (QE_ldsA Z Z Z (hcz.le h32) Z) Z <| Zqm Z Z <| Jc Z Z Z (ih e hd _ _ z B1 B2 B3 m1 d1 m2 d2 m3 d3 lv (haz.le h32) (hbz.le h32) (hez.le h32) hvz2 O) ?_
   rintro _ _ s35 h35 ⟨rfl, rfl⟩
   refine JO_q (QE_sadd Z Z Uo) Z <| At Z Z <| Zo <| Zu <| ?_
   refine retQ_mk [_] L (.inr Z) (.tmp Z (.nil)) Z (h1.t I2.1|>.t h7|>.t h28|>.t h29|>.t h30|>.t h32|>.t h35) (fun sR hS2 => ?_)
   exact ⟨by rw [hT]; rfl, rfl⟩
  have g3 := c34
  have hT := rt_c h34 hw0 hwd g0 (fun h => g3 ⟨by omega, h.2 z hz⟩) (lv := lv)
  refine Zk <| Zt <| Sr <| Zqm Z Z <| JO_q (QE_sadd Z Z Uo) Z <| Wb Y5 <| Wl 0 Y6 <| Zqm Z Z <| JO_q (QE_add' Z Z (show IntKind.i64.wrap ((lv : Int) + 1) = ((lv + 1 : Nat) : Int) by rw [w64 O O]; simp)) Z <| Jc Z Z Z (hB _ _ _ n3 q3 x.els (lv + 1) (hA3.le (h1.t I2.1|>.t h7|>.t h28|>.t h29|>.t h30|>.t h32)) hvL O O) ?_
  rintro _ _ s36 h36 ⟨rfl, rfl⟩
  refine JO_q (QE_sadd Z Z Uo) Z <| Zqm Z Z <| Jc Z Z Z (rmar_ac D _ _ lv O) ?_
  rintro _ _ s37 h37 ⟨rfl, rfl⟩
  refine JO_q (QE_sadd Z Z Uo) Z <| JO_q (QE_sadd Z Z Uo) Z <| At Z Z <| Zo <| ?_
  refine retQ_mk [_] L (.inr Z) (.tmp Z (.nil)) Z (h1.t I2.1|>.t h7|>.t h28|>.t h29|>.t h30|>.t h32|>.t h36|>.t h37) (fun sR hS2 => ?_)
  exact ⟨by rw [hT]; rfl, rfl⟩
 have hwd : (if x.kind = 3 then [105, 102] else [119, 104, 105, 108, 101]) = ([119, 104, 105, 108, 101] : Str) := if_neg c27
 refine Zk <| Zt <| Zs <| JC_draw drawsMixed 18 Z _ (fun _ h => h) ?_
 intro s38 h38
 refine za 0 Z (QE_mv Z) Z <| za 1 Z (QE_sadd Z Z Uo) Z <| za 2 Z (QE_mv Z) Z <| za 3 Z (QE_ia1 (j := 0) Z Z Z Z Z Z (show 0 < n1 by omega)) Z <| za 4 Z (QE_ldsR0 Z Z Z (hcw.le h38) Z) Z <| za 5 Z (QE_sadd Z Z Uo) Z <| za 6 Z (QE_sadd Z Z Uo) Z <| za 7 Z (We Y4) Z <| za 8 Z (Wd 0 Y5) Z <| za 9 Z (QE_mv Z) Z <| za 10 Z (QE_add' Z Z (show IntKind.i64.wrap ((lv : Int) + 1) = ((lv + 1 : Nat) : Int) by rw [w64 O O]; simp)) Z <| za 13 Z (QE_mv Z) Z <| JA_1 11 V <| Jb Z trivial Z Z Z (hB _ _ A2 n2 q2 x.body (lv + 1) (hA2.le (h1.t I2.1|>.t h7|>.t h38)) hvB O O) ?_
 rintro _ _ s39 h39 ⟨rfl, rfl⟩
 refine ⟨fun _ _ h => h, ?_⟩
 refine za 12 Z (QE_sadd Z Z Uo) Z <| JA_1 14 V <| Jb Z trivial Z Z Z (rmar_ac D _ _ lv O) ?_
 rintro _ _ s40 h40 ⟨rfl, rfl⟩
 refine ⟨fun _ _ h => h, ?_⟩
 refine za 15 Z (QE_sadd Z Z Uo) Z <| za 16 Z (QE_sadd Z Z Uo) Z <| za 17 Z (QE_as Z) Z <| JA_done V <| Zt <| Zs <| Sr <| Wb Y5 <| Wl 0 Y6 <| Ws Y4 <| Zqeq Z Z Z <| Nt <| ?_
 refine JC_ifD Z (fun c41 => ?_) (fun c41 => ?_)
 ·
  have hT := rt_a h34 hw0 hwd (List.eq_nil_of_length_eq_zero O) (lv := lv)
  refine Sr <| Zqm Z Z <| JO_q (QE_sadd Z Z Uo) Z <| At Z Z <| Zo <| Zu <| ?_
  refine retQ_mk [_] L (.inr Z) (.tmp Z (.nil)) Z (h1.t I2.1|>.t h7|>.t h38|>.t h39|>.t h40) (fun sR hS2 => ?_)
  exact ⟨by rw [hT]; rfl, rfl⟩
 have g0 : x.els.length ≠ 0 := by omega
 obtain ⟨e, b, off, z, B1, m1, d1, B2, m2, d2, B3, m3, d3, hd, rfl, hz, hcz, haz, hbz, hez, hnlz⟩ := Stms.at_ (hA3.le (h1.t I2.1|>.t h7|>.t h38|>.t h39|>.t h40)) (show 0 < n3 by omega)
 obtain ⟨hvz, hNz⟩ := stV_at hvL hz
 refine Zk <| Zt <| Zs <| ?_
 refine JC_cutB 114 (n3 = 1 ∧ z.kind = 3) ?_ ?_
 ·
  refine Zr <| Wb Y5 <| Wl 0 Y6 <| Ws Y4 <| Zqeq Z Z Z <| Zqm Z Z <| ?_
  refine JO_caseD (t := 107) Z (fun c43 => ?_) (fun c43 => ?_)
  ·
   refine Zg Z Z <| Wb Y5 <| Zg Z Z <| Wl 0 Y6 <| Zg Z Z <| JO_q (QE_iaN (j := 0) Z Z Z Z Z Z O) Z <| Zg Z Z <| W0 Y5 <| Zg Z Z <| JO_q (QE_ldsR0 Z Z Z (hcz.le (Lr D)) Z) Z <| Zg Z Z <| Zqeq Z Z Z <| ZqT Z Z Z <| Zn <| ?_
   refine thenQ_n (MidB.mk (Lr D) Sb Z (decide_eq_decide.2 O))
  refine Wf Y4 <| Wf Y4 <| Wf Y4 <| Wf Y4 <| Wf Y4 <| Wf Y4 <| ZqF Z Z Z <| Zn <| ?_
  refine thenQ_n (MidB.mk (Lr D) Sb Z ((decide_eq_false O).symm))
 intro s42 h42
 refine JC_ifD Z (fun c44 => ?_) (fun c44 => ?_)
 ·
  have g3 := c44
  have hT := rt_b h34 hw0 hwd O hz g3.2 (lv := lv)
  have hvz2 := stV_mono z lv (lv + 1) O hvz
  have hzl := stT_len z lv hvz2 (Stms.u_at hA3.u hz)
  refine Sr <| Zqm Z Z <| JO_q (QE_sadd Z Z Uo) Z <| Wb Y5 <| Wl 0 Y6 <| JO_q (QE_iaN (j := 0) Z Z Z Z Z Z O) Z <| JO_q (QE_ldsA Z Z Z (hcz.le h42) Z) Z <| Zqm Z Z <| Jc Z Z Z (ih e hd _ _ z B1 B2 B3 m1 d1 m2 d2 m3 d3 lv (haz.le h42) (hbz.le h42) (hez.le h42) hvz2 O) ?_
  rintro _ _ s45 h45 ⟨rfl, rfl⟩
  refine JO_q (QE_sadd Z Z Uo) Z <| At Z Z <| Zo <| Zu <| ?_
  refine retQ_mk [_] L (.inr Z) (.tmp Z (.nil)) Z (h1.t I2.1|>.t h7|>.t h38|>.t h39|>.t h40|>.t h42|>.t h45) (fun sR hS2 => ?_)
  exact ⟨by rw [hT]; rfl, rfl⟩
 have g3 := c44
 have hT := rt_c h34 hw0 hwd g0 (fun h => g3 ⟨by omega, h.2 z hz⟩) (lv := lv)
 refine Zk <| Zt <| Sr <| Zqm Z Z <| JO_q (QE_sadd Z Z Uo) Z <| Wb Y5 <| Wl 0 Y6 <| Zqm Z Z <| JO_q (QE_add' Z Z (show IntKind.i64.wrap ((lv : Int) + 1) = ((lv + 1 : Nat) : Int) by rw [w64 O O]; simp)) Z <| Jc Z Z Z (hB _ _ _ n3 q3 x.els (lv + 1) (hA3.le (h1.t I2.1|>.t h7|>.t h38|>.t h39|>.t h40|>.t h42)) hvL O O) ?_
 rintro _ _ s46 h46 ⟨rfl, rfl⟩
 refine JO_q (QE_sadd Z Z Uo) Z <| Zqm Z Z <| Jc Z Z Z (rmar_ac D _ _ lv O) ?_
 rintro _ _ s47 h47 ⟨rfl, rfl⟩
 refine JO_q (QE_sadd Z Z Uo) Z <| JO_q (QE_sadd Z Z Uo) Z <| At Z Z <| Zo <| ?_
 refine retQ_mk [_] L (.inr Z) (.tmp Z (.nil)) Z (h1.t I2.1|>.t h7|>.t h38|>.t h39|>.t h40|>.t h42|>.t h46|>.t h47) (fun sR hS2 => ?_)
 exact ⟨by rw [hT]; rfl, rfl⟩
theorem rst_all (D : Nat) : ∀ d, RSS D d ∧ RTC D d
  | 0 => by
    have hB : RSS D 0 := fun L s A n c xs lv hA hv hN hlv => rss_step D 0 (fun e h => by omega) L s A n c xs lv hA hv hN hlv
    exact ⟨hB, fun L s x A1 A2 A3 n1 q1 n2 q2 n3 q3 lv hA1 hA2 hA3 hv hN => rtc_step D 0 hB (fun e h => by omega) L s x A1 A2 A3 n1 q1 n2 q2 n3 q3 lv hA1 hA2 hA3 hv hN⟩
  | d + 1 => by
    have ih : ∀ e, d + 1 = e + 1 → RTC D e := fun e h => (show d = e by omega) ▸ (rst_all D d).2
    have hB : RSS D (d + 1) := fun L s A n c xs lv hA hv hN hlv => rss_step D (d + 1) ih L s A n c xs lv hA hv hN hlv
    exact ⟨hB, fun L s x A1 A2 A3 n1 q1 n2 q2 n3 q3 lv hA1 hA2 hA3 hv hN => rtc_step D (d + 1) hB ih L s x A1 A2 A3 n1 q1 n2 q2 n3 q3 lv hA1 hA2 hA3 hv hN⟩
theorem tflat_next {α : Type} {f : α → Str} {l : List α} {k : Nat} {x : α} (h : l[k]? = some x) : ((l.take (k + 1)).map f).flatten = ((l.take k).map f).flatten ++ f x := by
  rw [take_map_next f h]; simp
theorem tflat_len {α : Type} {f : α → Str} (l : List α) (k : Nat) : (((l.take k).map f).flatten).length ≤ ((l.map f).flatten).length := by
  induction l generalizing k with
  | nil => simp
  | cons x r ih =>
    cases k with
    | zero => simp
    | succ k => have := ih k; simp only [List.take_succ_cons, List.map_cons, List.flatten_cons, List.length_append]; omega
theorem pg_1 {g : Glo} (h : g.kind = 1) : gloT g = [99, 111, 110, 115, 116, 32] ++ g.name ++ [32, 61, 32] ++ decS g.num ++ [59, 10] := by unfold gloT; rw [if_pos h]
theorem pg_2 {g : Glo} (h : g.kind = 2) : gloT g = [118, 97, 114, 32] ++ g.name ++ [59, 10] := by unfold gloT; rw [if_neg O, if_pos h]
theorem pg_3 {g : Glo} (h : ¬ g.kind = 1) (h2 : ¬ g.kind = 2) (h3 : g.init = []) : gloT g = [97, 114, 114, 97, 121, 32] ++ g.name ++ [91] ++ decS g.num ++ [93] ++ [59, 10] := by unfold gloT; rw [if_neg h, if_neg h2, if_pos h3]; simp
theorem pg_4 {g : Glo} (h : ¬ g.kind = 1) (h2 : ¬ g.kind = 2) (h3 : g.init ≠ []) : gloT g = [97, 114, 114, 97, 121, 32] ++ g.name ++ [91] ++ decS g.num ++ [93] ++ [32, 61, 32] ++ commaW (g.init.map decS) ++ [59, 10] := by unfold gloT; rw [if_neg h, if_neg h2, if_neg h3]; simp
theorem pf_0 {x : Fnc} (h : x.locals = []) : fncT x = [102, 117, 110, 99, 32] ++ x.name ++ [40] ++ commaW x.params ++ [41, 32, 123, 10] ++ stTs x.body 1 ++ [125, 10] := by unfold fncT; rw [if_pos h]; simp
theorem pf_1 {x : Fnc} (h : x.locals ≠ []) : fncT x = [102, 117, 110, 99, 32] ++ x.name ++ [40] ++ commaW x.params ++ [41, 32, 123, 10] ++ [32, 32, 118, 97, 114, 32] ++ commaW x.locals ++ [59, 10] ++ stTs x.body 1 ++ [125, 10] := by unfold fncT; rw [if_neg h]; simp
theorem rprinted_ac (D : Nat) (L : Hl) (s : World) (d : Nat) (p : Prg) (Ag Af : Option Addr) (ng cg nf cf : Nat) (hGl : Glos s Ag ng cg p.globals) (hFn : Fncs d s Af nf cf p.funcs) (hV : PV p) : AC Tryz.prog D 12 [.agg #[.slice Ag ng cg, .slice Af nf cf]] L s fun v L' _ => v = St (prgT p) ∧ L = L' := by
 have hn1 := hGl.1
 have hn2 := hFn.1
 have hU := hGl.u
 have hUf := hFn.u
 obtain ⟨hV1, hV2, hVg, hVf, hVl⟩ := hV
 have hpl : ((p.globals.map gloT).flatten).length + ((p.funcs.map fncT).flatten).length ≤ 1000000 := by rw [prgT, List.length_append] at hVl; exact hVl
 refine AC_enter (TT := TT) (fn := Tryz.f12) TT_ok Tryz.func12 V Z Tryz.ntmps12 Z (rs := [.tmp 2]) Z [(0, _)] Z <| Sr <| JO_boxA Z Z ?_
 intro β1 s1 h1
 refine At Z Z <| Sr <| At Z Z <| Zs <| Sr <| At Z Z <| Zp <| JC_loop (γ := Nat) (fun k => [(1, _), (2, _), (3, St (((p.globals.take k).map gloT).flatten)), (4, .int .i64 (k : Int))]) (fun _ => _) (fun k tw => Le D s1 tw ∧ (k ≤ ng)) (fun k => ng - k) (fun _ _ _ h hl => ⟨h.1.trans hl, h.2⟩) 0 (.cons Z (.cons Z (.cons Z (.cons Z (.nil _))))) Z ⟨Le.refl _, Nat.zero_le _⟩ ?_
 intro k s2 I2
 have hk0 := I2.2
 have hle := tflat_len (f := gloT) p.globals k
 refine Zs <| Sr <| Zqm Z Z <| W0 Y5 <| Wl 0 Y6 <| Ws Y4 <| Zqlt Z Z Z <| Nt <| ?_
 refine JC_ifD Z (fun c3 => ?_) (fun c3 => ?_)
 ·
  have hk : k < ng := by omega
  obtain ⟨b, off, x, Ai, ni, ci, rfl, hx, hcx, hix, hux, hnl⟩ := Glos.at_ (hGl.le (h1.t I2.1)) hk
  have hgx := hVg x (List.mem_of_getElem? hx)
  have hg0 := gloC_zero hgx.1
  have hil := ident_len hg0.2.2.1
  have hdl := decS_len hux
  have hni := hix.1
  have hci := comma_len (x.init.map decS)
  have hct := totW_dec x.init hix.u32
  refine Zk <| Zt <| Zs <| Zp <| Sr <| W0 Y5 <| Wl 0 Y6 <| Zqm Z Z <| JO_q (QE_iaN Z Z Z Z Z Z hk) Z <| JO_q (QE_ldsA Z Z Z (hcx.le (Lr D)) Z) Z <| JO_allocZ Z [_, _, _, _] Z Z ?_
  intro β4 s4 h4
  refine Wt 0 [_, _, _, _] Y9 <| Nt <| Zs <| Sr <| W0 Y5 <| Wl 0 Y6 <| Zqeq Z Z Z <| Nt <| ?_
  refine JC_ifD Z (fun c5 => ?_) (fun c5 => ?_)
  ·
   have hT := pg_1 c5
   refine JC_draw drawsMixed 11 Z _ (fun _ h => h) ?_
   intro s6 h6
   refine za 0 Z (QE_mv Z) Z <| za 1 Z (QE_sadd Z Z Ut) Z <| za 2 Z (We Y4) Z <| za 3 Z (Wd 0 Y5) Z <| za 4 Z (QE_sadd Z Z Uo) Z <| za 5 Z (QE_sadd Z Z Uo) Z <| za 6 Z (We Y4) Z <| za 7 Z (Wd 0 Y5) Z <| JA_1 8 V <| Jb Z trivial Z Z Z (dec_ac D _ _ _ hux) ?_
   rintro _ _ s7 h7 ⟨rfl, rfl⟩
   refine ⟨fun _ _ h => h, ?_⟩
   refine za 9 Z (QE_sadd Z Z Uo) Z <| za 10 Z (QE_as Z) Z <| JA_done V <| Zt <| Zr <| Zqm Z Z <| JO_q (QE_sadd Z Z Ut) Z <| Zqa Z Z <| Zn <| Zb <| Zt <| Zr <| Zqm Z Z <| Zqadd Z Z Z (w64 O O) <| Zqa Z Z <| Zn <| ?_
   refine thenQ_n ⟨(k + 1), [_], (.cons Z (.cons Z (.cons (congrArg (fun l => some (St l)) (by rw [tflat_next hx, hT]; simp only [List.append_assoc])) kp))), Z, ⟨(I2.1.t h4|>.t h6|>.t h7), (show k + 1 ≤ ng by omega)⟩, O⟩
  have g1 := c5
  refine Sr <| W0 Y5 <| Wl 0 Y6 <| Zqeq Z Z Z <| Nt <| ?_
  refine JC_ifD Z (fun c8 => ?_) (fun c8 => ?_)
  ·
   have hT := pg_2 c8
   refine Zr <| Zqm Z Z <| JO_q (QE_sadd Z Z Ut) Z <| Wb Y5 <| Wl 0 Y6 <| JO_q (QE_sadd Z Z Uo) Z <| At Z Z <| Zr <| Zqm Z Z <| JO_q (QE_sadd Z Z Ut) Z <| Zqa Z Z <| Zn <| Zb <| Zt <| Zr <| Zqm Z Z <| Zqadd Z Z Z (w64 O O) <| Zqa Z Z <| Zn <| ?_
   refine thenQ_n ⟨(k + 1), [_], (.cons Z (.cons Z (.cons (congrArg (fun l => some (St l)) (by rw [tflat_next hx, hT]; simp only [List.append_assoc])) kp))), Z, ⟨(I2.1.t h4), (show k + 1 ≤ ng by omega)⟩, O⟩
  have g2 := c8
  refine Zs <| JC_draw drawsMixed 12 Z _ (fun _ h => h) ?_
  intro s9 h9
  refine za 0 Z (QE_mv Z) Z <| za 1 Z (QE_sadd Z Z Ut) Z <| za 2 Z (We Y4) Z <| za 3 Z (Wd 0 Y5) Z <| za 4 Z (QE_sadd Z Z Uo) Z <| za 5 Z (QE_sadd Z Z Uo) Z <| za 6 Z (We Y4) Z <| za 7 Z (Wd 0 Y5) Z <| JA_1 8 V <| Jb Z trivial Z Z Z (dec_ac D _ _ _ hux) ?_
  rintro _ _ s10 h10 ⟨rfl, rfl⟩
  refine ⟨fun _ _ h => h, ?_⟩
  refine za 9 Z (QE_sadd Z Z Uo) Z <| za 10 Z (QE_sadd Z Z Uo) Z <| za 11 Z (QE_as Z) Z <| JA_done V <| Zt <| Sr <| At Z Z <| Zs <| Sr <| At Z Z <| Zp ?_
  refine JC_loop (γ := Nat × Value × Hl) (fun g => [(1, _), (2, _), (3, _), (4, _), (5, _), (6, g.2.1), (7, .int .i64 (g.1 : Int))]) (fun g => _ :: _ :: (g.2.2 ++ L)) (fun g tw => Le D s10 tw ∧ (g.1 ≤ ni ∧ FL.Own 9 1 g.2.2 g.2.1 g.1 (sb ((x.init.take g.1).map decS)))) (fun g => ni - g.1) (fun _ _ _ h hl => ⟨h.1.trans hl, h.2⟩) (0, .slice none 0 0, []) (.cons Z (.cons Z (.cons Z (.cons Z (.cons Z (.cons Z (.cons Z (.nil _)))))))) Z ⟨Le.refl _, ⟨Nat.zero_le _, Own.nil⟩⟩ ?_
  intro g s11 I11
  obtain ⟨j, vo, Mo⟩ := g
  obtain ⟨hj0, hO⟩ := I11.2
  simp only at hj0 hO
  dsimp only
  refine Zs <| Sr <| Zqm Z Z <| Wb Y5 <| Wl 0 Y6 <| Ws Y4 <| Zqlt Z Z Z <| Nt <| ?_
  refine JC_ifD Z (fun c12 => ?_) (fun c12 => ?_)
  ·
   have hj : j < ni := by omega
   obtain ⟨b2, off2, y, hb2, hy, hcy, huy⟩ := Wds.at_ (hix.le (h4.t h9|>.t h10|>.t I11.1)) hj
   subst hb2
   refine Zk <| Zt <| Zs <| Zp <| Zr <| Zqm Z Z <| Wb Y5 <| Wl 0 Y6 <| Zqm Z Z <| JO_q (QE_ia1 Z Z Z Z Z Z hj) Z <| JO_q (QE_ldsR0 Z Z Z (hcy.le (Lr D)) Z) Z <| Jc Z Z Z (dec_ac D _ _ _ huy) ?_
   rintro _ _ s13 h13 ⟨rfl, rfl⟩
   refine JO_bs [(_, _)] [_] Z Z Z Z Z Z Z Z Z ?_
   intro βn s14 h14 hcb
   refine JO_app (sz := 1) [_, _] Mo L Z Z Z Z Z Z Z hO (Row.of_cells (hcb.le (Lr D)) Z Z) ⟨by simp [ti9]; omega, by omega⟩ Z ?_
   intro vq Mq s15 h15 oq
   obtain ⟨Avq, cvq, rfl, _, _⟩ := Own.slice oq
   simp only [cQ9, nQ9]
   refine Zqa Z Z <| Zn <| Zb <| Zt <| Zr <| Zqm Z Z <| Zqadd Z Z Z (w64 O O) <| Zqa Z Z <| Zn <| ?_
   refine thenQ_n ⟨(j + 1, .slice Avq (j + 1) cvq, Mq), [], kp, Z, ⟨(I11.1.t h13|>.t h14|>.t h15), ⟨by simp only; omega, by rw [take_map_next decS hy, sb_app]; exact oq⟩⟩, (by simp only; omega)⟩
  obtain rfl : ni = j := by omega
  rw [List.take_of_length_le O] at hO
  obtain ⟨Ao, co, rfl, _, _⟩ := Own.slice hO
  refine Zl <| Zv <| Zv <| Zd <| Zt <| Zs <| JC_pubX [_, _] Mo _ ?_
  intro s16 h16 hpub16
  simp only [cQ9, nQ9]
  have hSt := Own.strs hO (dec_mem hix.u32) hpub16 (by rw [List.length_map]; omega)
  refine Zr <| Zqm Z Z <| Ws Y4 <| Zqgt Z Z Z <| Nt <| ?_
  refine JC_ifD Z (fun c17 => ?_) (fun c17 => ?_)
  ·
   have hT := pg_4 g1 g2 (fun h => by rw [h] at hni; simp at hni; omega)
   refine Zr <| Zqm Z Z <| JO_q (QE_sadd Z Z Ut) Z <| Zqm Z Z <| Jc Z Z Z (rcom_ac D _ _ Ao _ co (x.init.map decS) (hSt.le (Lr D)) O) ?_
   rintro _ _ s18 h18 ⟨rfl, rfl⟩
   refine JO_q (QE_sadd Z Z Ut) Z <| At Z Z <| Zr <| Zqm Z Z <| JO_q (QE_sadd Z Z Ut) Z <| Zqa Z Z <| Zn <| Zb <| Zt <| Zr <| Zqm Z Z <| Zqadd Z Z Z (w64 O O) <| Zqa Z Z <| Zn <| ?_
   refine thenQ_n ⟨(k + 1), [_], (.cons Z (.cons Z (.cons (congrArg (fun l => some (St l)) (by rw [tflat_next hx, hT]; simp only [List.append_assoc])) kp))), Z, ⟨(I2.1.t h4|>.t h9|>.t h10|>.t I11.1|>.t h16|>.t h18), (show k + 1 ≤ ng by omega)⟩, O⟩
  have hT := pg_3 g1 g2 (List.eq_nil_of_length_eq_zero O)
  refine Zk <| Zt <| Zr <| Zqm Z Z <| JO_q (QE_sadd Z Z Ut) Z <| Zqa Z Z <| Zn <| Zb <| Zt <| Zr <| Zqm Z Z <| Zqadd Z Z Z (w64 O O) <| Zqa Z Z <| Zn <| ?_
  refine thenQ_n ⟨(k + 1), [_], (.cons Z (.cons Z (.cons (congrArg (fun l => some (St l)) (by rw [tflat_next hx, hT]; simp only [List.append_assoc])) kp))), Z, ⟨(I2.1.t h4|>.t h9|>.t h10|>.t I11.1|>.t h16), (show k + 1 ≤ ng by omega)⟩, O⟩
 obtain rfl : ng = k := by omega
 refine Zl <| Zv <| Zv <| Zd <| Zt <| Zs <| Sr <| At Z Z <| Zp <| JC_loop (γ := Nat) (fun k => [(1, _), (2, _), (3, St ((p.globals.map gloT).flatten ++ ((p.funcs.take k).map fncT).flatten)), (8, .int .i64 (k : Int))]) (fun _ => _) (fun k tw => Le D s2 tw ∧ (k ≤ nf)) (fun k => nf - k) (fun _ _ _ h hl => ⟨h.1.trans hl, h.2⟩) 0 (.cons Z (.cons Z (.cons (congrArg (fun l => some (St l)) (by rw [List.take_of_length_le (show p.globals.length ≤ ng by omega)]; simp)) (.cons Z (.nil _))))) Z ⟨Le.refl _, Nat.zero_le _⟩ ?_
 intro k s19 I19
 have hk0 := I19.2
 have hle := tflat_len (f := fncT) p.funcs k
 refine Zs <| Sr <| Zqm Z Z <| Wb Y5 <| Wl 0 Y6 <| Ws Y4 <| Zqlt Z Z Z <| Nt <| ?_
 refine JC_ifD Z (fun c20 => ?_) (fun c20 => ?_)
 ·
  have hk : k < nf := by omega
  obtain ⟨b, off, x, B1, m1, d1, B2, m2, d2, B3, m3, d3, rfl, hx, hcx, hpx, hlx, hbx, hnl⟩ := Fncs.at_ (hFn.le (h1.t I2.1|>.t I19.1)) hk
  obtain ⟨hi1, hi2, hi3, hi4, hi5, hi6⟩ := hVf x (List.mem_of_getElem? hx)
  have hil := ident_len hi1
  have hp1 := comma_len x.params
  have hp2 := totW_ids x.params fun w hw => hi4 w (List.mem_append_left _ hw)
  have hl1 := comma_len x.locals
  have hl2 := totW_ids x.locals fun w hw => hi4 w (List.mem_append_right _ hw)
  have hln := hlx.1
  have hbl := stTs_len x.body 1 hi5 (hUf x (List.mem_of_getElem? hx))
  refine Zk <| Zt <| Zs <| Zp <| Sr <| Wb Y5 <| Wl 0 Y6 <| Zqm Z Z <| JO_q (QE_iaN Z Z Z Z Z Z hk) Z <| JO_q (QE_ldsA Z Z Z (hcx.le (Lr D)) Z) Z <| JO_allocZ Z [_, _, _, _] Z Z ?_
  intro β21 s21 h21
  refine Wt 0 [_, _, _, _] Y9 <| Nt <| Zs <| JC_draw drawsMixed 12 Z _ (fun _ h => h) ?_
  intro s22 h22
  refine za 0 Z (QE_mv Z) Z <| za 1 Z (QE_sadd Z Z Ut) Z <| za 2 Z (QE_fa0 Z Z Z Z) Z <| za 3 Z (Wd 0 Y5) Z <| za 4 Z (QE_sadd Z Z Uo) Z <| za 5 Z (QE_sadd Z Z Uo) Z <| za 6 Z (We Y4) Z <| za 7 Z (Wd 0 Y5) Z <| JA_1 8 V <| Jb Z trivial Z Z Z (rcom_ac D _ _ B1 m1 d1 x.params (hpx.le (h21.t h22)) O) ?_
  rintro _ _ s23 h23 ⟨rfl, rfl⟩
  refine ⟨fun _ _ h => h, ?_⟩
  refine za 9 Z (QE_sadd Z Z Uo) Z <| za 10 Z (QE_sadd Z Z Uo) Z <| za 11 Z (QE_as Z) Z <| JA_done V <| Zt <| Zs <| Sr <| Wb Y5 <| Wl 0 Y6 <| Ws Y4 <| Zqgt Z Z Z <| Nt <| ?_
  refine JC_ifD Z (fun c24 => ?_) (fun c24 => ?_)
  ·
   have hT := pf_1 (x := x) (fun h => by rw [h] at hln; simp at hln; omega)
   refine Zr <| Zqm Z Z <| JO_q (QE_sadd Z Z Ut) Z <| Wb Y5 <| Wl 0 Y6 <| Jc Z Z Z (rcom_ac D _ _ B2 m2 d2 x.locals (hlx.le (h21.t h22|>.t h23)) O) ?_
   rintro _ _ s25 h25 ⟨rfl, rfl⟩
   refine JO_q (QE_sadd Z Z Uo) Z <| JO_q (QE_sadd Z Z Uo) Z <| At Z Z <| Zr <| Zqm Z Z <| Wb Y5 <| Wl 0 Y6 <| Jc Z Z Z ((rst_all D d).1 _ _ B3 m3 d3 x.body 1 (hbx.le (h21.t h22|>.t h23|>.t h25)) hi5 hi6 O) ?_
   rintro _ _ s26 h26 ⟨rfl, rfl⟩
   refine JO_q (QE_sadd Z Z Ut) Z <| JO_q (QE_sadd Z Z Uo) Z <| Zqa Z Z <| Zn <| Zb <| Zt <| Zr <| Zqm Z Z <| Zqadd Z Z Z (w64 O O) <| Zqa Z Z <| Zn <| ?_
   refine thenQ_n ⟨(k + 1), [_], (.cons Z (.cons Z (.cons (congrArg (fun l => some (St l)) (by rw [tflat_next hx, hT]; simp only [List.append_assoc])) kp))), Z, ⟨(I19.1.t h21|>.t h22|>.t h23|>.t h25|>.t h26), (show k + 1 ≤ nf by omega)⟩, O⟩
  have hT := pf_0 (x := x) (List.eq_nil_of_length_eq_zero O)
  refine Zk <| Zt <| Zr <| Zqm Z Z <| Wb Y5 <| Wl 0 Y6 <| Jc Z Z Z ((rst_all D d).1 _ _ B3 m3 d3 x.body 1 (hbx.le (h21.t h22|>.t h23)) hi5 hi6 O) ?_
  rintro _ _ s27 h27 ⟨rfl, rfl⟩
  refine JO_q (QE_sadd Z Z Ut) Z <| JO_q (QE_sadd Z Z Uo) Z <| Zqa Z Z <| Zn <| Zb <| Zt <| Zr <| Zqm Z Z <| Zqadd Z Z Z (w64 O O) <| Zqa Z Z <| Zn <| ?_
  refine thenQ_n ⟨(k + 1), [_], (.cons Z (.cons Z (.cons (congrArg (fun l => some (St l)) (by rw [tflat_next hx, hT]; simp only [List.append_assoc])) kp))), Z, ⟨(I19.1.t h21|>.t h22|>.t h23|>.t h27), (show k + 1 ≤ nf by omega)⟩, O⟩
 obtain rfl : nf = k := by omega
 refine Zl <| Zv <| Zv <| Zd <| Zt <| Sr <| Zqm Z Z <| At Z Z <| Zo <| ?_
 refine retQ_mk [_] L (.inr Z) (.tmp Z (.nil)) Z (h1.t I2.1|>.t I19.1) (fun sR hS2 => ?_)
 exact ⟨by rw [List.take_of_length_le (show p.funcs.length ≤ nf by omega)]; rfl, rfl⟩
theorem rprgF_ac (D : Nat) (L : Hl) (s : World) (d : Nat) (p : Prg) (Ag Af : Option Addr) (ng cg nf cf : Nat) (hGl : Glos s Ag ng cg p.globals) (hFn : Fncs d s Af nf cf p.funcs) : AC Tryz.prog D 9 [.agg #[.slice Ag ng cg, .slice Af nf cf]] L s fun v L' _ => v = .agg #[.int .i64 (prgF p).1, .int .i64 (prgF p).2] ∧ L = L' := by
 have hU : prU p := ⟨hGl.u, hFn.u⟩
 refine AC_enter (TT := TT) (fn := Tryz.f9) TT_ok Tryz.func9 V Z Tryz.ntmps9 Z (rs := [.cell 2 27]) Z [(0, _)] Z <| Sr <| JO_boxA Z Z ?_
 intro β1 s1 h1
 refine JO_allocZ Z [_, _] Z Z ?_
 intro β2 s2 h2
 refine Nt <| Sr <| JO_q (QE_ldA 1 [_, _] Z Z Z Z Z) Z <| Jc Z Z Z (rshape_ac D _ _ d p Ag Af ng cg nf cf (hGl.le (h1.t h2)) (hFn.le (h1.t h2))) ?_
 rintro _ _ s3 h3 ⟨rfl, rfl⟩
 refine JO_allocZ Z [_, _] Z Z ?_
 intro β4 s4 h4
 refine Wt 0 [_, _] Y9 <| Nt <| Zs <| ?_
 refine JC_cutB 14 ((shapeF p).1 = 0 ∧ 12000 < (prgT p).length) ?_ ?_
 ·
  refine Zr <| W0 Y5 <| Wl 0 Y6 <| Zqeq Z Z Z <| Zqm Z Z <| ?_
  refine JO_caseD (t := 9) Z (fun c6 => ?_) (fun c6 => ?_)
  ·
   refine Zg Z Z <| JO_q (QE_ldA 2 [_, _] Z Z Z Z Z) Z <| Zg Z Z <| Jc Z Z Z (rprinted_ac D _ _ d p Ag Af ng cg nf cf (hGl.le (h1.t h2|>.t h3|>.t h4)) (hFn.le (h1.t h2|>.t h3|>.t h4)) (PV.of hU As)) ?_
   rintro _ _ s7 h7 ⟨rfl, rfl⟩
   refine Zg Z Z <| Zqlt2 Z Z Z Z <| Zg Z Z <| Zqgt Z Z Z <| ZqT Z Z Z <| Zn <| ?_
   refine thenQ_n (MidB.mk h7 Sb Z (decide_eq_decide.2 O))
  refine Wf Y4 <| Wf Y4 <| Wf Y4 <| Wf Y4 <| ZqF Z Z Z <| Zn <| ?_
  refine thenQ_n (MidB.mk (Lr D) Sb Z ((decide_eq_false O).symm))
 intro s5 h5
 refine JC_ifD Z (fun c8 => ?_) (fun c8 => ?_)
 ·
  have hE := pr_long (shapeF_00 c8.1) c8.2
  refine Zr <| Jc Z Z Z (at_ac D _ _ _ _) ?_
  rintro _ _ s9 h9 ⟨rfl, rfl⟩
  refine Wt 0 [_, _] Y9 <| Nt <| Sr <| JO_q (QE_ldA 0 [_, _] Z Z Z Z Z) Z <| Wt 1 [_, _] Y9 <| Nt <| Zo <| ?_
  refine retQ_mk [_, _, _] L (.inr Z) (.agg (us := [_, _]) 1 Z Z Z Z Z (.nil)) Z (h1.t h2|>.t h3|>.t h4|>.t h5|>.t h9) (fun sR hS2 => ?_)
  exact ⟨by rw [hE]; rfl, rfl⟩
 have hE : prgF p = shapeF p := by
   by_cases h0 : (shapeF p).1 = 0
   · rw [pr_ok (shapeF_00 h0) (fun h => c8 ⟨h0, h⟩), shapeF_00 h0]
   · exact pr_sh h0
 refine Zk <| Zt <| Sr <| JO_q (QE_ldA 0 [_, _] Z Z Z Z Z) Z <| Wt 1 [_, _] Y9 <| Nt <| Zo <| ?_
 refine retQ_mk [_, _, _] L (.inr Z) (.agg (us := [_, _]) 1 Z Z Z Z Z (.nil)) Z (h1.t h2|>.t h3|>.t h4|>.t h5) (fun sR hS2 => ?_)
 exact ⟨by rw [hE]; rfl, rfl⟩
theorem sameStrs_ac (D : Nat) (L : Hl) (s : World) (A : Option Addr) (n c : Nat) (l : List Str) (hA : Strs s A n c l) (A1 : Option Addr) (n1 c1 : Nat) (l1 : List Str) (hB : Strs s A1 n1 c1 l1) : AC Tryz.prog D 38 [.slice A n c, .slice A1 n1 c1] L s fun v L' _ => v = .bool (decide (l = l1)) ∧ L = L' := by
 have hn := hA.1
 have hc1 := hA.2.1
 have hc2 := hA.2.2.1
 have hn1 := hB.1
 refine AC_enter (TT := TT) (fn := Tryz.f38) TT_ok Tryz.func38 V Z Tryz.ntmps38 Z (rs := [.tmp 4]) Z [(0, _), (1, _)] Z <| Sr <| At Z Z <| Zs <| Sr <| Zqm Z Z <| Ws Y4 <| Zqm Z Z <| Ws Y4 <| Zqne Z Z Z <| Nt <| ?_
 refine JC_ifN Z (fun c1 => ?_) (fun c1 => ?_)
 ·
  refine Sr <| At Z Z <| Zo <| Zu <| ?_
  refine retQ_mk [] L (.inr Z) (.tmp Z (.nil)) Z (Lr D) (fun sR hS2 => ?_)
  refine ⟨?_, Z⟩
  have h0 : l ≠ l1 := fun e => by subst e; omega
  simp [resV, h0]; done
 refine Zk <| Zt <| Zs <| Sr <| At Z Z <| Zp <| JC_loop (γ := Nat) (fun k => [(0, _), (1, _), (4, _), (5, .int .i64 (k : Int))]) (fun _ => _) (fun k tw => Le D s tw ∧ (k ≤ n ∧ ∀ i x, i < k → l[i]? = some x → l1[i]? = some x)) (fun k => n - k) (fun _ _ _ h hl => ⟨h.1.trans hl, h.2⟩) 0 (.cons Z (.cons Z (.cons Z (.cons Z (.nil _))))) Z ⟨Le.refl _, ⟨Nat.zero_le _, fun i c hi => by omega⟩⟩ ?_
 intro k s2 I2
 have hk0 := I2.2.1
 have hI := I2.2.2
 refine Zs <| Sr <| Zqm Z Z <| Zqm Z Z <| Ws Y4 <| Zqlt Z Z Z <| Nt <| ?_
 refine JC_ifD Z (fun c3 => ?_) (fun c3 => ?_)
 ·
  have hk : k < n := by omega
  obtain ⟨b, off, x, rfl, hx, hcx, _⟩ := Strs.at_ (hA.le I2.1) hk
  obtain ⟨b1, off1, y, rfl, hy, hcy, _⟩ := Strs.at_ (hB.le I2.1) (show k < n1 by omega)
  refine Zk <| Zt <| Zs <| Zp <| Zs <| JC_draw drawsMixed 9 Z _ (fun _ h => h) ?_
  intro s4 h4
  refine za 0 Z (QE_mv Z) Z <| za 1 Z (QE_mv Z) Z <| za 2 Z (QE_ia1 Z Z Z Z Z Z hk) Z <| za 3 Z (QE_ldsR0 Z Z Z (hcx.le h4) Z) Z <| za 4 Z (QE_mv Z) Z <| za 5 Z (QE_mv Z) Z <| za 6 Z (QE_ia1 Z Z Z Z Z Z (show k < n1 by omega)) Z <| za 7 Z (QE_ldsR0 Z Z Z (hcy.le h4) Z) Z <| za 8 Z (QE_sne Z Z) Z <| JA_done V <| Zt ?_
  refine JC_ifN Z (fun c5 => ?_) (fun c5 => ?_)
  ·
   have hE : x ≠ y := by assumption
   refine Sr <| At Z Z <| Zo <| Zc <| Zu <| Zu <| Zc <| Zu <| ?_
   refine retQ_mk [] L (.inr Z) (.tmp Z (.nil)) Z (I2.1.t h4) (fun sR hS2 => ?_)
   refine ⟨?_, Z⟩
   have h0 : l ≠ l1 := diff_lists hx hy hE
   simp [resV, h0]; done
  have hE : x = y := by simpa using c5
  refine Zk <| Zb <| Zt <| Zr <| Zqm Z Z <| Zqadd Z Z Z (w64 O O) <| Zqa Z Z <| Zn <| ?_
  refine thenQ_n ⟨(k + 1), [], kp, Z, ⟨(I2.1.t h4), ⟨by omega, below_succ hI hx (hE ▸ hy)⟩⟩, O⟩
 refine Zl <| Zv <| Zv <| Zd <| Zt <| Sr <| At Z Z <| Zo <| ?_
 refine retQ_mk [] L (.inr Z) (.tmp Z (.nil)) Z I2.1 (fun sR hS2 => ?_)
 refine ⟨?_, Z⟩
 have h0 : l = l1 := same_lists O (fun i x hi h => hI i x O h)
 simp [resV, h0]; done
def SEC (D d : Nat) : Prop := ∀ (L : Hl) (s : World) (d2 : Nat) (A B : Option Addr) (n m c c2 : Nat) (l : List Ex), Exs d s A n c l → Exs d2 s B m c2 l → AC Tryz.prog D 53 [.slice A n c, .slice B m c2] L s fun v L' _ => v = .bool true ∧ L = L'
def SSC (D d : Nat) : Prop := ∀ (L : Hl) (s : World) (d2 : Nat) (A B : Option Addr) (n m c c2 : Nat) (l : List Stm), Stms d s A n c l → Stms d2 s B m c2 l → AC Tryz.prog D 24 [.slice A n c, .slice B m c2] L s fun v L' _ => v = .bool true ∧ L = L'
theorem sameX_step (D d : Nat) (ih : ∀ e, d = e + 1 → SEC D e) (L : Hl) (s : World) (d2 : Nat) (A B : Option Addr) (n m c c2 : Nat) (l : List Ex) (hA : Exs d s A n c l) (hB : Exs d2 s B m c2 l) : AC Tryz.prog D 53 [.slice A n c, .slice B m c2] L s fun v L' _ => v = .bool true ∧ L = L' := by
 have hn := hA.1
 have hq1 := hA.2.1
 have hq2 := hA.2.2.1
 have hm := hB.1
 obtain rfl : n = m := by omega
 refine AC_enter (TT := TT) (fn := Tryz.f53) TT_ok Tryz.func53 V Z Tryz.ntmps53 Z (rs := [.tmp 4]) Z [(0, _), (1, _)] Z <| Sr <| At Z Z <| Zs <| Sr <| Zqm Z Z <| Ws Y4 <| Zqm Z Z <| Ws Y4 <| JO_q (QE_cast (v' := .bool false) (QE_ne Z Z) (bF Z)) Z <| Nt <| Zz Z <| Zk <| Zt <| Zs <| Sr <| At Z Z <| Zp <| ?_
 refine JC_loop (γ := Nat) (fun k => [(0, _), (1, _), (4, _), (5, .int .i64 (k : Int))]) (fun _ => _) (fun k tw => Le D s tw ∧ (k ≤ n)) (fun k => n - k) (fun _ _ _ h hl => ⟨h.1.trans hl, h.2⟩) 0 (.cons Z (.cons Z (.cons Z (.cons Z (.nil _))))) Z ⟨Le.refl _, Nat.zero_le _⟩ ?_
 intro k s1 I1
 have hk0 := I1.2
 refine Zs <| Sr <| Zqm Z Z <| Zqm Z Z <| Ws Y4 <| Zqlt Z Z Z <| Nt <| ?_
 refine JC_ifD Z (fun c2 => ?_) (fun c2 => ?_)
 ·
  have hk : k < n := by omega
  obtain ⟨e, b, off, x, A1, n1, p1, hd, rfl, hx, hcx, hax, hux, hnl⟩ := Exs.at_ (hA.le I1.1) hk
  obtain ⟨e2, b2, off2, y, B1, m1, p2, hd2, rfl, hy, hcy, hay, huy, hny⟩ := Exs.at_ (hB.le I1.1) hk
  obtain rfl : x = y := Option.some.inj (hx.symm.trans hy)
  refine Zk <| Zt <| Zs <| Zp <| Sr <| Zqm Z Z <| Zqm Z Z <| JO_q (QE_iaN Z Z Z Z Z Z hk) Z <| JO_q (QE_ldsA Z Z Z (hcx.le (Lr D)) Z) Z <| JO_allocZ Z [_, _, _, _, _] Z Z ?_
  intro β3 s3 h3
  refine Wt 0 [_, _, _, _, _] Y9 <| Nt <| Sr <| Zqm Z Z <| Zqm Z Z <| JO_q (QE_iaN Z Z Z Z Z Z hk) Z <| JO_q (QE_ldsA Z Z Z (hcy.le h3) Z) Z <| JO_allocZ Z [_, _, _, _, _] Z Z ?_
  intro β4 s4 h4
  refine Wt 0 [_, _, _, _, _] Y9 <| Nt <| Sr <| W0 Y5 <| Wl 1 Y6 <| W0 Y5 <| Wl 0 Y6 <| JO_q (QE_cast (v' := .bool false) (QE_ne Z Z) (bF Z)) Z <| Zqm Z Z <| Zg Z Z <| Wb Y5 <| Zg Z Z <| Wl 1 Y6 <| Zg Z Z <| Wb Y5 <| Zg Z Z <| Wl 0 Y6 <| Zg Z Z <| JO_q (QE_cast (v' := .bool false) (QE_ne Z Z) (bF Z)) Z <| ZqF Z Z Z <| Zqm Z Z <| Zg Z Z <| Wb Y5 <| Zg Z Z <| Wl 1 Y6 <| Zg Z Z <| Wb Y5 <| Zg Z Z <| Wl 0 Y6 <| Zg Z Z <| ?_
  refine JO_q (QE_cast (v' := .bool false) (QE_ne Z Z) (bF Z)) Z <| ZqF Z Z Z <| Zqm Z Z <| Zg Z Z <| Wb Y5 <| Zg Z Z <| Wl 1 Y6 <| Zg Z Z <| Wb Y5 <| Zg Z Z <| Wl 0 Y6 <| Zg Z Z <| JO_q (QE_cast (v' := .bool false) (QE_sne Z Z) (bF Z)) Z <| ZqF Z Z Z <| Zqm Z Z <| Zg Z Z <| Wb Y5 <| Zg Z Z <| Wl 1 Y6 <| Zg Z Z <| Wb Y5 <| Zg Z Z <| Wl 0 Y6 <| Zg Z Z <| Jc Z Z Z (ih e hd _ _ e2 A1 B1 n1 m1 p1 p2 x.args (hax.le (h3.t h4)) (hay.le (h3.t h4))) ?_
  rintro _ _ s5 h5 ⟨rfl, rfl⟩
  refine Zg Z Z <| ZqnT Z Z <| ZqF Z Z Z <| Nt <| Zz Z <| Zk <| Zb <| Zt <| Zr <| Zqm Z Z <| Zqadd Z Z Z (w64 O O) <| Zqa Z Z <| Zn <| ?_
  refine thenQ_n ⟨(k + 1), [_, _], kp, Z, ⟨(I1.1.t h3|>.t h4|>.t h5), (show k + 1 ≤ n by omega)⟩, O⟩
 refine Zl <| Zv <| Zv <| Zd <| Zt <| Sr <| At Z Z <| Zo <| ?_
 refine retQ_mk [] L (.inr Z) (.tmp Z (.nil)) Z I1.1 (fun sR hS2 => ?_)
 exact ⟨rfl, rfl⟩
theorem sameX_ac (D : Nat) : ∀ d, SEC D d
  | 0 => fun L s d2 A B n m c c2 l hA hB => sameX_step D 0 (fun e h => by omega) L s d2 A B n m c c2 l hA hB
  | d + 1 => fun L s d2 A B n m c c2 l hA hB => sameX_step D (d + 1) (fun e h => (show d = e by omega) ▸ sameX_ac D d) L s d2 A B n m c c2 l hA hB
theorem sameS_step (D d : Nat) (ih : ∀ e, d = e + 1 → SSC D e) (L : Hl) (s : World) (d2 : Nat) (A B : Option Addr) (n m c c2 : Nat) (l : List Stm) (hA : Stms d s A n c l) (hB : Stms d2 s B m c2 l) : AC Tryz.prog D 24 [.slice A n c, .slice B m c2] L s fun v L' _ => v = .bool true ∧ L = L' := by
 have hn := hA.1
 have hq1 := hA.2.1
 have hq2 := hA.2.2.1
 have hm := hB.1
 obtain rfl : n = m := by omega
 refine AC_enter (TT := TT) (fn := Tryz.f24) TT_ok Tryz.func24 V Z Tryz.ntmps24 Z (rs := [.tmp 4]) Z [(0, _), (1, _)] Z <| Sr <| At Z Z <| Zs <| Sr <| Zqm Z Z <| Ws Y4 <| Zqm Z Z <| Ws Y4 <| JO_q (QE_cast (v' := .bool false) (QE_ne Z Z) (bF Z)) Z <| Nt <| Zz Z <| Zk <| Zt <| Zs <| Sr <| At Z Z <| Zp <| ?_
 refine JC_loop (γ := Nat) (fun k => [(0, _), (1, _), (4, _), (5, .int .i64 (k : Int))]) (fun _ => _) (fun k tw => Le D s tw ∧ (k ≤ n)) (fun k => n - k) (fun _ _ _ h hl => ⟨h.1.trans hl, h.2⟩) 0 (.cons Z (.cons Z (.cons Z (.cons Z (.nil _))))) Z ⟨Le.refl _, Nat.zero_le _⟩ ?_
 intro k s1 I1
 have hk0 := I1.2
 refine Zs <| Sr <| Zqm Z Z <| Zqm Z Z <| Ws Y4 <| Zqlt Z Z Z <| Nt <| ?_
 refine JC_ifD Z (fun c2 => ?_) (fun c2 => ?_)
 ·
  have hk : k < n := by omega
  obtain ⟨e, b, off, x, A1, n1, p1, A2, n2, p2, A3, n3, p3, hd, rfl, hx, hcx, ha1, ha2, ha3, hnl⟩ := Stms.at_ (hA.le I1.1) hk
  obtain ⟨e2, b2, off2, y, B1, m1, u1, B2, m2, u2, B3, m3, u3, hd2, rfl, hy, hcy, hb1, hb2, hb3, hny⟩ := Stms.at_ (hB.le I1.1) hk
  obtain rfl : x = y := Option.some.inj (hx.symm.trans hy)
  refine Zk <| Zt <| Zs <| Zp <| Sr <| Zqm Z Z <| Zqm Z Z <| JO_q (QE_iaN Z Z Z Z Z Z hk) Z <| JO_q (QE_ldsA Z Z Z (hcx.le (Lr D)) Z) Z <| JO_allocZ Z [_, _, _, _, _] Z Z ?_
  intro β3 s3 h3
  refine Wt 0 [_, _, _, _, _] Y9 <| Nt <| Sr <| Zqm Z Z <| Zqm Z Z <| JO_q (QE_iaN Z Z Z Z Z Z hk) Z <| JO_q (QE_ldsA Z Z Z (hcy.le h3) Z) Z <| JO_allocZ Z [_, _, _, _, _] Z Z ?_
  intro β4 s4 h4
  refine Wt 0 [_, _, _, _, _] Y9 <| Nt <| Sr <| W0 Y5 <| Wl 1 Y6 <| W0 Y5 <| Wl 0 Y6 <| JO_q (QE_cast (v' := .bool false) (QE_ne Z Z) (bF Z)) Z <| Zqm Z Z <| Zg Z Z <| Wb Y5 <| Zg Z Z <| Wl 1 Y6 <| Zg Z Z <| Wb Y5 <| Zg Z Z <| Wl 0 Y6 <| Zg Z Z <| JO_q (QE_cast (v' := .bool false) (QE_sne Z Z) (bF Z)) Z <| ZqF Z Z Z <| Zqm Z Z <| Zg Z Z <| Wb Y5 <| Zg Z Z <| Wl 1 Y6 <| Zg Z Z <| Wb Y5 <| Zg Z Z <| Wl 0 Y6 <| Zg Z Z <| ?_
  refine Jc Z Z Z (sameX_ac D e _ _ e2 A1 B1 n1 m1 p1 u1 x.exprs (ha1.le (h3.t h4)) (hb1.le (h3.t h4))) ?_
  rintro _ _ s5 h5 ⟨rfl, rfl⟩
  refine Zg Z Z <| ZqnT Z Z <| ZqF Z Z Z <| Zqm Z Z <| Zg Z Z <| Wb Y5 <| Zg Z Z <| Wl 1 Y6 <| Zg Z Z <| Wb Y5 <| Zg Z Z <| Wl 0 Y6 <| Zg Z Z <| Jc Z Z Z (ih e hd _ _ e2 A2 B2 n2 m2 p2 u2 x.body (ha2.le (h3.t h4|>.t h5)) (hb2.le (h3.t h4|>.t h5))) ?_
  rintro _ _ s6 h6 ⟨rfl, rfl⟩
  refine Zg Z Z <| ZqnT Z Z <| ZqF Z Z Z <| Zqm Z Z <| Zg Z Z <| Wb Y5 <| Zg Z Z <| Wl 1 Y6 <| Zg Z Z <| Wb Y5 <| Zg Z Z <| Wl 0 Y6 <| Zg Z Z <| Jc Z Z Z (ih e hd _ _ e2 A3 B3 n3 m3 p3 u3 x.els (ha3.le (h3.t h4|>.t h5|>.t h6)) (hb3.le (h3.t h4|>.t h5|>.t h6))) ?_
  rintro _ _ s7 h7 ⟨rfl, rfl⟩
  refine Zg Z Z <| ZqnT Z Z <| ZqF Z Z Z <| Nt <| Zz Z <| Zk <| Zb <| Zt <| Zr <| Zqm Z Z <| Zqadd Z Z Z (w64 O O) <| Zqa Z Z <| Zn <| ?_
  refine thenQ_n ⟨(k + 1), [_, _], kp, Z, ⟨(I1.1.t h3|>.t h4|>.t h5|>.t h6|>.t h7), (show k + 1 ≤ n by omega)⟩, O⟩
 refine Zl <| Zv <| Zv <| Zd <| Zt <| Sr <| At Z Z <| Zo <| ?_
 refine retQ_mk [] L (.inr Z) (.tmp Z (.nil)) Z I1.1 (fun sR hS2 => ?_)
 exact ⟨rfl, rfl⟩
theorem sameS_ac (D : Nat) : ∀ d, SSC D d
  | 0 => fun L s d2 A B n m c c2 l hA hB => sameS_step D 0 (fun e h => by omega) L s d2 A B n m c c2 l hA hB
  | d + 1 => fun L s d2 A B n m c c2 l hA hB => sameS_step D (d + 1) (fun e h => (show d = e by omega) ▸ sameS_ac D d) L s d2 A B n m c c2 l hA hB
theorem sameP_ac (D : Nat) (L : Hl) (s : World) (d : Nat) (p : Prg) (Ag Af : Option Addr) (ng cg nf cf : Nat) (hGl : Glos s Ag ng cg p.globals) (hFn : Fncs d s Af nf cf p.funcs) (d2 : Nat) (Bg Bf : Option Addr) (mg eg mf ef : Nat) (hGl2 : Glos s Bg mg eg p.globals) (hFn2 : Fncs d2 s Bf mf ef p.funcs) : AC Tryz.prog D 15 [.agg #[.slice Ag ng cg, .slice Af nf cf], .agg #[.slice Bg mg eg, .slice Bf mf ef]] L s fun v L' _ => v = .bool true ∧ L = L' := by
 have hn := hGl.1
 have hq1 := hGl.2.1
 have hq2 := hGl.2.2.1
 have hm := hGl2.1
 obtain rfl : ng = mg := by omega
 have hn3 := hFn.1
 have hq3 := hFn.2.1
 have hq4 := hFn.2.2.1
 have hm2 := hFn2.1
 obtain rfl : nf = mf := by omega
 refine AC_enter (TT := TT) (fn := Tryz.f15) TT_ok Tryz.func15 V Z Tryz.ntmps15 Z (rs := [.tmp 4]) Z [(0, _), (1, _)] Z <| Sr <| JO_boxA Z Z ?_
 intro β1 s1 h1
 refine JO_boxA Z Z ?_
 intro β2 s2 h2
 refine At Z Z <| Zs <| Sr <| W0 Y5 <| Wl 1 Y6 <| Ws Y4 <| W0 Y5 <| Wl 0 Y6 <| Ws Y4 <| JO_q (QE_cast (v' := .bool false) (QE_ne Z Z) (bF Z)) Z <| Zqm Z Z <| Zg Z Z <| Wb Y5 <| Zg Z Z <| Wl 1 Y6 <| Zg Z Z <| Ws Y4 <| Zg Z Z <| Wb Y5 <| Zg Z Z <| Wl 0 Y6 <| Zg Z Z <| Ws Y4 <| Zg Z Z <| JO_q (QE_cast (v' := .bool false) (QE_ne Z Z) (bF Z)) Z <| ZqF Z Z Z <| Nt <| Zz Z <| Zk <| Zt <| Zs <| Sr <| At Z Z <| Zp ?_
 refine JC_loop (γ := Nat) (fun k => [(2, _), (3, _), (4, _), (5, .int .i64 (k : Int))]) (fun _ => _) (fun k tw => Le D s2 tw ∧ (k ≤ ng)) (fun k => ng - k) (fun _ _ _ h hl => ⟨h.1.trans hl, h.2⟩) 0 (.cons Z (.cons Z (.cons Z (.cons Z (.nil _))))) Z ⟨Le.refl _, Nat.zero_le _⟩ ?_
 intro k s3 I3
 have hk0 := I3.2
 refine Zs <| Sr <| Zqm Z Z <| W0 Y5 <| Wl 1 Y6 <| Ws Y4 <| Zqlt Z Z Z <| Nt <| ?_
 refine JC_ifD Z (fun c4 => ?_) (fun c4 => ?_)
 ·
  have hk : k < ng := by omega
  obtain ⟨b, off, x, A1, n1, p1, rfl, hx, hcx, hax, hux, hnl⟩ := Glos.at_ (hGl.le (h1.t h2|>.t I3.1)) hk
  obtain ⟨b2, off2, y, B1, m1, p2, rfl, hy, hcy, hay, huy, hny⟩ := Glos.at_ (hGl2.le (h1.t h2|>.t I3.1)) hk
  obtain rfl : x = y := Option.some.inj (hx.symm.trans hy)
  refine Zk <| Zt <| Zs <| Zp <| Sr <| W0 Y5 <| Wl 1 Y6 <| Zqm Z Z <| JO_q (QE_iaN Z Z Z Z Z Z hk) Z <| JO_q (QE_ldsA Z Z Z (hcx.le (Lr D)) Z) Z <| JO_allocZ Z [_, _, _, _] Z Z ?_
  intro β5 s5 h5
  refine Wt 0 [_, _, _, _] Y9 <| Nt <| Sr <| W0 Y5 <| Wl 1 Y6 <| Zqm Z Z <| JO_q (QE_iaN Z Z Z Z Z Z hk) Z <| JO_q (QE_ldsA Z Z Z (hcy.le h5) Z) Z <| JO_allocZ Z [_, _, _, _] Z Z ?_
  intro β6 s6 h6
  refine Wt 0 [_, _, _, _] Y9 <| Nt <| Sr <| W0 Y5 <| Wl 1 Y6 <| W0 Y5 <| Wl 0 Y6 <| JO_q (QE_cast (v' := .bool false) (QE_ne Z Z) (bF Z)) Z <| Zqm Z Z <| Zg Z Z <| Wb Y5 <| Zg Z Z <| Wl 1 Y6 <| Zg Z Z <| Wb Y5 <| Zg Z Z <| Wl 0 Y6 <| Zg Z Z <| JO_q (QE_cast (v' := .bool false) (QE_sne Z Z) (bF Z)) Z <| ZqF Z Z Z <| Zqm Z Z <| Zg Z Z <| Wb Y5 <| Zg Z Z <| Wl 1 Y6 <| Zg Z Z <| Wb Y5 <| Zg Z Z <| Wl 0 Y6 <| Zg Z Z <| ?_
  refine JO_q (QE_cast (v' := .bool false) (QE_ne Z Z) (bF Z)) Z <| ZqF Z Z Z <| Zqm Z Z <| Zg Z Z <| Wb Y5 <| Zg Z Z <| Wl 1 Y6 <| Zg Z Z <| Wb Y5 <| Zg Z Z <| Wl 0 Y6 <| Zg Z Z <| Jc Z Z Z (AC.isT (sameWords_ac D _ _ A1 n1 p1 x.init (hax.le (h5.t h6)) B1 m1 p2 x.init (hay.le (h5.t h6))) Z) ?_
  rintro _ _ s7 h7 ⟨rfl, rfl⟩
  refine Zg Z Z <| ZqnT Z Z <| ZqF Z Z Z <| Nt <| Zz Z <| Zk <| Zb <| Zt <| Zr <| Zqm Z Z <| Zqadd Z Z Z (w64 O O) <| Zqa Z Z <| Zn <| ?_
  refine thenQ_n ⟨(k + 1), [_, _], kp, Z, ⟨(I3.1.t h5|>.t h6|>.t h7), (show k + 1 ≤ ng by omega)⟩, O⟩
 refine Zl <| Zv <| Zv <| Zd <| Zt <| Zs <| Sr <| At Z Z <| Zp <| JC_loop (γ := Nat) (fun k => [(2, _), (3, _), (4, _), (8, .int .i64 (k : Int))]) (fun _ => _) (fun k tw => Le D s3 tw ∧ (k ≤ nf)) (fun k => nf - k) (fun _ _ _ h hl => ⟨h.1.trans hl, h.2⟩) 0 (.cons Z (.cons Z (.cons Z (.cons Z (.nil _))))) Z ⟨Le.refl _, Nat.zero_le _⟩ ?_
 intro k s8 I8
 have hk0 := I8.2
 refine Zs <| Sr <| Zqm Z Z <| Wb Y5 <| Wl 1 Y6 <| Ws Y4 <| Zqlt Z Z Z <| Nt <| ?_
 refine JC_ifD Z (fun c9 => ?_) (fun c9 => ?_)
 ·
  have hk : k < nf := by omega
  obtain ⟨b, off, x, A1, n1, p1, A2, n2, p2, A3, n3, p3, rfl, hx, hcx, ha1, ha2, ha3, hnl⟩ := Fncs.at_ (hFn.le (h1.t h2|>.t I3.1|>.t I8.1)) hk
  obtain ⟨b2, off2, y, B1, m1, u1, B2, m2, u2, B3, m3, u3, rfl, hy, hcy, hb1, hb2, hb3, hny⟩ := Fncs.at_ (hFn2.le (h1.t h2|>.t I3.1|>.t I8.1)) hk
  obtain rfl : x = y := Option.some.inj (hx.symm.trans hy)
  refine Zk <| Zt <| Zs <| Zp <| Sr <| Wb Y5 <| Wl 1 Y6 <| Zqm Z Z <| JO_q (QE_iaN Z Z Z Z Z Z hk) Z <| JO_q (QE_ldsA Z Z Z (hcx.le (Lr D)) Z) Z <| JO_allocZ Z [_, _, _, _] Z Z ?_
  intro β10 s10 h10
  refine Wt 0 [_, _, _, _] Y9 <| Nt <| Sr <| Wb Y5 <| Wl 1 Y6 <| Zqm Z Z <| JO_q (QE_iaN Z Z Z Z Z Z hk) Z <| JO_q (QE_ldsA Z Z Z (hcy.le h10) Z) Z <| JO_allocZ Z [_, _, _, _] Z Z ?_
  intro β11 s11 h11
  refine Wt 0 [_, _, _, _] Y9 <| Nt <| Sr <| W0 Y5 <| Wl 1 Y6 <| W0 Y5 <| Wl 0 Y6 <| JO_q (QE_cast (v' := .bool false) (QE_sne Z Z) (bF Z)) Z <| Zqm Z Z <| Zg Z Z <| Wb Y5 <| Zg Z Z <| Wl 1 Y6 <| Zg Z Z <| Wb Y5 <| Zg Z Z <| Wl 0 Y6 <| Zg Z Z <| Jc Z Z Z (AC.isT (sameStrs_ac D _ _ A1 n1 p1 x.params (ha1.le (h10.t h11)) B1 m1 u1 x.params (hb1.le (h10.t h11))) Z) ?_
  rintro _ _ s12 h12 ⟨rfl, rfl⟩
  refine Zg Z Z <| ZqnT Z Z <| ZqF Z Z Z <| Zqm Z Z <| Zg Z Z <| Wb Y5 <| Zg Z Z <| Wl 1 Y6 <| Zg Z Z <| Wb Y5 <| Zg Z Z <| Wl 0 Y6 <| Zg Z Z <| Jc Z Z Z (AC.isT (sameStrs_ac D _ _ A2 n2 p2 x.locals (ha2.le (h10.t h11|>.t h12)) B2 m2 u2 x.locals (hb2.le (h10.t h11|>.t h12))) Z) ?_
  rintro _ _ s13 h13 ⟨rfl, rfl⟩
  refine Zg Z Z <| ZqnT Z Z <| ZqF Z Z Z <| Zqm Z Z <| Zg Z Z <| Wb Y5 <| Zg Z Z <| Wl 1 Y6 <| Zg Z Z <| Wb Y5 <| Zg Z Z <| Wl 0 Y6 <| Zg Z Z <| Jc Z Z Z (sameS_ac D d _ _ d2 A3 B3 n3 m3 p3 u3 x.body (ha3.le (h10.t h11|>.t h12|>.t h13)) (hb3.le (h10.t h11|>.t h12|>.t h13))) ?_
  rintro _ _ s14 h14 ⟨rfl, rfl⟩
  refine Zg Z Z <| ZqnT Z Z <| ZqF Z Z Z <| Nt <| Zz Z <| Zk <| Zb <| Zt <| Zr <| Zqm Z Z <| Zqadd Z Z Z (w64 O O) <| Zqa Z Z <| Zn <| ?_
  refine thenQ_n ⟨(k + 1), [_, _], kp, Z, ⟨(I8.1.t h10|>.t h11|>.t h12|>.t h13|>.t h14), (show k + 1 ≤ nf by omega)⟩, O⟩
 refine Zl <| Zv <| Zv <| Zd <| Zt <| Sr <| At Z Z <| Zo <| ?_
 refine retQ_mk [_, _] L (.inr Z) (.tmp Z (.nil)) Z (h1.t h2|>.t I3.1|>.t I8.1) (fun sR hS2 => ?_)
 exact ⟨rfl, rfl⟩
def mainW : Str := [109, 97, 105, 110]
def getX : Ex := .mk 5 0 0 [] []
def nX : Ex := .mk 2 0 0 [110] []
def mulX : Ex := .mk 7 4 0 [] [nX, .mk 1 0 2 [] []]
def sumX : Ex := .mk 7 10 0 [] [getX, mulX]
theorem ex_row {d : Nat} {s : World} {k o n : Int} {nm : Str} {A : Option Addr} {m c : Nat} {l : List Ex} (h : Exs d s A m c l) (hn : U32 n) (hl : nm.length ≤ 1000) : ([.int .i64 k, .int .i64 o, .int .u32 n, St nm, .slice A m c] : List Value).length = 5 ∧ ExR (d + 1) s (.mk k o n nm l) [.int .i64 k, .int .i64 o, .int .u32 n, St nm, .slice A m c] := ⟨rfl, A, m, c, rfl, h, hn, show nm.length ≤ 9223372036854775807 by omega⟩
theorem small_of {s : World} {b1 b2 b3 b4 b5 b6 : Nat} (h1 : CellsAt s b1 0 [.int .i64 2, .int .i64 0, .int .u32 0, St [110], .slice none 0 0, .int .i64 1, .int .i64 0, .int .u32 2, St [], .slice none 0 0])
    (h2 : CellsAt s b2 0 [.int .i64 5, .int .i64 0, .int .u32 0, St [], .slice none 0 0, .int .i64 7, .int .i64 4, .int .u32 0, St [], .slice (some ⟨b1, 0, none⟩) 2 2])
    (h3 : CellsAt s b3 0 [.int .i64 1, St [110], .int .u32 3, .slice none 0 0]) (h4 : CellsAt s b4 0 [.int .i64 7, .int .i64 10, .int .u32 0, St [], .slice (some ⟨b2, 0, none⟩) 2 2])
    (h5 : CellsAt s b5 0 [.int .i64 7, St [], .slice (some ⟨b4, 0, none⟩) 1 1, .slice none 0 0, .slice none 0 0]) (h6 : CellsAt s b6 0 [St mainW, .slice none 0 0, .slice none 0 0, .slice (some ⟨b5, 0, none⟩) 1 1]) :
    Glos s (some ⟨b3, 0, none⟩) 1 1 smallP.globals ∧ Fncs 5 s (some ⟨b6, 0, none⟩) 1 1 smallP.funcs := by
  have z : U32 0 := ⟨by decide, by decide⟩
  have e1 : Exs 2 s (some ⟨b1, 0, none⟩) 2 2 [nX, .mk 1 0 2 [] []] := Sl.lit [[_, _, _, _, _], [_, _, _, _, _]] h1 rfl (.cons (ex_row (exs_nil 1 s) z (by decide)) (.cons (ex_row (exs_nil 1 s) ⟨by decide, by decide⟩ (by decide)) .nil)) 2 rfl O
  have e2 : Exs 3 s (some ⟨b2, 0, none⟩) 2 2 [getX, mulX] := Sl.lit [[_, _, _, _, _], [_, _, _, _, _]] h2 rfl (.cons (ex_row (exs_nil 2 s) z (by decide)) (.cons (ex_row e1 z (by decide)) .nil)) 2 rfl O
  have e3 : Exs 4 s (some ⟨b4, 0, none⟩) 1 1 [sumX] := Sl.lit [[_, _, _, _, _]] h4 rfl (.cons (ex_row e2 z (by decide)) .nil) 1 rfl O
  have e4 : Stms 5 s (some ⟨b5, 0, none⟩) 1 1 [.mk 7 [] [sumX] [] []] := Sl.lit [[_, _, _, _, _]] h5 rfl (.cons ⟨rfl, _, _, _, _, _, _, _, _, _, rfl, e3, stms_nil 4 s, stms_nil 4 s, by decide⟩ .nil) 1 rfl O
  exact ⟨Sl.lit [[_, _, _, _]] h3 rfl (.cons ⟨rfl, _, _, _, rfl, wds_nil s, ⟨by decide, by decide⟩, by decide⟩ .nil) 1 rfl O,
    Sl.lit [[_, _, _, _]] h6 rfl (.cons ⟨rfl, _, _, _, _, _, _, _, _, _, rfl, strs_nil s, strs_nil s, e4, by decide⟩ .nil) 1 rfl O⟩
theorem num9_ac (D : Nat) (L : Hl) (s : World) (n : Int) : AC Tryz.prog D 52 [.int .u32 n] L s fun v L' _ => v = .agg #[.int .i64 1, .int .i64 0, .int .u32 n, St [], .slice none 0 0] ∧ L = L' := by
 refine AC_enter (TT := TT) (fn := Tryz.f52) TT_ok Tryz.func52 V Z Tryz.ntmps52 Z (rs := [.cell 2 97]) Z [(0, _)] Z <| Sr <| JO_allocZ Z [_, _, _, _, _] Z Z ?_
 intro β1 s1 h1
 refine Nt <| Sr <| Zqm Z Z <| JO_q (QE_build [(_, _), (_, _)] [_, _, _, _, _] Z Z Z Z Z Z) Z <| Wt 0 [_, _, _, _, _] Y9 <| Nt <| Zo <| ?_
 refine retQ_mk [_] L (.inr Z) (.agg (us := [_, _, _, _, _]) 0 Z Z Z Z Z (.nil)) Z h1 (fun sR hS2 => ?_)
 exact ⟨rfl, rfl⟩
theorem smallO_ac (D : Nat) (L : Hl) (s : World) : AC Tryz.prog D 23 [] L s fun v L' s' => ∃ M', L' = M' ++ L ∧ ∀ s2, Le D s' s2 → Pub M' s2 → ∃ bg bf, v = .agg #[.slice (some ⟨bg, 0, none⟩) 1 1, .slice (some ⟨bf, 0, none⟩) 1 1] ∧ Glos s2 (some ⟨bg, 0, none⟩) 1 1 smallP.globals ∧ Fncs 5 s2 (some ⟨bf, 0, none⟩) 1 1 smallP.funcs := by
 refine AC_enter (TT := TT) (fn := Tryz.f23) TT_ok Tryz.func23 V Z Tryz.ntmps23 Z (rs := [.cell 0 25]) Z [] Z <| Sr <| JO_allocZ Z [_, _] Z Z ?_
 intro β1 s1 h1
 refine Nt <| Sr <| JO_q (QE_build [(_, _), (_, _)] [_, _, _, _, _] Z Z Z Z Z Z) Z <| Jc Z Z Z (num9_ac D _ _ 2) ?_
 rintro _ _ s2 h2 ⟨rfl, rfl⟩
 refine JO_bs [(_, _), (_, _)] [_, _, _, _, _, _, _, _, _, _] Z Z Z Z Z Z Z Z Z ?_
 intro βa s3 h3 hca
 refine JO_q (QE_build [(_, _), (_, _), (_, _)] [_, _, _, _, _] Z Z Z Z Z Z) Z <| JO_allocZ Z [_, _, _, _, _] Z Z ?_
 intro β4 s4 h4
 refine Wt 0 [_, _, _, _, _] Y9 <| Nt <| Sr <| JO_q (QE_build [(_, _)] [_, _, _, _, _] Z Z Z Z Z Z) Z <| JO_q (QE_ldA 0 [_, _, _, _, _] Z Z Z Z Z) Z <| JO_bs [(_, _), (_, _)] [_, _, _, _, _, _, _, _, _, _] Z Z Z Z Z Z Z Z Z ?_
 intro βb s5 h5 hcb
 refine JO_q (QE_build [(_, _), (_, _), (_, _)] [_, _, _, _, _] Z Z Z Z Z Z) Z <| JO_allocZ Z [_, _, _, _, _] Z Z ?_
 intro β6 s6 h6
 refine Wt 0 [_, _, _, _, _] Y9 <| Nt <| Sr <| JO_q (QE_build [(_, _), (_, _), (_, _)] [_, _, _, _] Z Z Z Z Z Z) Z <| JO_bs [(_, _)] [_, _, _, _] Z Z Z Z Z Z Z Z Z ?_
 intro βc s7 h7 hcc
 refine JO_q (QE_ldA 0 [_, _, _, _, _] Z Z Z Z Z) Z <| JO_bs [(_, _)] [_, _, _, _, _] Z Z Z Z Z Z Z Z Z ?_
 intro βd s8 h8 hcd
 refine JO_q (QE_build [(_, _), (_, _)] [_, _, _, _, _] Z Z Z Z Z Z) Z <| JO_bs [(_, _)] [_, _, _, _, _] Z Z Z Z Z Z Z Z Z ?_
 intro βe s9 h9 hce
 refine JO_q (QE_build [(_, _), (_, _)] [_, _, _, _] Z Z Z Z Z Z) Z <| JO_bs [(_, _)] [_, _, _, _] Z Z Z Z Z Z Z Z Z ?_
 intro βf s10 h10 hcf
 refine JO_q (QE_build [(_, _), (_, _)] [_, _] Z Z Z Z Z Z) Z <| Wt 2 [_, _] Y9 <| Nt <| Zo <| ?_
 refine retQ_mk [_, _, _] _ (.inr Z) (.agg (us := [_, _]) 2 Z Z Z Z Z (.nil)) Z (h1.t h2|>.t h3|>.t h4|>.t h5|>.t h6|>.t h7|>.t h8|>.t h9|>.t h10) (fun sR hS2 => ?_)
 exact ⟨[], rfl, fun s2 hs2 hp => ⟨_, _, rfl, small_of (hca.le (h4.t h5|>.t h6|>.t h7|>.t h8|>.t h9|>.t h10|>.t (hS2.t hs2))) (hcb.le (h6.t h7|>.t h8|>.t h9|>.t h10|>.t (hS2.t hs2))) (hcc.le (h8.t h9|>.t h10|>.t (hS2.t hs2))) (hcd.le (h9.t h10|>.t (hS2.t hs2))) (hce.le (h10.t (hS2.t hs2))) (hcf.le ((Lr D).t (hS2.t hs2)))⟩⟩
theorem smallP_ac (D : Nat) (L : Hl) (s : World) : AC Tryz.prog D 23 [] L s fun v L' s' => L = L' ∧ ∃ bg bf, v = .agg #[.slice (some ⟨bg, 0, none⟩) 1 1, .slice (some ⟨bf, 0, none⟩) 1 1] ∧ Glos s' (some ⟨bg, 0, none⟩) 1 1 smallP.globals ∧ Fncs 5 s' (some ⟨bf, 0, none⟩) 1 1 smallP.funcs := AC.pubW (smallO_ac D L s)
theorem spelled_ac (D : Nat) (L : Hl) (s : World) (hG : GP s) : AC Tryz.prog D 10 [] L s fun v L' _ => v = .bool true ∧ L = L' := by
 refine AC_enter (TT := TT) (fn := Tryz.f10) TT_ok Tryz.func10 V Z Tryz.ntmps10 Z (rs := [.tmp 0]) Z [] Z <| Sr <| At Z Z <| Sr <| Jc Z Z Z (smallP_ac D _ _) ?_
 rintro _ _ s1 h1 ⟨rfl, bg1, bf1, rfl, hg1, hf1⟩
 refine Jc Z Z Z (print_ac D _ _ (hG.le h1) 5 smallP _ _ _ _ _ _ (hg1.le (Lr D)) (hf1.le (Lr D))) ?_
 rintro _ _ s2 h2 ⟨rfl, rfl⟩
 refine Zqm Z Z <| Zqx Z Z Z <| Zqx Z Z Z <| JO_allocZ Z [_, _] Z Z ?_
 intro β3 s3 h3
 refine Zqa Z Z <| Wt 0 [_, _] Y9 <| Nt <| Sr <| Jc Z Z Z (parse_prog D _ _ (hG.le (h1.t h2|>.t h3)) spA) ?_
 rintro _ _ s4 h4 ⟨rfl, da, pa, fa, ka, Aga, nga, cga, Afa, nfa, cfa, rfl, hpa, hga, hfa⟩
 rw [sp_a] at hpa
 cases hpa
 obtain rfl : nga = 1 := hga.1
 obtain rfl : nfa = 1 := hfa.1
 obtain ⟨b9, o9, x9, A9, n9, c9, rfl, hx9, hc9, _⟩ := Glos.at_ hga (show 0 < 1 by decide)
 obtain rfl := Option.some.inj hx9
 obtain ⟨b8, o8, x8, B1, m1, d1, B2, m2, d2, B3, m3, d3, rfl, hx8, hc8, hp8, hl8, hb8, _⟩ := Fncs.at_ hfa (show 0 < 1 by decide)
 obtain rfl := Option.some.inj hx8
 refine Zqm Z Z <| Zqx Z Z Z <| Zqx Z Z Z <| JO_allocZ Z [_, _] Z Z ?_
 intro β5 s5 h5
 refine JO_allocZ Z [_, _] Z Z ?_
 intro β6 s6 h6
 refine Wt 1 [_, _] Y9 <| Wt 0 [_, _] Y9 <| Nt <| Sr <| Jc Z Z Z (parse_prog D _ _ (hG.le (h1.t h2|>.t h3|>.t h4|>.t h5|>.t h6)) smallT) ?_
 rintro _ _ s7 h7 ⟨rfl, db, pb, fb, kb, Agb, ngb, cgb, Afb, nfb, cfb, rfl, hpb, hgb, hfb⟩
 rw [sp_q] at hpb
 cases hpb
 refine Zqm Z Z <| Zqx Z Z Z <| Zqx Z Z Z <| JO_allocZ Z [_, _] Z Z ?_
 intro β8 s8 h8
 refine JO_allocZ Z [_, _] Z Z ?_
 intro β9 s9 h9
 refine Wt 1 [_, _] Y9 <| Wt 0 [_, _] Y9 <| Nt <| Sr <| Jc Z Z Z (parse_prog D _ _ (hG.le (h1.t h2|>.t h3|>.t h4|>.t h5|>.t h6|>.t h7|>.t h8|>.t h9)) spB) ?_
 rintro _ _ s10 h10 ⟨rfl, dc, pc, fc, kc, Agc, ngc, cgc, Afc, nfc, cfc, rfl, hpc, hgc, hfc⟩
 rw [sp_b] at hpc
 cases hpc
 refine Zqm Z Z <| Zqx Z Z Z <| Zqx Z Z Z <| JO_allocZ Z [_, _] Z Z ?_
 intro β11 s11 h11
 refine JO_allocZ Z [_, _] Z Z ?_
 intro β12 s12 h12
 refine Wt 1 [_, _] Y9 <| Wt 0 [_, _] Y9 <| Nt <| Zs <| Sr <| W0 Y5 <| JO_q (Wd 6 Y5) Z <| JO_q (QE_cast (v' := .bool false) (QE_ne Z Z) (bF (by rw [small_F]))) Z <| Zqm Z Z <| Zg Z Z <| W0 Y5 <| Zg Z Z <| Wl 4 Y6 <| Zg Z Z <| JO_q (QE_cast (v' := .bool false) (QE_ne Z Z) (bF (by rfl))) Z <| ZqF Z Z Z <| Zqm Z Z <| Zg Z Z <| W0 Y5 <| Zg Z Z <| Wl 2 Y6 <| Zg Z Z <| JO_q (QE_cast (v' := .bool false) (QE_ne Z Z) (bF (by rfl))) Z <| ZqF Z Z Z <| Zqm Z Z <| Zg Z Z <| ?_
 refine Jc Z Z Z (smallP_ac D _ _) ?_
 rintro _ _ s13 h13 ⟨rfl, bg2, bf2, rfl, hg2, hf2⟩
 refine Zg Z Z <| Jc Z Z Z (validate_ac D _ _ (hG.le (h1.t h2|>.t h3|>.t h4|>.t h5|>.t h6|>.t h7|>.t h8|>.t h9|>.t h10|>.t h11|>.t h12|>.t h13)) 5 smallP _ _ _ _ _ _ (hg2.le (Lr D)) (hf2.le (Lr D))) ?_
 rintro _ _ s14 h14 ⟨rfl, rfl⟩
 refine Zg Z Z <| JO_q (QE_field Z Z Z Z Z Z Z Z Z) Z <| Zg Z Z <| JO_q (QE_cast (v' := .bool false) (QE_ne Z Z) (bF (by rw [small_F]))) Z <| ZqF Z Z Z <| Zqm Z Z <| Zg Z Z <| W0 Y5 <| Zg Z Z <| Wl 5 Y6 <| Zg Z Z <| Ws Y4 <| Zg Z Z <| JO_q (QE_cast (v' := .bool false) (QE_ne Z Z) (bF (by rfl))) Z <| ZqF Z Z Z <| Zqm Z Z <| Zg Z Z <| Wb Y5 <| Zg Z Z <| Wl 5 Y6 <| Zg Z Z <| Ws Y4 <| Zg Z Z <| JO_q (QE_cast (v' := .bool false) (QE_ne Z Z) (bF (by rfl))) Z <| ZqF Z Z Z <| Nt <| Zz Z <| Zk <| Zt <| Zs <| ?_
 refine JC_draw drawsMixed 37 Z _ (fun _ h => h) ?_
 intro s15 h15
 refine za 0 Z (QE_mv Z) Z <| za 1 Z (QE_cast (v' := .bool true) (QE_seq Z Z) (bT (by rw [if_neg (by rw [small_F]; decide)]; exact small_T))) Z <| za 2 Z (QE_mv Z) Z <| zg 3 Z ⟨_, Z, Z⟩ (QE_fa0 Z Z Z Z) Z <| zg 4 Z ⟨_, Z, Z⟩ (Wd 5 Y5) Z <| zg 5 Z ⟨_, Z, Z⟩ (QE_iaN (j := 0) Z Z Z Z Z Z (by decide)) Z <| zg 6 Z ⟨_, Z, Z⟩ (QE_fa Z Z Z Z) Z <| zg 7 Z ⟨_, Z, Z⟩ (QE_ldsR 2 Z Z Z (hc9.le (h5.t h6|>.t h7|>.t h8|>.t h9|>.t h10|>.t h11|>.t h12|>.t h13|>.t h14|>.t h15)) Z) Z <| zg 8 Z ⟨_, Z, Z⟩ (QE_cast (v' := .bool true) (QE_eq Z Z) (bT (by rfl))) Z <| za 9 Z (QE_pickT Z Z) Z ?_
 refine za 10 Z (QE_mv Z) Z <| zg 11 Z ⟨_, Z, Z⟩ (We Y4) Z <| zg 12 Z ⟨_, Z, Z⟩ (Wd 5 Y5) Z <| zg 13 Z ⟨_, Z, Z⟩ (QE_iaN (j := 0) Z Z Z Z Z Z (by decide)) Z <| zg 14 Z ⟨_, Z, Z⟩ (QE_fa Z Z Z Z) Z <| zg 15 Z ⟨_, Z, Z⟩ (QE_ldsR 3 Z Z Z (hc8.le (h5.t h6|>.t h7|>.t h8|>.t h9|>.t h10|>.t h11|>.t h12|>.t h13|>.t h14|>.t h15)) Z) Z <| JA_1 16 V <| Jb Z ⟨_, Z, Z⟩ Z Z Z (smallP_ac D _ _) ?_
 rintro _ _ s16 h16 ⟨rfl, bg4, bf4, rfl, hg4, hf4⟩
 refine ⟨fun _ _ h => h, ?_⟩
 obtain ⟨b4, off4, x4, E1, u1, w1, E2, u2, w2, E3, u3, w3, hA4, hx4, hc4, hp4, hl4, hb4, _⟩ := Fncs.at_ hf4 (show 0 < 1 by decide)
 cases hA4
 obtain rfl := Option.some.inj hx4
 refine zg 17 Z ⟨_, Z, Z⟩ (QE_field Z Z Z Z Z Z Z Z Z) Z <| zg 18 Z ⟨_, Z, Z⟩ (QE_iaN (j := 0) Z Z Z Z Z Z (by decide)) Z <| zg 19 Z ⟨_, Z, Z⟩ (QE_fa Z Z Z Z) Z <| JA_1 20 V <| JB_q Z ⟨_, Z, Z⟩ (QE_ldsR 3 Z Z Z (hc4.le (Lr D)) Z) Z <| JA_1 21 V <| Jb Z ⟨_, Z, Z⟩ Z Z Z (sameS_ac D da _ _ 5 _ _ _ _ _ _ _ (hb8.le (h5.t h6|>.t h7|>.t h8|>.t h9|>.t h10|>.t h11|>.t h12|>.t h13|>.t h14|>.t h15|>.t h16)) (hb4.le (Lr D))) ?_
 rintro _ _ s17 h17 ⟨rfl, rfl⟩
 refine ⟨fun _ _ h => h, ?_⟩
 refine za 22 Z (QE_pickT Z Z) Z <| za 23 Z (QE_mv Z) Z <| zg 24 Z ⟨_, Z, Z⟩ (QE_ldA 3 [_, _] Z Z Z Z Z) Z <| JA_1 25 V <| Jb Z ⟨_, Z, Z⟩ Z Z Z (smallP_ac D _ _) ?_
 rintro _ _ s18 h18 ⟨rfl, bg6, bf6, rfl, hg6, hf6⟩
 refine ⟨fun _ _ h => h, ?_⟩
 refine JA_1 26 V <| Jb Z ⟨_, Z, Z⟩ Z Z Z (sameP_ac D _ _ db smallP _ _ _ _ _ _ (hgb.le (h8.t h9|>.t h10|>.t h11|>.t h12|>.t h13|>.t h14|>.t h15|>.t h16|>.t h17|>.t h18)) (hfb.le (h8.t h9|>.t h10|>.t h11|>.t h12|>.t h13|>.t h14|>.t h15|>.t h16|>.t h17|>.t h18)) 5 _ _ _ _ _ _ (hg6.le (Lr D)) (hf6.le (Lr D))) ?_
 rintro _ _ s19 h19 ⟨rfl, rfl⟩
 refine ⟨fun _ _ h => h, ?_⟩
 refine za 27 Z (QE_pickT Z Z) Z <| za 28 Z (QE_mv Z) Z <| zg 29 Z ⟨_, Z, Z⟩ (QE_ldA 0 [_, _] Z Z Z Z Z) Z <| JA_1 30 V <| Jb Z ⟨_, Z, Z⟩ Z Z Z (at_ac D _ _ _ _) ?_
 rintro _ _ s20 h20 ⟨rfl, rfl⟩
 refine ⟨fun _ _ h => h, ?_⟩
 refine zg 31 Z ⟨_, Z, Z⟩ (QE_cast (v' := .bool true) (QE_aeq Z Z (eqFault _ _ _ _)) (bT ⟨Z, Z⟩)) Z <| za 32 Z (QE_pickT Z Z) Z <| za 33 Z (QE_mv Z) Z <| JA_1 34 V <| Jb Z ⟨_, Z, Z⟩ Z Z Z (keyword_ac D _ _ (hG.le (h1.t h2|>.t h3|>.t h4|>.t h5|>.t h6|>.t h7|>.t h8|>.t h9|>.t h10|>.t h11|>.t h12|>.t h13|>.t h14|>.t h15|>.t h16|>.t h17|>.t h18|>.t h19|>.t h20)) [112, 117, 116]) ?_
 rintro _ _ s21 h21 ⟨rfl, rfl⟩
 refine ⟨fun _ _ h => h, ?_⟩
 refine za 35 Z (QE_pickT Z Z) Z <| za 36 Z (QE_as Z) Z <| JA_done V <| Zt <| Zo <| ?_
 refine retQ_mk [_, _, _, _, _, _, _] L (.inr Z) (.tmp Z (.nil)) Z (h1.t h2|>.t h3|>.t h4|>.t h5|>.t h6|>.t h7|>.t h8|>.t h9|>.t h10|>.t h11|>.t h12|>.t h13|>.t h14|>.t h15|>.t h16|>.t h17|>.t h18|>.t h19|>.t h20|>.t h21) (fun sR hS2 => ?_)
 exact ⟨congrArg Value.bool (show kwB [112, 117, 116] = true by decide +kernel), rfl⟩
end Go.Proofs.YtiljephghfngnaaGreatDoor
namespace Go.Proofs.YtiljephghfngnaaGreatDoor
open Go Go.FL
abbrev Tk := Int × Str × Int
def tk3 (k : Tk) : Prop := k.1 = 1 ∨ k.1 = 2 ∨ k.1 = 3
def sgK (w : Str) : Tk := (3, w, 0)
def wdK (w : Str) : Tk := (1, w, 0)
def nuK (n : Int) : Tk := (2, decS n, n)
def wsB (c : UInt8) : Bool := decide (c = 32) || decide (c = 9) || decide (c = 10)
def alB (c : UInt8) : Bool := letB c || digB c
theorem al_ws {c : UInt8} (h : alB c = true) : wsB c = false ∧ c ≠ 35 := by
  have : (97 ≤ c.toNat ∧ c.toNat ≤ 122) ∨ (48 ≤ c.toNat ∧ c.toNat ≤ 57) := by simpa [alB, letB, digB] using h
  refine ⟨?_, fun e => by subst e; revert this; decide⟩
  rw [Bool.eq_false_iff]
  intro hw
  have : c = 32 ∨ c = 9 ∨ c = 10 := by simp [wsB] at hw; rcases hw with (h | h) | h <;> simp [h]
  rcases this with e | e | e <;> subst e <;> revert h <;> decide
structure RT where
  kind : Int
  off : Nat
  text : Str
  num : Int
def rtS (u : Str) : Int × Str × Int := match u with
  | [] => (0, [], 0)
  | c :: r =>
    if letB c = true then (if kwB (wordL (c :: r)) = true then (4, wordL (c :: r), 0) else if identB (wordL (c :: r)) = true then (2, wordL (c :: r), 0) else (1, wordL (c :: r), 0))
    else if digB c = true then (match numL (digL (c :: r)) with
      | some n => (3, digL (c :: r), (n : Int))
      | none => (1, digL (c :: r), 0))
    else if c = 39 then (if chrB (c :: r) = true then (3, (c :: r).take 3, (((c :: r).getD 1 0).toNat : Int)) else (1, [], 0))
    else match signsP.find? fun x => x.isPrefixOf (c :: r) with
      | some x => (4, x, 0)
      | none => (1, [], 0)
def rtA (s : Str) (a : Nat) : RT := ⟨(rtS (s.drop a)).1, a, (rtS (s.drop a)).2.1, (rtS (s.drop a)).2.2⟩
def rtc (x : RT) : List Value := [.int .i64 x.kind, .int .i64 (x.off : Int), St x.text, .int .u32 x.num]
def gapN (s : Str) (a : Nat) : Nat := a + skL false (s.drop a)
inductive RL (s : Str) : Nat → List RT → Prop
  | stop {a : Nat} {t : RT} (h : t = rtA s (gapN s a)) (hk : t.kind ≤ 1) : RL s a [t]
  | next {a : Nat} {t : RT} {l : List RT} (h : t = rtA s (gapN s a)) (hk : ¬ t.kind ≤ 1) (hl : RL s (t.off + t.text.length) l) : RL s a (t :: l)
variable {u r : Str} {c : UInt8}
theorem rt_word (hu : u = c :: r) (hc : letB c = true) : rtS u = if kwB (wordL u) = true then (4, wordL u, 0) else if identB (wordL u) = true then (2, wordL u, 0) else (1, wordL u, 0) := by
  subst hu; rw [rtS, if_pos hc]
theorem rt_num (hu : u = c :: r) (hl : letB c = false) (hc : digB c = true) : rtS u = match numL (digL u) with
      | some n => (3, digL u, (n : Int))
      | none => (1, digL u, 0) := by
  subst hu; rw [rtS, if_neg (by rw [hl]; decide), if_pos hc]
theorem rt_num1 (hu : u = c :: r) (hl : letB c = false) (hc : digB c = true) (h : (numL (digL u)).isSome = true) : rtS u = (3, digL u, (((numL (digL u)).getD 0 : Nat) : Int)) := by
  rw [rt_num hu hl hc]
  cases hn : numL (digL u) with
  | none => rw [hn] at h; cases h
  | some n => rfl
theorem rt_num0 (hu : u = c :: r) (hl : letB c = false) (hc : digB c = true) (h : (numL (digL u)).isSome = false) : rtS u = (1, digL u, (((numL (digL u)).getD 0 : Nat) : Int)) := by
  rw [rt_num hu hl hc]
  cases hn : numL (digL u) with
  | none => rfl
  | some n => rw [hn] at h; cases h
theorem rt_chr (hu : u = c :: r) (hc : (c.toNat : Int) = 39) : rtS u = if chrB u = true then (3, u.take 3, ((u.getD 1 0).toNat : Int)) else (1, [], 0) := by
  subst hu
  obtain rfl : c = 39 := (byte_eq (n := 39) (by decide)).1 hc
  rw [rtS]; rfl
theorem rt_sign (hu : u = c :: r) (hl : letB c = false) (hd : digB c = false) (hc : ¬ (c.toNat : Int) = 39) : rtS u = match signsP.find? fun x => x.isPrefixOf u with
      | some x => (4, x, 0)
      | none => (1, [], 0) := by
  subst hu
  rw [rtS, if_neg (by rw [hl]; decide), if_neg (by rw [hd]; decide), if_neg (by rintro rfl; exact hc (by decide))]
def tkB (c d : UInt8) : Bool := (letB c && (letB d || digB d)) || (digB c && digB d)
def tkAt (c : UInt8) (l : Str) (k : Nat) : Bool := match l[k]? with
  | some d => tkB c d
  | none => false
variable {l : Str} {k : Nat} {d : UInt8}
theorem tk_no (h : ¬ k < l.length) : ¬ tkAt c l k = true := by rw [tkAt, List.getElem?_eq_none O]; simp
theorem tk_at (h : l[k]? = some d) : (tkAt c l k = true) = (tkB c d = true) := by rw [tkAt, h]
theorem tk_ll (h : l[k]? = some d) (h1 : letB c = true) (h2 : letB d = true) : tkAt c l k = true := by rw [tk_at h, tkB, h1, h2]; rfl
theorem tk_ld (h : l[k]? = some d) (h1 : letB c = true) (h2 : digB d = true) : tkAt c l k = true := by rw [tk_at h, tkB, h1, h2]; simp
theorem tk_dd (h : l[k]? = some d) (h1 : digB c = true) (h2 : digB d = true) : tkAt c l k = true := by rw [tk_at h, tkB, h1, h2]; simp
theorem tk_n1 (h : l[k]? = some d) (h1 : letB c = false) (h2 : digB c = false) : ¬ tkAt c l k = true := by rw [tk_at h, tkB, h1, h2]; simp
theorem tk_n2 (h : l[k]? = some d) (h1 : letB d = false) (h2 : digB d = false) : ¬ tkAt c l k = true := by rw [tk_at h, tkB, h1, h2]; simp
theorem tk_n3 (h : l[k]? = some d) (h1 : letB c = false) (h2 : digB d = false) : ¬ tkAt c l k = true := by rw [tk_at h, tkB, h1, h2]; simp
theorem tk_e1 (h : l[k]? = some d) (h1 : letB c = false) (h2 : digB c = true) : digB d = decide (tkAt c l k = true) := by
  have : (tkAt c l k = true) = (digB d = true) := by rw [tk_at h, tkB, h1, h2]; simp
  simp only [this, Bool.decide_eq_true]
theorem tk_e2 (h : l[k]? = some d) (h1 : letB d = false) (h2 : digB d = false) : digB d = decide (tkAt c l k = true) := by
  have := tk_n2 (c := c) h h1 h2
  rw [h2, decide_eq_false this]
theorem tk_step (h : tkAt c l k = true) : k < l.length ∧ k + 1 + ((l.drop (k + 1)).takeWhile (tkB c)).length = k + ((l.drop k).takeWhile (tkB c)).length := by
  unfold tkAt at h
  cases hc : l[k]? with
  | none => rw [hc] at h; cases h
  | some d =>
    rw [hc] at h
    exact ⟨(List.getElem?_eq_some_iff.1 hc).1, by rw [drop_at hc, List.takeWhile_cons, if_pos h, List.length_cons]; omega⟩
theorem tk_stop (h : ¬ tkAt c l k = true) : ((l.drop k).takeWhile (tkB c)).length = 0 := by
  unfold tkAt at h
  cases hc : l[k]? with
  | none => rw [List.drop_eq_nil_of_le (by have := List.getElem?_eq_none_iff.1 hc; omega)]; rfl
  | some d => rw [hc] at h; rw [drop_at hc, List.takeWhile_cons, if_neg h]; rfl
theorem let_dig (h : letB c = true) : digB c = false := by
  rw [Bool.eq_false_iff]; intro h2
  have := let_iff.1 h; have := dig_iff.1 h2; omega
theorem dig_let (h : digB c = true) : letB c = false := by
  rw [Bool.eq_false_iff]; intro h2
  have := let_iff.1 h2; have := dig_iff.1 h; omega
theorem tk_word (h : letB c = true) : u.takeWhile (tkB c) = wordL u := by
  unfold wordL; congr 1; funext d; simp [tkB, h, let_dig h]
theorem tk_dig (h : digB c = true) : u.takeWhile (tkB c) = digL u := by
  unfold digL; congr 1; funext d; simp [tkB, h, dig_let h]
theorem tk_pos (hu : u = c :: r) (h : 0 < (u.takeWhile (tkB c)).length) (hd : digB c = false) : letB c = true := by
  subst hu
  cases hl : letB c with
  | true => rfl
  | false =>
    rw [List.takeWhile_cons, show tkB c c = false by simp [tkB, hl, hd]] at h
    simp at h
theorem tk_zero (hu : u = c :: r) (h : ¬ 0 < (u.takeWhile (tkB c)).length) : letB c = false ∧ digB c = false := by
  subst hu
  rw [List.takeWhile_cons] at h
  split at h
  · simp at h
  · rename_i h1
    simp only [tkB, Bool.not_eq_true, Bool.or_eq_false_iff, Bool.and_eq_false_iff] at h1
    refine ⟨?_, ?_⟩
    · rcases h1.1 with h | h
      · exact h
      · exact h.1
    · rcases h1.2 with h | h <;> exact h
theorem pre_iff {x : Str} : (u.take x.length = x) ↔ x.isPrefixOf u = true := by
  rw [List.isPrefixOf_iff_prefix]
  constructor
  · intro h; exact ⟨u.drop x.length, by rw [← List.take_append_drop x.length u, h]; simp⟩
  · rintro ⟨t, rfl⟩; simp
theorem pre_long {x : Str} (h : u.length < x.length) : ¬ x.isPrefixOf u = true := by
  rw [List.isPrefixOf_iff_prefix]
  intro hp
  have := hp.length_le; omega
theorem rtS_ok (u : Str) : (rtS u).2.1.length ≤ u.length ∧ U32 (rtS u).2.2 ∧ (¬ (rtS u).1 ≤ 1 → 0 < (rtS u).2.1.length) := by
  have u0 : U32 0 := ⟨by decide, by decide⟩
  unfold rtS
  split
  · exact ⟨Nat.zero_le _, u0, fun h => absurd (by decide : (0 : Int) ≤ 1) h⟩
  · rename_i c r
    have h1 : (wordL (c :: r)).length ≤ (c :: r).length := take_le _
    have h1' : (digL (c :: r)).length ≤ (c :: r).length := take_le _
    split
    · rename_i hc
      have h2 : 0 < (wordL (c :: r)).length := by simp [wordL, hc]
      split
      · exact ⟨h1, u0, fun _ => h2⟩
      · split
        · exact ⟨h1, u0, fun _ => h2⟩
        · exact ⟨h1, u0, fun _ => h2⟩
    · split
      · rename_i hc
        have h2 : 0 < (digL (c :: r)).length := by simp [digL, hc]
        split
        · rename_i n hn
          have h3 := (numL_some hn).2
          exact ⟨h1', ⟨by show (0 : Int) ≤ (n : Int); omega, by show (n : Int) < 4294967296; omega⟩, fun _ => h2⟩
        · exact ⟨h1', u0, fun _ => h2⟩
      · split
        · split
          · rename_i hc
            have h3 := chr_len hc
            have := ((c :: r).getD 1 0).toNat_lt
            exact ⟨by show ((c :: r).take 3).length ≤ _; rw [List.length_take]; omega, ⟨by show (0 : Int) ≤ (((c :: r).getD 1 0).toNat : Int); omega, by show (((c :: r).getD 1 0).toNat : Int) < 4294967296; omega⟩, fun _ => by show 0 < ((c :: r).take 3).length; rw [List.length_take]; omega⟩
          · exact ⟨Nat.zero_le _, u0, fun h => absurd (by decide : (1 : Int) ≤ 1) h⟩
        · split
          · rename_i x hx
            have h1 := List.find?_some hx
            have h2 := List.mem_of_find?_eq_some hx
            have h3 : 0 < x.length := (show ∀ x ∈ signsP, 0 < x.length by decide) x h2
            have h4 : x.length ≤ (c :: r).length := (List.isPrefixOf_iff_prefix.1 h1).length_le
            exact ⟨h4, u0, fun _ => h3⟩
          · exact ⟨Nat.zero_le _, u0, fun h => absurd (by decide : (1 : Int) ≤ 1) h⟩
end Go.Proofs.YtiljephghfngnaaGreatDoor
