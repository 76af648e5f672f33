/- The law SyntaxParseMatchesSpec: for every input of bulk at most 1048576 it returns true, and its arguments read behind the call az they read before; what the package-level variables of the library hold is tied tgt the text of the program. Part 8 of the proof of syntaxParseMatchesSpec_holds: texts U6, U7, U8, U9, Rj, Rt, Rv, Rw, Q27. -/
import Derived.Test.YtiljephghfngnaaGreatDoorQ27x7
import Derived.ProofKit
import Derived.OpenShut
import Derived.SizedLaws
import Derived.Deep.Slices
import Derived.Test.YtiljephghfngnaaGreatDoorRows
import Derived.Lay
import Derived.Lib.LaidTab
import Derived.Stop.LaidErr
import Derived.SevenTiedAt
import Derived.Test.YtiljephghfngnaaGreatDoorCards
import Derived.Test.YtiljephghfngnaaGreatDoorTie
import Derived.ChangeMaps5
import Derived.JoinedCond
set_option linter.unusedVariables false
set_option linter.unusedSimpArgs false
set_option linter.unnecessarySimpa false
set_option maxRecDepth 100000
set_option maxHeartbeats 8000000
namespace Go.Proofs.YtiljephghfngnaaGreatDoor
open Go.FL
attribute [local irreducible] JC JO JA JB thenQ blockQ retQ AC fill CellsAt QE Ev Mid
def RCN (l : Str) (ts : List RT) (N : Nat) : Prop := ∀ (D : Nat) (L : Hl) (s : World) (A : Option Addr) (n c i : Nat) (t : PS) (m : Nat) (hT : Rts s A n c ts) (hz : ts.length ≤ 20000) (ht : TA l ts i t) (hN : ts.length ≤ i + N) (hr : nmR l m t.next.text (advP l t) ≠ .out) (hnm : isNm t = true),
  AC Tryz.prog D 121 [.slice A n c, .int .i64 (i : Int)] L s fun v L' s' => L = L' ∧ RX l ts i StV (nmR l m t.next.text (advP l t)) s' v
theorem w5_at {s : World} {b k : Nat} (h : CellsAt s b 0 [St [114, 101, 116, 117, 114, 110], St [112, 117, 116], St [115, 116, 111, 112], St [98, 114, 101, 97, 107], St [99, 111, 110, 116, 105, 110, 117, 101]]) (hk : k < 5) : CellsAt s b (0 + k) [St (w5.getD k [])] := by
  unfold CellsAt at h
  exact CellsAt.one (h k (St (w5.getD k [])) (by
    have h2 : k < w5.length := hk
    show (w5.map fun x => St x)[k]? = _
    rw [List.getElem?_map, List.getD_eq_getElem?_getD, List.getElem?_eq_getElem h2]; rfl))
theorem w5_id (k : Nat) : identB (w5.getD k []) = false := by
  rcases Nat.lt_or_ge k 5 with h | h
  · have : ∀ n : _root_.Fin 5, identB (w5.getD n.val []) = false := by decide +kernel
    exact this ⟨k, h⟩
  · rw [List.getD_eq_getElem?_getD, List.getElem?_eq_none (by show 5 ≤ k; omega)]; rfl
theorem rif_st (l : Str) (ts : List RT) (N : Nat) (ihG : RCG l ts (N + 1)) (ihB : RCB l ts N) (ihI : RCI l ts N) : RCI l ts (N + 1) := by
 intro D L s A n c i t m hT hz ht hN hr
 refine AC.pubW (R := fun v s => RX l ts i StV (pIf l m t) s v) ?_
 try dsimp only at hr
 obtain ⟨r, hq⟩ : ∃ r, r = pIf l m t := ⟨_, rfl⟩
 rw [← hq] at hr ⊢
 have hn := hT.1
 have hn2 := hT.2.1
 have hn3 := hT.2.2.1
 have hi0 := ht.lt
 obtain ⟨m, rfl⟩ := if_pos' hq hr
 rw [if_grd] at hq
 refine AC_enter (TT := TT) (fn := Tryz.f122) TT_ok Tryz.func122 V Z Tryz.ntmps122 Z (rs := [.cell 4 100, .tmp 5, .tmp 6]) Z [(0, _), (1, _)] Z <| Sr <| JO_allocZ Z [_, _, _, _, _] Z Z ?_
 intro β1 s1 h1
 refine Zqa Z Z <| At Z Z <| Sr <| Zqm Z Z <| Zqm Z Z <| Jc Z Z Z (ihG 3 D _ _ _ n c i t _ (hT.le h1) hz ht O (andOut hq hr)) ?_
 rintro _ _ s2 h2 ⟨rfl, (⟨x2, _, k2, t2, rfl, ⟨d2, P2, p2, o2, Q2, q2, u2, R2, m2, e2, rfl, hE2, hB2, hL2, hn2⟩, ht2, hk2, he2⟩ | ⟨x2, _, k2, t2, rfl, ⟨d2, P2, p2, o2, Q2, q2, u2, R2, m2, e2, rfl, hE2, hB2, hL2, hn2⟩, ht2, hk2, he2⟩)⟩
 ·
  have hl2 := ht2.lt
  try dsimp only at he2
  rw [he2] at hq
  simp only [okPR, erPR] at hq
  refine Zqm Z Z <| Zqx Z Z Z <| Zqx Z Z Z <| Zqx Z Z Z <| JO_allocZ Z [_, _, _, _, _] Z Z ?_
  intro β3 s3 h3
  refine Wt 0 [_, _, _, _, _] Y9 <| Zqa Z Z <| At Z Z <| Zs <| Sr <| Zqm Z Z <| ZqnT Z Z <| Zqm Z Z <| Zg Z Z <| Zqm Z Z <| Zg Z Z <| Zqm Z Z <| Zg Z Z <| Jc Z Z Z (risf_ac l ts D _ _ _ n c k2 t2 (hT.le (h1.t h2|>.t h3)) hz ht2 [101, 108, 115, 101] (by decide +kernel)) ?_
  rintro _ _ s4 h4 ⟨rfl, (⟨hb4, rfl⟩ | ⟨hb4, rfl⟩)⟩
  ·
   rw [if_pos hb4] at hq
   refine Zg Z Z <| ZqnT Z Z <| ZqF Z Z Z <| Nt <| Zz Z <| Zk <| Zt <| Zs <| Sr <| Zqm Z Z <| Zqm Z Z <| JO_q (QE_addN 1 Z Z O) Z <| Jc Z Z Z (risf_ac l ts D _ _ _ n c (k2 + 1) (advP l t2) (hT.le (h1.t h2|>.t h3|>.t h4)) hz (ht2.isN hb4) [105, 102] (by decide +kernel)) ?_
   rintro _ _ s5 h5 ⟨rfl, (⟨hb5, rfl⟩ | ⟨hb5, rfl⟩)⟩
   ·
    rw [if_pos hb5] at hq
    refine Nt <| Zy Z <| Sr <| Zqm Z Z <| Zqm Z Z <| JO_q (QE_addN 2 Z Z O) Z <| Jc Z Z Z (ihI D _ _ _ n c ((k2 + 1) + 1) (advP l (advP l t2)) _ (hT.le (h1.t h2|>.t h3|>.t h4|>.t h5)) hz ((ht2.isN hb4).isN hb5) O (andOut hq hr)) ?_
    rintro _ _ s6 h6 ⟨rfl, (⟨x6, _, k6, t6, rfl, ⟨d6, P6, p6, o6, Q6, q6, u6, R6, m6, e6, rfl, hE6, hB6, hL6, hn6⟩, ht6, hk6, he6⟩ | ⟨x6, _, k6, t6, rfl, ⟨d6, P6, p6, o6, Q6, q6, u6, R6, m6, e6, rfl, hE6, hB6, hL6, hn6⟩, ht6, hk6, he6⟩)⟩
    ·
     have hl6 := ht6.lt
     try dsimp only at he6
     rw [he6] at hq
     simp only [okPR, erPR] at hq
     refine Zqm Z Z <| Zqx Z Z Z <| Zqx Z Z Z <| Zqx Z Z Z <| JO_allocZ Z [_, _, _, _, _] Z Z ?_
     intro β7 s7 h7
     refine Wt 0 [_, _, _, _, _] Y9 <| Zqa Z Z <| At Z Z <| Sr <| JO_q (QE_ldA 0 [_, _, _, _, _] Z Z Z Z Z) Z <| JO_bs [(_, _)] [_, _, _, _, _] Z Z Z Z Z Z Z Z Z ?_
     intro β8 s8 h8 hc8
     refine Wb Y5 <| Wt 1 [_, _, _, _, _] Y9 <| Nt <| Sr <| JO_q (QE_ldA 1 [_, _, _, _, _] Z Z Z Z Z) Z <| Zqm Z Z <| Zqm Z Z <| Wt 2 [_, _, _, _, _] Y9 <| Zqa Z Z <| At Z Z <| Zo <| Zu <| ?_
     refine retQ_mk [_, _, _] L (.inr Z) (.agg (us := [_, _, _, _, _]) 2 Z Z Z Z Z (.tmp Z (.tmp Z (.nil)))) Z (h1.t h2|>.t h3|>.t h4|>.t h5|>.t h6|>.t h7|>.t h8) (fun sR hS2 => ?_)
     exact ⟨[], rfl, fun s2 hs2 hp => .inl ⟨setEls x2 [x6], _, _, _, rfl, ⟨d2 + d6 + 1, P2, p2, o2, Q2, q2, u2, _, 1, 1, rfl, (hE2.le (h3.t h4|>.t h5|>.t h6|>.t h7|>.t h8|>.t (hS2.t hs2))).up O, (hB2.le (h3.t h4|>.t h5|>.t h6|>.t h7|>.t h8|>.t (hS2.t hs2))).up O, (st_one (hc8.le ((Lr D).t (hS2.t hs2))) (hE6.le (h7.t h8|>.t (hS2.t hs2))) (hB6.le (h7.t h8|>.t (hS2.t hs2))) (hL6.le (h7.t h8|>.t (hS2.t hs2))) hn6).up O, hn2⟩, ht6, O, hq⟩⟩
    have hl6 := ht6.lt
    try dsimp only at he6
    rw [he6] at hq
    simp only [okPR, erPR] at hq
    refine Zqm Z Z <| Zqx Z Z Z <| Zqx Z Z Z <| Zqx Z Z Z <| JO_allocZ Z [_, _, _, _, _] Z Z ?_
    intro β9 s9 h9
    refine Wt 0 [_, _, _, _, _] Y9 <| Zqa Z Z <| At Z Z <| Sr <| JO_q (QE_ldA 0 [_, _, _, _, _] Z Z Z Z Z) Z <| JO_bs [(_, _)] [_, _, _, _, _] Z Z Z Z Z Z Z Z Z ?_
    intro β10 s10 h10 hc10
    refine Wb Y5 <| Wt 1 [_, _, _, _, _] Y9 <| Nt <| Sr <| JO_q (QE_ldA 1 [_, _, _, _, _] Z Z Z Z Z) Z <| Zqm Z Z <| Zqm Z Z <| Wt 2 [_, _, _, _, _] Y9 <| Zqa Z Z <| At Z Z <| Zo <| Zu <| ?_
    refine retQ_mk [_, _, _] L (.inr Z) (.agg (us := [_, _, _, _, _]) 2 Z Z Z Z Z (.tmp Z (.tmp Z (.nil)))) Z (h1.t h2|>.t h3|>.t h4|>.t h5|>.t h6|>.t h9|>.t h10) (fun sR hS2 => ?_)
    exact ⟨[], rfl, fun s2 hs2 hp => .inr ⟨setEls x2 [x6], _, _, _, rfl, ⟨d2 + d6 + 1, P2, p2, o2, Q2, q2, u2, _, 1, 1, rfl, (hE2.le (h3.t h4|>.t h5|>.t h6|>.t h9|>.t h10|>.t (hS2.t hs2))).up O, (hB2.le (h3.t h4|>.t h5|>.t h6|>.t h9|>.t h10|>.t (hS2.t hs2))).up O, (st_one (hc10.le ((Lr D).t (hS2.t hs2))) (hE6.le (h9.t h10|>.t (hS2.t hs2))) (hB6.le (h9.t h10|>.t (hS2.t hs2))) (hL6.le (h9.t h10|>.t (hS2.t hs2))) hn6).up O, hn2⟩, ht6, O, hq⟩⟩
   rw [if_neg (bNe hb5)] at hq
   refine Nt <| Zz Z <| Zk <| Zt <| Zs <| Sr <| Zqm Z Z <| Zqm Z Z <| JO_q (QE_addN 1 Z Z O) Z <| Jc Z Z Z (risf_ac l ts D _ _ _ n c (k2 + 1) (advP l t2) (hT.le (h1.t h2|>.t h3|>.t h4|>.t h5)) hz (ht2.isN hb4) [123] (by decide +kernel)) ?_
   rintro _ _ s11 h11 ⟨rfl, (⟨hb11, rfl⟩ | ⟨hb11, rfl⟩)⟩
   ·
    rw [expY hb11] at hq
    simp only [exp0, okPR, erPR] at hq
    refine ZqnT Z Z <| Nt <| Zz Z <| Zk <| Zt <| Sr <| Zqm Z Z <| Zqm Z Z <| JO_q (QE_addN 2 Z Z O) Z <| Jc Z Z Z (ihB D _ _ _ n c ((k2 + 1) + 1) (advP l (advP l t2)) _ (hT.le (h1.t h2|>.t h3|>.t h4|>.t h5|>.t h11)) hz ((ht2.isN hb4).isN hb11) O (andOut hq hr)) ?_
    rintro _ _ s12 h12 ⟨rfl, (⟨x12, _, k12, t12, rfl, ⟨d12, A12, n12, c12, rfl, hE12⟩, ht12, hk12, he12⟩ | ⟨x12, _, k12, t12, rfl, ⟨d12, A12, n12, c12, rfl, hE12⟩, ht12, hk12, he12⟩)⟩
    ·
     have hl12 := ht12.lt
     try dsimp only at he12
     rw [he12] at hq
     simp only [okPR, erPR] at hq
     refine Zqm Z Z <| Zqx Z Z Z <| Zqx Z Z Z <| Zqx Z Z Z <| Wb Y5 <| Wt 0 [_, _, _, _, _] Y9 <| Zqa Z Z <| At Z Z <| Sr <| JO_q (QE_ldA 0 [_, _, _, _, _] Z Z Z Z Z) Z <| Zqm Z Z <| Zqm Z Z <| Wt 1 [_, _, _, _, _] Y9 <| Zqa Z Z <| At Z Z <| Zo <| ?_
     refine retQ_mk [_, _] L (.inr Z) (.agg (us := [_, _, _, _, _]) 1 Z Z Z Z Z (.tmp Z (.tmp Z (.nil)))) Z (h1.t h2|>.t h3|>.t h4|>.t h5|>.t h11|>.t h12) (fun sR hS2 => ?_)
     exact ⟨[], rfl, fun s2 hs2 hp => .inl ⟨setEls x2 x12, _, _, _, rfl, ⟨d2 + d12, P2, p2, o2, Q2, q2, u2, A12, n12, c12, rfl, (hE2.le (h3.t h4|>.t h5|>.t h11|>.t h12|>.t (hS2.t hs2))).up O, (hB2.le (h3.t h4|>.t h5|>.t h11|>.t h12|>.t (hS2.t hs2))).up O, (hE12.le ((Lr D).t (hS2.t hs2))).up O, hn2⟩, ht12, O, hq⟩⟩
    have hl12 := ht12.lt
    try dsimp only at he12
    rw [he12] at hq
    simp only [okPR, erPR] at hq
    refine Zqm Z Z <| Zqx Z Z Z <| Zqx Z Z Z <| Zqx Z Z Z <| Wb Y5 <| Wt 0 [_, _, _, _, _] Y9 <| Zqa Z Z <| At Z Z <| Sr <| JO_q (QE_ldA 0 [_, _, _, _, _] Z Z Z Z Z) Z <| Zqm Z Z <| Zqm Z Z <| Wt 1 [_, _, _, _, _] Y9 <| Zqa Z Z <| At Z Z <| Zo <| ?_
    refine retQ_mk [_, _] L (.inr Z) (.agg (us := [_, _, _, _, _]) 1 Z Z Z Z Z (.tmp Z (.tmp Z (.nil)))) Z (h1.t h2|>.t h3|>.t h4|>.t h5|>.t h11|>.t h12) (fun sR hS2 => ?_)
    exact ⟨[], rfl, fun s2 hs2 hp => .inr ⟨setEls x2 x12, _, _, _, rfl, ⟨d2 + d12, P2, p2, o2, Q2, q2, u2, A12, n12, c12, rfl, (hE2.le (h3.t h4|>.t h5|>.t h11|>.t h12|>.t (hS2.t hs2))).up O, (hB2.le (h3.t h4|>.t h5|>.t h11|>.t h12|>.t (hS2.t hs2))).up O, (hE12.le ((Lr D).t (hS2.t hs2))).up O, hn2⟩, ht12, O, hq⟩⟩
   rw [expN hb11] at hq
   simp only [okPR, erPR] at hq
   refine ZqnF Z Z <| Nt <| Zy Z <| Sr <| JO_q (QE_ldA 0 [_, _, _, _, _] Z Z Z Z Z) Z <| Zqm Z Z <| JO_q (QE_addN 1 Z Z O) Z <| Wt 1 [_, _, _, _, _] Y9 <| Zqa Z Z <| At Z Z <| Zo <| Zu <| ?_
   refine retQ_mk [_, _] L (.inr Z) (.agg (us := [_, _, _, _, _]) 1 Z Z Z Z Z (.tmp Z (.tmp Z (.nil)))) Z (h1.t h2|>.t h3|>.t h4|>.t h5|>.t h11) (fun sR hS2 => ?_)
   exact ⟨[], rfl, fun s2 hs2 hp => .inr ⟨x2, _, _, _, rfl, ⟨d2, P2, p2, o2, Q2, q2, u2, R2, m2, e2, rfl, hE2.le (h3.t h4|>.t h5|>.t h11|>.t (hS2.t hs2)), hB2.le (h3.t h4|>.t h5|>.t h11|>.t (hS2.t hs2)), hL2.le (h3.t h4|>.t h5|>.t h11|>.t (hS2.t hs2)), hn2⟩, (ht2.isN hb4), O, hq⟩⟩
  rw [if_neg (bNe hb4)] at hq
  refine Zg Z Z <| ZqnF Z Z <| ZqF Z Z Z <| Nt <| Zy Z <| Sr <| JO_q (QE_ldA 0 [_, _, _, _, _] Z Z Z Z Z) Z <| Zqm Z Z <| Zqm Z Z <| Wt 1 [_, _, _, _, _] Y9 <| Zqa Z Z <| At Z Z <| Zo <| Zu <| ?_
  refine retQ_mk [_, _] L (.inr Z) (.agg (us := [_, _, _, _, _]) 1 Z Z Z Z Z (.tmp Z (.tmp Z (.nil)))) Z (h1.t h2|>.t h3|>.t h4) (fun sR hS2 => ?_)
  exact ⟨[], rfl, fun s2 hs2 hp => .inl ⟨x2, _, _, _, rfl, ⟨d2, P2, p2, o2, Q2, q2, u2, R2, m2, e2, rfl, hE2.le (h3.t h4|>.t (hS2.t hs2)), hB2.le (h3.t h4|>.t (hS2.t hs2)), hL2.le (h3.t h4|>.t (hS2.t hs2)), hn2⟩, ht2, O, hq⟩⟩
 have hl2 := ht2.lt
 try dsimp only at he2
 rw [he2] at hq
 simp only [okPR, erPR] at hq
 refine Zqm Z Z <| Zqx Z Z Z <| Zqx Z Z Z <| Zqx Z Z Z <| JO_allocZ Z [_, _, _, _, _] Z Z ?_
 intro β13 s13 h13
 refine Wt 0 [_, _, _, _, _] Y9 <| Zqa Z Z <| At Z Z <| Zs <| Sr <| Zqm Z Z <| ZqnF Z Z <| Zqm Z Z <| Wf Y4 <| Wf Y4 <| Wf Y4 <| Wf Y4 <| ZqT Z Z Z <| Nt <| Zy Z <| Sr <| JO_q (QE_ldA 0 [_, _, _, _, _] Z Z Z Z Z) Z <| Zqm Z Z <| Zqm Z Z <| Wt 1 [_, _, _, _, _] Y9 <| Zqa Z Z <| At Z Z <| Zo <| Zu <| ?_
 refine retQ_mk [_, _] L (.inr Z) (.agg (us := [_, _, _, _, _]) 1 Z Z Z Z Z (.tmp Z (.tmp Z (.nil)))) Z (h1.t h2|>.t h13) (fun sR hS2 => ?_)
 exact ⟨[], rfl, fun s2 hs2 hp => .inr ⟨x2, _, _, _, rfl, ⟨d2, P2, p2, o2, Q2, q2, u2, R2, m2, e2, rfl, hE2.le (h13.t (hS2.t hs2)), hB2.le (h13.t (hS2.t hs2)), hL2.le (h13.t (hS2.t hs2)), hn2⟩, ht2, O, hq⟩⟩
theorem rnamed_st (l : Str) (ts : List RT) (N : Nat) : RCN l ts N := by
 intro D L s A n c i t m hT hz ht hN hr hnm
 refine AC.pubW (R := fun v s => RX l ts i StV (nmR l m t.next.text (advP l t)) s v) ?_
 try dsimp only at hr
 obtain ⟨r, hq⟩ : ∃ r, r = nmR l m t.next.text (advP l t) := ⟨_, rfl⟩
 rw [← hq] at hr ⊢
 have hn := hT.1
 have hn2 := hT.2.1
 have hn3 := hT.2.2.1
 obtain ⟨x0, hx0, hr0, hi0⟩ := ht.at_
 obtain ⟨b0, o0, x00, rfl, hx00, hc0, hxl0, hxu0⟩ := Rts.at_ hT (show i < n by omega)
 obtain rfl : x0 = x00 := Option.some.inj (hx0.symm.trans hx00)
 have hk2 := hr0.nm.1 hnm
 rw [← hr0.nmT hk2] at hq
 rw [nmR] at hq
 have ihE := (exp_ref l ts N).1
 have ihL := (exp_ref l ts N).2
 refine AC_enter (TT := TT) (fn := Tryz.f121) TT_ok Tryz.func121 V Z Tryz.ntmps121 Z (rs := [.cell 4 100, .tmp 5, .tmp 6]) Z [(0, _), (1, _)] Z <| Sr <| JO_allocZ Z [_, _, _, _, _] Z Z ?_
 intro β1 s1 h1
 refine Zqa Z Z <| At Z Z <| Zs <| ?_
 
 refine Zr <| Zqm Z Z <| Zqm Z Z <| JO_q (QE_iaN Z Z Z Z Z Z (show i < n by omega)) Z <| JO_q (QE_fa Z Z Z Z) Z <| JO_q (QE_ldsR 2 Z Z Z (hc0.le h1) Z) Z <| JO_q (QE_build [(_, _), (_, _)] [_, _, _, _, _] Z Z Z Z Z Z) Z <| JO_allocZ Z [_, _, _, _, _] Z Z ?_
 intro β2 s2 h2
 refine Wt 0 [_, _, _, _, _] Y9 <| Nt <| Sr <| Zqm Z Z <| JO_q (QE_addN 1 Z Z O) Z <| At Z Z <| Zs <| Sr <| Zqm Z Z <| Zqm Z Z <| Jc Z Z Z (risf_ac l ts D _ _ _ n c (i + 1) (advP l t) (hT.le (h1.t h2)) hz (ht.nmN hnm) [40] (by decide +kernel)) ?_
 rintro _ _ s3 h3 ⟨rfl, (⟨hb3, rfl⟩ | ⟨hb3, rfl⟩)⟩
 ·
  rw [if_pos hb3] at hq
  refine Nt <| Zy Z <| Sr <| W0 Y5 <| Wt 0 [_, _, _, _, _] Y9 <| Nt <| Sr <| Zqm Z Z <| Zqm Z Z <| JO_q (QE_addN 1 Z Z O) Z <| Jc Z Z Z (ihL D _ _ _ n c ((i + 1) + 1) (advP l (advP l t)) _ (hT.le (h1.t h2|>.t h3)) hz ((ht.nmN hnm).isN hb3) O (andOut hq hr)) ?_
  rintro _ _ s4 h4 ⟨rfl, (⟨x4, _, k4, t4, rfl, ⟨d4, A4, n4, c4, rfl, hE4⟩, ht4, hk4, he4⟩ | ⟨x4, _, k4, t4, rfl, ⟨d4, A4, n4, c4, rfl, hE4⟩, ht4, hk4, he4⟩)⟩
  ·
   have hl4 := ht4.lt
   try dsimp only at he4
   rw [he4] at hq
   simp only [okPR, erPR] at hq
   refine Zqm Z Z <| Zqx Z Z Z <| Zqx Z Z Z <| Zqx Z Z Z <| Zqa Z Z <| Zqa Z Z <| At Z Z <| Sr <| Zqm Z Z <| Wb Y5 <| Wt 0 [_, _, _, _, _] Y9 <| Nt <| Sr <| Zqm Z Z <| JO_q (QE_ldA 0 [_, _, _, _, _] Z Z Z Z Z) Z <| Zqm Z Z <| Zqm Z Z <| Jc Z Z Z (rcloT_ac l ts D _ _ _ n c k4 t4 (hT.le (h1.t h2|>.t h3|>.t h4)) hz ht4 _ _ _ _ _ _ _ _ _ _ _) ?_
   rintro _ _ s5 h5 ⟨rfl, (⟨hb5, rfl⟩ | ⟨hb5, rfl⟩)⟩
   ·
    rw [expY hb5] at hq
    simp only [exp0, okPR, erPR] at hq
    refine Zqx Z Z Z <| Zqx Z Z Z <| Zqx Z Z Z <| Wt 1 [_, _, _, _, _] Y9 <| Zqa Z Z <| At Z Z <| Zo <| Zu <| ?_
    refine retQ_mk [_, _] _ (.inr Z) (.agg (us := [_, _, _, _, _]) 1 Z Z Z Z Z (.tmp Z (.tmp Z (.nil)))) Z (h1.t h2|>.t h3|>.t h4|>.t h5) (fun sR hS2 => ?_)
    exact ⟨[], rfl, fun s2 hs2 hp => .inl ⟨.mk 5 x0.text x4 [] [], _, _, _, rfl, ⟨d4, A4, n4, c4, none, 0, 0, none, 0, 0, rfl, hE4.le (h5.t (hS2.t hs2)), stms_nil _ _, stms_nil _ _, hxl0⟩, (ht4.isN hb5), O, hq⟩⟩
   rw [expN hb5] at hq
   simp only [okPR, erPR] at hq
   refine Zqx Z Z Z <| Zqx Z Z Z <| Zqx Z Z Z <| Wt 1 [_, _, _, _, _] Y9 <| Zqa Z Z <| At Z Z <| Zo <| Zu <| ?_
   refine retQ_mk [_, _] _ (.inr Z) (.agg (us := [_, _, _, _, _]) 1 Z Z Z Z Z (.tmp Z (.tmp Z (.nil)))) Z (h1.t h2|>.t h3|>.t h4|>.t h5) (fun sR hS2 => ?_)
   exact ⟨[], rfl, fun s2 hs2 hp => .inr ⟨.mk 5 x0.text x4 [] [], _, _, _, rfl, ⟨d4, A4, n4, c4, none, 0, 0, none, 0, 0, rfl, hE4.le (h5.t (hS2.t hs2)), stms_nil _ _, stms_nil _ _, hxl0⟩, ht4, O, hq⟩⟩
  have hl4 := ht4.lt
  try dsimp only at he4
  rw [he4] at hq
  simp only [okPR, erPR] at hq
  refine Zqm Z Z <| Zqx Z Z Z <| Zqx Z Z Z <| Zqx Z Z Z <| Zqa Z Z <| Zqa Z Z <| At Z Z <| Sr <| Zqm Z Z <| Wb Y5 <| Wt 0 [_, _, _, _, _] Y9 <| Nt <| Sr <| Zqm Z Z <| JO_q (QE_ldA 0 [_, _, _, _, _] Z Z Z Z Z) Z <| Zqm Z Z <| Zqm Z Z <| Jc Z Z Z (rcloF_ac l ts D _ _ _ n c k4 t4 (hT.le (h1.t h2|>.t h3|>.t h4)) hz ht4 _ _ _ _ _ _ _ _ _ _ _) ?_
  rintro _ _ s6 h6 ⟨rfl, rfl⟩
  refine Zqx Z Z Z <| Zqx Z Z Z <| Zqx Z Z Z <| Wt 1 [_, _, _, _, _] Y9 <| Zqa Z Z <| At Z Z <| Zo <| Zu <| ?_
  refine retQ_mk [_, _] _ (.inr Z) (.agg (us := [_, _, _, _, _]) 1 Z Z Z Z Z (.tmp Z (.tmp Z (.nil)))) Z (h1.t h2|>.t h3|>.t h4|>.t h6) (fun sR hS2 => ?_)
  exact ⟨[], rfl, fun s2 hs2 hp => .inr ⟨.mk 5 x0.text x4 [] [], _, _, _, rfl, ⟨d4, A4, n4, c4, none, 0, 0, none, 0, 0, rfl, hE4.le (h6.t (hS2.t hs2)), stms_nil _ _, stms_nil _ _, hxl0⟩, ht4, O, hq⟩⟩
 rw [if_neg (bNe hb3)] at hq
 refine Nt <| Zz Z <| Zk <| Zt <| Zs <| Sr <| Zqm Z Z <| Zqm Z Z <| Jc Z Z Z (risf_ac l ts D _ _ _ n c (i + 1) (advP l t) (hT.le (h1.t h2|>.t h3)) hz (ht.nmN hnm) [91] (by decide +kernel)) ?_
 rintro _ _ s7 h7 ⟨rfl, (⟨hb7, rfl⟩ | ⟨hb7, rfl⟩)⟩
 ·
  rw [if_pos hb7] at hq
  refine Nt <| Zy Z <| Sr <| W0 Y5 <| Wt 0 [_, _, _, _, _] Y9 <| Nt <| Sr <| Zqm Z Z <| Zqm Z Z <| JO_q (QE_addN 1 Z Z O) Z <| Jc Z Z Z (ihE D _ _ _ n c ((i + 1) + 1) (advP l (advP l t)) _ (hT.le (h1.t h2|>.t h3|>.t h7)) hz ((ht.nmN hnm).isN hb7) O (andOut hq hr)) ?_
  rintro _ _ s8 h8 ⟨rfl, (⟨x8, _, k8, t8, rfl, ⟨d8, A8, n8, c8, rfl, hE8, hu8, hn8⟩, ht8, hk8, he8⟩ | ⟨x8, _, k8, t8, rfl, ⟨d8, A8, n8, c8, rfl, hE8, hu8, hn8⟩, ht8, hk8, he8⟩)⟩
  ·
   have hl8 := ht8.lt
   try dsimp only at he8
   rw [he8] at hq
   simp only [okPR, erPR] at hq
   refine Zqm Z Z <| Zqx Z Z Z <| Zqx Z Z Z <| Zqx Z Z Z <| JO_allocZ Z [_, _, _, _, _] Z Z ?_
   intro β9 s9 h9
   refine Wt 0 [_, _, _, _, _] Y9 <| Zqa Z Z <| At Z Z <| Zs <| Sr <| Zqm Z Z <| ZqnT Z Z <| Zqm Z Z <| Zg Z Z <| Zqm Z Z <| Zg Z Z <| Zqm Z Z <| Zg Z Z <| Jc Z Z Z (risf_ac l ts D _ _ _ n c k8 t8 (hT.le (h1.t h2|>.t h3|>.t h7|>.t h8|>.t h9)) hz ht8 [93] (by decide +kernel)) ?_
   rintro _ _ s10 h10 ⟨rfl, (⟨hb10, rfl⟩ | ⟨hb10, rfl⟩)⟩
   ·
    rw [expY hb10] at hq
    refine Zg Z Z <| ZqnT Z Z <| ZqF Z Z Z <| Nt <| Zz Z <| Zk <| Zt <| Sr <| JO_q (QE_ldA 0 [_, _, _, _, _] Z Z Z Z Z) Z <| JO_bs [(_, _)] [_, _, _, _, _] Z Z Z Z Z Z Z Z Z ?_
    intro β11 s11 h11 hc11
    refine Wb Y5 <| Wt 1 [_, _, _, _, _] Y9 <| Nt <| Zr <| Zqm Z Z <| JO_q (QE_addN 1 Z Z O) Z <| At Z Z <| Zs <| Sr <| Zqm Z Z <| Zqm Z Z <| Jc Z Z Z (risf_ac l ts D _ _ _ n c (k8 + 1) (advP l t8) (hT.le (h1.t h2|>.t h3|>.t h7|>.t h8|>.t h9|>.t h10|>.t h11)) hz (ht8.isN hb10) [61] (by decide +kernel)) ?_
    rintro _ _ s12 h12 ⟨rfl, (⟨hb12, rfl⟩ | ⟨hb12, rfl⟩)⟩
    ·
     rw [expY hb12] at hq
     simp only [exp0, okPR, erPR] at hq
     refine ZqnT Z Z <| Nt <| Zz Z <| Zk <| Zt <| Sr <| Zqm Z Z <| Zqm Z Z <| JO_q (QE_addN 1 Z Z O) Z <| Jc Z Z Z (ihE D _ _ _ n c ((k8 + 1) + 1) (advP l (advP l t8)) _ (hT.le (h1.t h2|>.t h3|>.t h7|>.t h8|>.t h9|>.t h10|>.t h11|>.t h12)) hz ((ht8.isN hb10).isN hb12) O (andOut hq hr)) ?_
     rintro _ _ s13 h13 ⟨rfl, (⟨x13, _, k13, t13, rfl, ⟨d13, A13, n13, c13, rfl, hE13, hu13, hn13⟩, ht13, hk13, he13⟩ | ⟨x13, _, k13, t13, rfl, ⟨d13, A13, n13, c13, rfl, hE13, hu13, hn13⟩, ht13, hk13, he13⟩)⟩
     ·
      have hl13 := ht13.lt
      try dsimp only at he13
      rw [he13] at hq
      simp only [okPR, erPR] at hq
      refine Zqm Z Z <| Zqx Z Z Z <| Zqx Z Z Z <| Zqx Z Z Z <| JO_allocZ Z [_, _, _, _, _] Z Z ?_
      intro β14 s14 h14
      refine Wt 0 [_, _, _, _, _] Y9 <| Zqa Z Z <| At Z Z <| Sr <| Wb Y5 <| Wl 2 Y6 <| JO_q (QE_ldA 0 [_, _, _, _, _] Z Z Z Z Z) Z <| JO_bs [(_, _)] [_, _, _, _, _] Z Z Z Z Z Z Z Z Z ?_
      intro β15 s15 h15 hc15
      refine JO_appN (sz := 5) Z Z Z Z Z Z (hc11.le (h12.t h13|>.t h14|>.t h15)) Z (Row.of_cells (hc15.le (Lr D)) Z Z) (by decide) ⟨by decide +kernel, by decide⟩ Z ?_
      intro βv cv s16 h16 hcv hv1 hv2
      refine Wb Y5 <| Wt 2 [_, _, _, _, _] Y9 <| Nt <| Sr <| Zqm Z Z <| JO_q (QE_ldA 2 [_, _, _, _, _] Z Z Z Z Z) Z <| Zqm Z Z <| Zqm Z Z <| Jc Z Z Z (rcloT_ac l ts D _ _ _ n c k13 t13 (hT.le (h1.t h2|>.t h3|>.t h7|>.t h8|>.t h9|>.t h10|>.t h11|>.t h12|>.t h13|>.t h14|>.t h15|>.t h16)) hz ht13 _ _ _ _ _ _ _ _ _ _ _) ?_
      rintro _ _ s17 h17 ⟨rfl, (⟨hb17, rfl⟩ | ⟨hb17, rfl⟩)⟩
      ·
       rw [expY hb17] at hq
       simp only [exp0, okPR, erPR] at hq
       refine Zqx Z Z Z <| Zqx Z Z Z <| Zqx Z Z Z <| Wt 3 [_, _, _, _, _] Y9 <| Zqa Z Z <| At Z Z <| Zo <| ?_
       refine retQ_mk [_, _, _, _] _ (.inr Z) (.agg (us := [_, _, _, _, _]) 3 Z Z Z Z Z (.tmp Z (.tmp Z (.nil)))) Z (h1.t h2|>.t h3|>.t h7|>.t h8|>.t h9|>.t h10|>.t h11|>.t h12|>.t h13|>.t h14|>.t h15|>.t h16|>.t h17) (fun sR hS2 => ?_)
       exact ⟨[], rfl, fun s2 hs2 hp => .inl ⟨.mk 2 x0.text [x8, x13] [] [], _, _, _, rfl, ⟨_, _, 2, _, none, 0, 0, none, 0, 0, rfl, sl_cap (ex_two (hcv.le (h17.t (hS2.t hs2))) (hE8.le (h9.t h10|>.t h11|>.t h12|>.t h13|>.t h14|>.t h15|>.t h16|>.t h17|>.t (hS2.t hs2))) hu8 hn8 (hE13.le (h14.t h15|>.t h16|>.t h17|>.t (hS2.t hs2))) hu13 hn13) hv1 hv2, stms_nil _ _, stms_nil _ _, hxl0⟩, (ht13.isN hb17), O, hq⟩⟩
      rw [expN hb17] at hq
      simp only [okPR, erPR] at hq
      refine Zqx Z Z Z <| Zqx Z Z Z <| Zqx Z Z Z <| Wt 3 [_, _, _, _, _] Y9 <| Zqa Z Z <| At Z Z <| Zo <| ?_
      refine retQ_mk [_, _, _, _] _ (.inr Z) (.agg (us := [_, _, _, _, _]) 3 Z Z Z Z Z (.tmp Z (.tmp Z (.nil)))) Z (h1.t h2|>.t h3|>.t h7|>.t h8|>.t h9|>.t h10|>.t h11|>.t h12|>.t h13|>.t h14|>.t h15|>.t h16|>.t h17) (fun sR hS2 => ?_)
      exact ⟨[], rfl, fun s2 hs2 hp => .inr ⟨.mk 2 x0.text [x8, x13] [] [], _, _, _, rfl, ⟨_, _, 2, _, none, 0, 0, none, 0, 0, rfl, sl_cap (ex_two (hcv.le (h17.t (hS2.t hs2))) (hE8.le (h9.t h10|>.t h11|>.t h12|>.t h13|>.t h14|>.t h15|>.t h16|>.t h17|>.t (hS2.t hs2))) hu8 hn8 (hE13.le (h14.t h15|>.t h16|>.t h17|>.t (hS2.t hs2))) hu13 hn13) hv1 hv2, stms_nil _ _, stms_nil _ _, hxl0⟩, ht13, O, hq⟩⟩
     have hl13 := ht13.lt
     try dsimp only at he13
     rw [he13] at hq
     simp only [okPR, erPR] at hq
     refine Zqm Z Z <| Zqx Z Z Z <| Zqx Z Z Z <| Zqx Z Z Z <| JO_allocZ Z [_, _, _, _, _] Z Z ?_
     intro β18 s18 h18
     refine Wt 0 [_, _, _, _, _] Y9 <| Zqa Z Z <| At Z Z <| Sr <| Wb Y5 <| Wl 2 Y6 <| JO_q (QE_ldA 0 [_, _, _, _, _] Z Z Z Z Z) Z <| JO_bs [(_, _)] [_, _, _, _, _] Z Z Z Z Z Z Z Z Z ?_
     intro β19 s19 h19 hc19
     refine JO_appN (sz := 5) Z Z Z Z Z Z (hc11.le (h12.t h13|>.t h18|>.t h19)) Z (Row.of_cells (hc19.le (Lr D)) Z Z) (by decide) ⟨by decide +kernel, by decide⟩ Z ?_
     intro βv cv s20 h20 hcv hv1 hv2
     refine Wb Y5 <| Wt 2 [_, _, _, _, _] Y9 <| Nt <| Sr <| Zqm Z Z <| JO_q (QE_ldA 2 [_, _, _, _, _] Z Z Z Z Z) Z <| Zqm Z Z <| Zqm Z Z <| Jc Z Z Z (rcloF_ac l ts D _ _ _ n c k13 t13 (hT.le (h1.t h2|>.t h3|>.t h7|>.t h8|>.t h9|>.t h10|>.t h11|>.t h12|>.t h13|>.t h18|>.t h19|>.t h20)) hz ht13 _ _ _ _ _ _ _ _ _ _ _) ?_
     rintro _ _ s21 h21 ⟨rfl, rfl⟩
     refine Zqx Z Z Z <| Zqx Z Z Z <| Zqx Z Z Z <| Wt 3 [_, _, _, _, _] Y9 <| Zqa Z Z <| At Z Z <| Zo <| ?_
     refine retQ_mk [_, _, _, _] _ (.inr Z) (.agg (us := [_, _, _, _, _]) 3 Z Z Z Z Z (.tmp Z (.tmp Z (.nil)))) Z (h1.t h2|>.t h3|>.t h7|>.t h8|>.t h9|>.t h10|>.t h11|>.t h12|>.t h13|>.t h18|>.t h19|>.t h20|>.t h21) (fun sR hS2 => ?_)
     exact ⟨[], rfl, fun s2 hs2 hp => .inr ⟨.mk 2 x0.text [x8, x13] [] [], _, _, _, rfl, ⟨_, _, 2, _, none, 0, 0, none, 0, 0, rfl, sl_cap (ex_two (hcv.le (h21.t (hS2.t hs2))) (hE8.le (h9.t h10|>.t h11|>.t h12|>.t h13|>.t h18|>.t h19|>.t h20|>.t h21|>.t (hS2.t hs2))) hu8 hn8 (hE13.le (h18.t h19|>.t h20|>.t h21|>.t (hS2.t hs2))) hu13 hn13) hv1 hv2, stms_nil _ _, stms_nil _ _, hxl0⟩, ht13, O, hq⟩⟩
    rw [expN hb12] at hq
    simp only [okPR, erPR] at hq
    refine ZqnF Z Z <| Nt <| Zy Z <| Sr <| JO_q (QE_ldA 1 [_, _, _, _, _] Z Z Z Z Z) Z <| Zqm Z Z <| Wt 2 [_, _, _, _, _] Y9 <| Zqa Z Z <| At Z Z <| Zo <| Zu <| ?_
    refine retQ_mk [_, _, _] _ (.inr Z) (.agg (us := [_, _, _, _, _]) 2 Z Z Z Z Z (.tmp Z (.tmp Z (.nil)))) Z (h1.t h2|>.t h3|>.t h7|>.t h8|>.t h9|>.t h10|>.t h11|>.t h12) (fun sR hS2 => ?_)
    exact ⟨[], rfl, fun s2 hs2 hp => .inr ⟨.mk 2 x0.text [x8] [] [], _, _, _, rfl, ⟨_, _, 1, 1, none, 0, 0, none, 0, 0, rfl, ex_one (hc11.le (h12.t (hS2.t hs2))) (hE8.le (h9.t h10|>.t h11|>.t h12|>.t (hS2.t hs2))) hu8 hn8, stms_nil _ _, stms_nil _ _, hxl0⟩, (ht8.isN hb10), O, hq⟩⟩
   rw [expN hb10] at hq
   simp only [okPR, erPR] at hq
   refine Zg Z Z <| ZqnF Z Z <| ZqF Z Z Z <| Nt <| Zy Z <| Sr <| JO_q (QE_ldA 1 [_, _, _, _, _] Z Z Z Z Z) Z <| Zqm Z Z <| Wt 2 [_, _, _, _, _] Y9 <| Zqa Z Z <| At Z Z <| Zo <| Zu <| Zu <| ?_
   refine retQ_mk [_, _, _] _ (.inr Z) (.agg (us := [_, _, _, _, _]) 2 Z Z Z Z Z (.tmp Z (.tmp Z (.nil)))) Z (h1.t h2|>.t h3|>.t h7|>.t h8|>.t h9|>.t h10) (fun sR hS2 => ?_)
   exact ⟨[], rfl, fun s2 hs2 hp => .inr ⟨.mk 2 x0.text [] [] [], _, _, _, rfl, ⟨0, none, 0, 0, none, 0, 0, none, 0, 0, rfl, exs_nil _ _, stms_nil _ _, stms_nil _ _, hxl0⟩, ht8, O, hq⟩⟩
  have hl8 := ht8.lt
  try dsimp only at he8
  rw [he8] at hq
  simp only [okPR, erPR] at hq
  refine Zqm Z Z <| Zqx Z Z Z <| Zqx Z Z Z <| Zqx Z Z Z <| JO_allocZ Z [_, _, _, _, _] Z Z ?_
  intro β22 s22 h22
  refine Wt 0 [_, _, _, _, _] Y9 <| Zqa Z Z <| At Z Z <| Zs <| Sr <| Zqm Z Z <| ZqnF Z Z <| Zqm Z Z <| Wf Y4 <| Wf Y4 <| Wf Y4 <| Wf Y4 <| ZqT Z Z Z <| Nt <| Zy Z <| Sr <| JO_q (QE_ldA 1 [_, _, _, _, _] Z Z Z Z Z) Z <| Zqm Z Z <| Wt 2 [_, _, _, _, _] Y9 <| Zqa Z Z <| At Z Z <| Zo <| Zu <| Zu <| ?_
  refine retQ_mk [_, _, _] _ (.inr Z) (.agg (us := [_, _, _, _, _]) 2 Z Z Z Z Z (.tmp Z (.tmp Z (.nil)))) Z (h1.t h2|>.t h3|>.t h7|>.t h8|>.t h22) (fun sR hS2 => ?_)
  exact ⟨[], rfl, fun s2 hs2 hp => .inr ⟨.mk 2 x0.text [] [] [], _, _, _, rfl, ⟨0, none, 0, 0, none, 0, 0, none, 0, 0, rfl, exs_nil _ _, stms_nil _ _, stms_nil _ _, hxl0⟩, ht8, O, hq⟩⟩
 rw [if_neg (bNe hb7)] at hq
 refine Nt <| Zz Z <| Zk <| Zt <| Zs <| Sr <| Zqm Z Z <| Zqm Z Z <| Jc Z Z Z (risf_ac l ts D _ _ _ n c (i + 1) (advP l t) (hT.le (h1.t h2|>.t h3|>.t h7)) hz (ht.nmN hnm) [61] (by decide +kernel)) ?_
 rintro _ _ s23 h23 ⟨rfl, (⟨hb23, rfl⟩ | ⟨hb23, rfl⟩)⟩
 ·
  rw [expY hb23] at hq
  simp only [exp0, okPR, erPR] at hq
  refine ZqnT Z Z <| Nt <| Zz Z <| Zk <| Zt <| Sr <| Zqm Z Z <| Zqm Z Z <| JO_q (QE_addN 1 Z Z O) Z <| Jc Z Z Z (ihE D _ _ _ n c ((i + 1) + 1) (advP l (advP l t)) _ (hT.le (h1.t h2|>.t h3|>.t h7|>.t h23)) hz ((ht.nmN hnm).isN hb23) O (andOut hq hr)) ?_
  rintro _ _ s24 h24 ⟨rfl, (⟨x24, _, k24, t24, rfl, ⟨d24, A24, n24, c24, rfl, hE24, hu24, hn24⟩, ht24, hk24, he24⟩ | ⟨x24, _, k24, t24, rfl, ⟨d24, A24, n24, c24, rfl, hE24, hu24, hn24⟩, ht24, hk24, he24⟩)⟩
  ·
   have hl24 := ht24.lt
   try dsimp only at he24
   rw [he24] at hq
   simp only [okPR, erPR] at hq
   refine Zqm Z Z <| Zqx Z Z Z <| Zqx Z Z Z <| Zqx Z Z Z <| JO_allocZ Z [_, _, _, _, _] Z Z ?_
   intro β25 s25 h25
   refine Wt 0 [_, _, _, _, _] Y9 <| Zqa Z Z <| At Z Z <| Sr <| Wb Y5 <| Wl 1 Y6 <| JO_q (QE_ldA 0 [_, _, _, _, _] Z Z Z Z Z) Z <| JO_bs [(_, _)] [_, _, _, _, _] Z Z Z Z Z Z Z Z Z ?_
   intro β26 s26 h26 hc26
   refine JO_app (sz := 5) [_, _, _] [] L Z Z Z Z Z Z Z Own.nil (Row.of_cells (hc26.le (Lr D)) Z Z) ⟨by first | (simp [ti97]; done) | (simp [ti97]; omega), by omega⟩ Z ?_
   intro v9 M9 s27 h27 oq
   obtain ⟨A9, c9, rfl, hy9, hz9⟩ := Own.slice oq
   simp only [cQ9, nQ9]
   refine Wb Y5 <| Wt 1 [_, _, _, _, _] Y9 <| Nt <| Sr <| Zqm Z Z <| JO_q (QE_ldA 1 [_, _, _, _, _] Z Z Z Z Z) Z <| Zqm Z Z <| Zqm Z Z <| Jc Z Z Z (rcloT_ac l ts D _ _ _ n c k24 t24 (hT.le (h1.t h2|>.t h3|>.t h7|>.t h23|>.t h24|>.t h25|>.t h26|>.t h27)) hz ht24 _ _ _ _ _ _ _ _ _ _ _) ?_
   rintro _ _ s28 h28 ⟨rfl, (⟨hb28, rfl⟩ | ⟨hb28, rfl⟩)⟩
   ·
    rw [expY hb28] at hq
    simp only [exp0, okPR, erPR] at hq
    refine Zqx Z Z Z <| Zqx Z Z Z <| Zqx Z Z Z <| Wt 2 [_, _, _, _, _] Y9 <| Zqa Z Z <| At Z Z <| Zo <| ?_
    refine retQ_mk [_, _, _] _ (.inr Z) (.agg (us := [_, _, _, _, _]) 2 Z Z Z Z Z (.tmp Z (.tmp Z (.nil)))) Z (h1.t h2|>.t h3|>.t h7|>.t h23|>.t h24|>.t h25|>.t h26|>.t h27|>.t h28) (fun sR hS2 => ?_)
    exact ⟨_, rfl, fun s2 hs2 hp => .inl ⟨.mk 1 x0.text [x24] [] [], _, _, _, rfl, ⟨d24 + 1, A9, 1, c9, none, 0, 0, none, 0, 0, rfl, Own.rows (R := ExR (d24 + 1)) (l := [x24]) (css := [[.int .i64 x24.kind, .int .i64 x24.op, .int .u32 x24.num, St x24.name, .slice A24 n24 c24]]) (by simpa using oq) hp (.cons ⟨rfl, _, _, _, rfl, (hE24.le (h25.t h26|>.t h27|>.t h28|>.t (hS2.t hs2))).up O, hu24, hn24⟩ .nil) rfl, stms_nil _ _, stms_nil _ _, hxl0⟩, (ht24.isN hb28), O, hq⟩⟩
   rw [expN hb28] at hq
   simp only [okPR, erPR] at hq
   refine Zqx Z Z Z <| Zqx Z Z Z <| Zqx Z Z Z <| Wt 2 [_, _, _, _, _] Y9 <| Zqa Z Z <| At Z Z <| Zo <| ?_
   refine retQ_mk [_, _, _] _ (.inr Z) (.agg (us := [_, _, _, _, _]) 2 Z Z Z Z Z (.tmp Z (.tmp Z (.nil)))) Z (h1.t h2|>.t h3|>.t h7|>.t h23|>.t h24|>.t h25|>.t h26|>.t h27|>.t h28) (fun sR hS2 => ?_)
   exact ⟨_, rfl, fun s2 hs2 hp => .inr ⟨.mk 1 x0.text [x24] [] [], _, _, _, rfl, ⟨d24 + 1, A9, 1, c9, none, 0, 0, none, 0, 0, rfl, Own.rows (R := ExR (d24 + 1)) (l := [x24]) (css := [[.int .i64 x24.kind, .int .i64 x24.op, .int .u32 x24.num, St x24.name, .slice A24 n24 c24]]) (by simpa using oq) hp (.cons ⟨rfl, _, _, _, rfl, (hE24.le (h25.t h26|>.t h27|>.t h28|>.t (hS2.t hs2))).up O, hu24, hn24⟩ .nil) rfl, stms_nil _ _, stms_nil _ _, hxl0⟩, ht24, O, hq⟩⟩
  have hl24 := ht24.lt
  try dsimp only at he24
  rw [he24] at hq
  simp only [okPR, erPR] at hq
  refine Zqm Z Z <| Zqx Z Z Z <| Zqx Z Z Z <| Zqx Z Z Z <| JO_allocZ Z [_, _, _, _, _] Z Z ?_
  intro β29 s29 h29
  refine Wt 0 [_, _, _, _, _] Y9 <| Zqa Z Z <| At Z Z <| Sr <| Wb Y5 <| Wl 1 Y6 <| JO_q (QE_ldA 0 [_, _, _, _, _] Z Z Z Z Z) Z <| JO_bs [(_, _)] [_, _, _, _, _] Z Z Z Z Z Z Z Z Z ?_
  intro β30 s30 h30 hc30
  refine JO_app (sz := 5) [_, _, _] [] L Z Z Z Z Z Z Z Own.nil (Row.of_cells (hc30.le (Lr D)) Z Z) ⟨by first | (simp [ti97]; done) | (simp [ti97]; omega), by omega⟩ Z ?_
  intro v9 M9 s31 h31 oq
  obtain ⟨A9, c9, rfl, hy9, hz9⟩ := Own.slice oq
  simp only [cQ9, nQ9]
  refine Wb Y5 <| Wt 1 [_, _, _, _, _] Y9 <| Nt <| Sr <| Zqm Z Z <| JO_q (QE_ldA 1 [_, _, _, _, _] Z Z Z Z Z) Z <| Zqm Z Z <| Zqm Z Z <| Jc Z Z Z (rcloF_ac l ts D _ _ _ n c k24 t24 (hT.le (h1.t h2|>.t h3|>.t h7|>.t h23|>.t h24|>.t h29|>.t h30|>.t h31)) hz ht24 _ _ _ _ _ _ _ _ _ _ _) ?_
  rintro _ _ s32 h32 ⟨rfl, rfl⟩
  refine Zqx Z Z Z <| Zqx Z Z Z <| Zqx Z Z Z <| Wt 2 [_, _, _, _, _] Y9 <| Zqa Z Z <| At Z Z <| Zo <| ?_
  refine retQ_mk [_, _, _] _ (.inr Z) (.agg (us := [_, _, _, _, _]) 2 Z Z Z Z Z (.tmp Z (.tmp Z (.nil)))) Z (h1.t h2|>.t h3|>.t h7|>.t h23|>.t h24|>.t h29|>.t h30|>.t h31|>.t h32) (fun sR hS2 => ?_)
  exact ⟨_, rfl, fun s2 hs2 hp => .inr ⟨.mk 1 x0.text [x24] [] [], _, _, _, rfl, ⟨d24 + 1, A9, 1, c9, none, 0, 0, none, 0, 0, rfl, Own.rows (R := ExR (d24 + 1)) (l := [x24]) (css := [[.int .i64 x24.kind, .int .i64 x24.op, .int .u32 x24.num, St x24.name, .slice A24 n24 c24]]) (by simpa using oq) hp (.cons ⟨rfl, _, _, _, rfl, (hE24.le (h29.t h30|>.t h31|>.t h32|>.t (hS2.t hs2))).up O, hu24, hn24⟩ .nil) rfl, stms_nil _ _, stms_nil _ _, hxl0⟩, ht24, O, hq⟩⟩
 rw [expN hb23] at hq
 simp only [okPR, erPR] at hq
 refine ZqnF Z Z <| Nt <| Zy Z <| Sr <| JO_q (QE_ldA 0 [_, _, _, _, _] Z Z Z Z Z) Z <| Zqm Z Z <| Wt 1 [_, _, _, _, _] Y9 <| Zqa Z Z <| At Z Z <| Zo <| Zu <| ?_
 refine retQ_mk [_, _] _ (.inr Z) (.agg (us := [_, _, _, _, _]) 1 Z Z Z Z Z (.tmp Z (.tmp Z (.nil)))) Z (h1.t h2|>.t h3|>.t h7|>.t h23) (fun sR hS2 => ?_)
 exact ⟨[], rfl, fun s2 hs2 hp => .inr ⟨.mk 1 x0.text [] [] [], _, _, _, rfl, ⟨0, none, 0, 0, none, 0, 0, none, 0, 0, rfl, exs_nil _ _, stms_nil _ _, stms_nil _ _, hxl0⟩, (ht.nmN hnm), O, hq⟩⟩
theorem rstm_st (l : Str) (ts : List RT) (N : Nat) (ihG : RCG l ts N) (ihI : RCI l ts N) : RCT l ts (N + 1) := by
 intro D L s A n c i t m hT hz ht hN hr
 refine AC.pubW (R := fun v s => RX l ts i StV (pStm l m t) s v) ?_
 try dsimp only at hr
 obtain ⟨r, hq⟩ : ∃ r, r = pStm l m t := ⟨_, rfl⟩
 rw [← hq] at hr ⊢
 have hn := hT.1
 have hn2 := hT.2.1
 have hn3 := hT.2.2.1
 obtain ⟨x0, hx0, hr0, hi0⟩ := ht.at_
 obtain ⟨b0, o0, x00, rfl, hx00, hc0, hxl0, hxu0⟩ := Rts.at_ hT (show i < n by omega)
 obtain rfl : x0 = x00 := Option.some.inj (hx0.symm.trans hx00)
 obtain ⟨m, rfl⟩ := stm_pos hq hr
 rw [stm_ref] at hq
 have ihN := rnamed_st l ts (N + 1)
 have ihE := (exp_ref l ts N).1
 refine AC_enter (TT := TT) (fn := Tryz.f99) TT_ok Tryz.func99 V Z Tryz.ntmps99 Z (rs := [.cell 4 100, .tmp 5, .tmp 6]) Z [(0, _), (1, _)] Z <| Sr <| JO_allocZ Z [_, _, _, _, _] Z Z ?_
 intro β1 s1 h1
 refine Zqa Z Z <| At Z Z <| Zs <| Sr <| Zqm Z Z <| Zqm Z Z <| JO_q (QE_iaN Z Z Z Z Z Z (show i < n by omega)) Z <| W0 Y5 <| JO_q (QE_ldsR0 Z Z Z (hc0.le h1) Z) Z <| Zqeq Z Z Z <| Nt <| ?_
 refine JC_ifD Z (fun c2 => ?_) (fun c2 => ?_)
 ·
  have hnm := hr0.nm.2 c2
  rw [if_pos hnm] at hq
  refine Sr <| Zqm Z Z <| Zqm Z Z <| Jc Z Z Z (ihN D _ _ _ n c i t _ (hT.le h1) hz ht O (hq ▸ hr) hnm) ?_
  rintro _ _ s3 h3 ⟨rfl, (⟨x3, _, k3, t3, rfl, ⟨d3, P3, p3, o3, Q3, q3, u3, R3, m3, e3, rfl, hE3, hB3, hL3, hn3⟩, ht3, hk3, he3⟩ | ⟨x3, _, k3, t3, rfl, ⟨d3, P3, p3, o3, Q3, q3, u3, R3, m3, e3, rfl, hE3, hB3, hL3, hn3⟩, ht3, hk3, he3⟩)⟩
  ·
   have hl3 := ht3.lt
   try dsimp only at he3
   rw [he3] at hq
   refine Zqx Z Z Z <| Zqx Z Z Z <| Zqx Z Z Z <| Wt 0 [_, _, _, _, _] Y9 <| Zqa Z Z <| At Z Z <| Zo <| Zu <| ?_
   refine retQ_mk [_] L (.inr Z) (.agg (us := [_, _, _, _, _]) 0 Z Z Z Z Z (.tmp Z (.tmp Z (.nil)))) Z (h1.t h3) (fun sR hS2 => ?_)
   exact ⟨[], rfl, fun s2 hs2 hp => .inl ⟨x3, _, _, _, rfl, ⟨d3, P3, p3, o3, Q3, q3, u3, R3, m3, e3, rfl, hE3.le ((Lr D).t (hS2.t hs2)), hB3.le ((Lr D).t (hS2.t hs2)), hL3.le ((Lr D).t (hS2.t hs2)), hn3⟩, ht3, O, hq⟩⟩
  have hl3 := ht3.lt
  try dsimp only at he3
  rw [he3] at hq
  refine Zqx Z Z Z <| Zqx Z Z Z <| Zqx Z Z Z <| Wt 0 [_, _, _, _, _] Y9 <| Zqa Z Z <| At Z Z <| Zo <| Zu <| ?_
  refine retQ_mk [_] L (.inr Z) (.agg (us := [_, _, _, _, _]) 0 Z Z Z Z Z (.tmp Z (.tmp Z (.nil)))) Z (h1.t h3) (fun sR hS2 => ?_)
  exact ⟨[], rfl, fun s2 hs2 hp => .inr ⟨x3, _, _, _, rfl, ⟨d3, P3, p3, o3, Q3, q3, u3, R3, m3, e3, rfl, hE3.le ((Lr D).t (hS2.t hs2)), hB3.le ((Lr D).t (hS2.t hs2)), hL3.le ((Lr D).t (hS2.t hs2)), hn3⟩, ht3, O, hq⟩⟩
 rw [if_neg (fun h => c2 (hr0.nm.1 h))] at hq
 refine Zk <| Zt <| Zs <| Sr <| Zqm Z Z <| Zqm Z Z <| Jc Z Z Z (risf_ac l ts D _ _ _ n c i t (hT.le h1) hz ht [105, 102] (by decide +kernel)) ?_
 rintro _ _ s4 h4 ⟨rfl, (⟨hb4, rfl⟩ | ⟨hb4, rfl⟩)⟩
 ·
  rw [if_pos hb4] at hq
  refine Nt <| Zy Z <| Sr <| Zqm Z Z <| Zqm Z Z <| JO_q (QE_addN 1 Z Z O) Z <| Jc Z Z Z (ihI D _ _ _ n c (i + 1) (advP l t) _ (hT.le (h1.t h4)) hz (ht.isN hb4) O (hq ▸ hr)) ?_
  rintro _ _ s5 h5 ⟨rfl, (⟨x5, _, k5, t5, rfl, ⟨d5, P5, p5, o5, Q5, q5, u5, R5, m5, e5, rfl, hE5, hB5, hL5, hn5⟩, ht5, hk5, he5⟩ | ⟨x5, _, k5, t5, rfl, ⟨d5, P5, p5, o5, Q5, q5, u5, R5, m5, e5, rfl, hE5, hB5, hL5, hn5⟩, ht5, hk5, he5⟩)⟩
  ·
   have hl5 := ht5.lt
   try dsimp only at he5
   rw [he5] at hq
   refine Zqx Z Z Z <| Zqx Z Z Z <| Zqx Z Z Z <| Wt 0 [_, _, _, _, _] Y9 <| Zqa Z Z <| At Z Z <| Zo <| Zu <| ?_
   refine retQ_mk [_] L (.inr Z) (.agg (us := [_, _, _, _, _]) 0 Z Z Z Z Z (.tmp Z (.tmp Z (.nil)))) Z (h1.t h4|>.t h5) (fun sR hS2 => ?_)
   exact ⟨[], rfl, fun s2 hs2 hp => .inl ⟨x5, _, _, _, rfl, ⟨d5, P5, p5, o5, Q5, q5, u5, R5, m5, e5, rfl, hE5.le ((Lr D).t (hS2.t hs2)), hB5.le ((Lr D).t (hS2.t hs2)), hL5.le ((Lr D).t (hS2.t hs2)), hn5⟩, ht5, O, hq⟩⟩
  have hl5 := ht5.lt
  try dsimp only at he5
  rw [he5] at hq
  refine Zqx Z Z Z <| Zqx Z Z Z <| Zqx Z Z Z <| Wt 0 [_, _, _, _, _] Y9 <| Zqa Z Z <| At Z Z <| Zo <| Zu <| ?_
  refine retQ_mk [_] L (.inr Z) (.agg (us := [_, _, _, _, _]) 0 Z Z Z Z Z (.tmp Z (.tmp Z (.nil)))) Z (h1.t h4|>.t h5) (fun sR hS2 => ?_)
  exact ⟨[], rfl, fun s2 hs2 hp => .inr ⟨x5, _, _, _, rfl, ⟨d5, P5, p5, o5, Q5, q5, u5, R5, m5, e5, rfl, hE5.le ((Lr D).t (hS2.t hs2)), hB5.le ((Lr D).t (hS2.t hs2)), hL5.le ((Lr D).t (hS2.t hs2)), hn5⟩, ht5, O, hq⟩⟩
 rw [if_neg (bNe hb4)] at hq
 refine Nt <| Zz Z <| Zk <| Zt <| Zs <| Sr <| Zqm Z Z <| Zqm Z Z <| Jc Z Z Z (risf_ac l ts D _ _ _ n c i t (hT.le (h1.t h4)) hz ht [119, 104, 105, 108, 101] (by decide +kernel)) ?_
 rintro _ _ s6 h6 ⟨rfl, (⟨hb6, rfl⟩ | ⟨hb6, rfl⟩)⟩
 ·
  rw [if_pos hb6] at hq
  refine Nt <| Zy Z <| Sr <| Zqm Z Z <| Zqm Z Z <| JO_q (QE_addN 1 Z Z O) Z <| Jc Z Z Z (ihG 4 D _ _ _ n c (i + 1) (advP l t) _ (hT.le (h1.t h4|>.t h6)) hz (ht.isN hb6) O (hq ▸ hr)) ?_
  rintro _ _ s7 h7 ⟨rfl, (⟨x7, _, k7, t7, rfl, ⟨d7, P7, p7, o7, Q7, q7, u7, R7, m7, e7, rfl, hE7, hB7, hL7, hn7⟩, ht7, hk7, he7⟩ | ⟨x7, _, k7, t7, rfl, ⟨d7, P7, p7, o7, Q7, q7, u7, R7, m7, e7, rfl, hE7, hB7, hL7, hn7⟩, ht7, hk7, he7⟩)⟩
  ·
   have hl7 := ht7.lt
   try dsimp only at he7
   rw [he7] at hq
   refine Zqx Z Z Z <| Zqx Z Z Z <| Zqx Z Z Z <| Wt 0 [_, _, _, _, _] Y9 <| Zqa Z Z <| At Z Z <| Zo <| Zu <| ?_
   refine retQ_mk [_] L (.inr Z) (.agg (us := [_, _, _, _, _]) 0 Z Z Z Z Z (.tmp Z (.tmp Z (.nil)))) Z (h1.t h4|>.t h6|>.t h7) (fun sR hS2 => ?_)
   exact ⟨[], rfl, fun s2 hs2 hp => .inl ⟨x7, _, _, _, rfl, ⟨d7, P7, p7, o7, Q7, q7, u7, R7, m7, e7, rfl, hE7.le ((Lr D).t (hS2.t hs2)), hB7.le ((Lr D).t (hS2.t hs2)), hL7.le ((Lr D).t (hS2.t hs2)), hn7⟩, ht7, O, hq⟩⟩
  have hl7 := ht7.lt
  try dsimp only at he7
  rw [he7] at hq
  refine Zqx Z Z Z <| Zqx Z Z Z <| Zqx Z Z Z <| Wt 0 [_, _, _, _, _] Y9 <| Zqa Z Z <| At Z Z <| Zo <| Zu <| ?_
  refine retQ_mk [_] L (.inr Z) (.agg (us := [_, _, _, _, _]) 0 Z Z Z Z Z (.tmp Z (.tmp Z (.nil)))) Z (h1.t h4|>.t h6|>.t h7) (fun sR hS2 => ?_)
  exact ⟨[], rfl, fun s2 hs2 hp => .inr ⟨x7, _, _, _, rfl, ⟨d7, P7, p7, o7, Q7, q7, u7, R7, m7, e7, rfl, hE7.le ((Lr D).t (hS2.t hs2)), hB7.le ((Lr D).t (hS2.t hs2)), hL7.le ((Lr D).t (hS2.t hs2)), hn7⟩, ht7, O, hq⟩⟩
 rw [if_neg (bNe hb6)] at hq
 refine Nt <| Zz Z <| Zk <| Zt <| Sr <| JO_bs [(_, _), (_, _), (_, _), (_, _), (_, _)] [_, _, _, _, _] Z Z Z Z Z Z Z Z Z ?_
 intro β8 s8 h8 hc8
 refine At Z Z <| Zs <| Sr <| At Z Z <| Zp <| JC_loop (γ := Nat) (fun k => [(0, _), (1, _), (4, _), (5, _), (6, _), (7, _), (8, .int .i64 (k : Int))]) (fun _ => _) (fun k tw => Le D s8 tw ∧ (k ≤ 5 ∧ r = stW l m t (5 - k))) (fun k => 5 - k) (fun _ _ _ h hl => ⟨h.1.trans hl, h.2⟩) 0 (.cons Z (.cons Z (.cons Z (.cons Z (.cons Z (.cons Z (.cons Z (.nil _)))))))) Z ⟨Le.refl _, ⟨by omega, hq⟩⟩ ?_
 intro k s9 I9
 obtain ⟨hk5, hq⟩ := I9.2
 refine Zs <| Sr <| Zqm Z Z <| Zqlt Z Z Z <| Nt <| ?_
 refine JC_ifD Z (fun c10 => ?_) (fun c10 => ?_)
 ·
  obtain ⟨j, hj⟩ : ∃ j, 5 - k = j + 1 := ⟨4 - k, by omega⟩
  rw [hj, stW, show 4 - j = k by omega] at hq
  refine Zk <| Zt <| Zs <| Zp <| Zs <| Sr <| Zqm Z Z <| Zqm Z Z <| Zqm Z Z <| Zqm Z Z <| JO_q (QE_ia1 Z Z Z Z Z Z (show k < 5 by omega)) Z <| JO_q (QE_ldsR0 Z Z Z (w5_at (hc8.le I9.1) (show k < 5 by omega)) Z) Z <| Jc Z Z Z (risf_ac l ts D _ _ _ n c i t (hT.le (h1.t h4|>.t h6|>.t h8|>.t I9.1)) hz ht (w5.getD k []) (w5_id k)) ?_
  rintro _ _ s11 h11 ⟨rfl, (⟨hb11, rfl⟩ | ⟨hb11, rfl⟩)⟩
  ·
   rw [if_pos hb11] at hq
   refine ZqnT Z Z <| Nt <| Zz Z <| Zk <| Zt <| Sr <| Zqm Z Z <| Zqadd Z Z Z (w64 O O) <| JO_q (QE_build [(_, _)] [_, _, _, _, _] Z Z Z Z Z Z) Z <| JO_allocZ Z [_, _, _, _, _] Z Z ?_
   intro β12 s12 h12
   refine Wt 0 [_, _, _, _, _] Y9 <| Nt <| Zs <| Sr <| Zqm Z Z <| Zqgt Z Z Z <| Nt <| ?_
   refine JC_ifD Z (fun c13 => ?_) (fun c13 => ?_)
   ·
    rw [if_pos O] at hq
    refine Sr <| Zqm Z Z <| JO_q (QE_ldA 0 [_, _, _, _, _] Z Z Z Z Z) Z <| Zqm Z Z <| JO_q (QE_addN 1 Z Z O) Z <| Jc Z Z Z (rcloT_ac l ts D _ _ _ n c (i + 1) (advP l t) (hT.le (h1.t h4|>.t h6|>.t h8|>.t I9.1|>.t h11|>.t h12)) hz (ht.isN hb11) _ _ _ _ _ _ _ _ _ _ _) ?_
    rintro _ _ s14 h14 ⟨rfl, (⟨hb14, rfl⟩ | ⟨hb14, rfl⟩)⟩
    ·
     rw [expY hb14] at hq
     simp only [exp0, okPR, erPR] at hq
     refine Zqx Z Z Z <| Zqx Z Z Z <| Zqx Z Z Z <| Wt 1 [_, _, _, _, _] Y9 <| Zqa Z Z <| At Z Z <| Zo <| Zu <| Zc <| Zu <| Zu <| Zc <| Zu <| ?_
     refine retQ_mk [_, _] L (.inr Z) (.agg (us := [_, _, _, _, _]) 1 Z Z Z Z Z (.tmp Z (.tmp Z (.nil)))) Z (h1.t h4|>.t h6|>.t h8|>.t I9.1|>.t h11|>.t h12|>.t h14) (fun sR hS2 => ?_)
     exact ⟨[], rfl, fun s2 hs2 hp => .inl ⟨.mk (6 + (k : Int)) [] [] [] [], _, _, _, rfl, ⟨0, none, 0, 0, none, 0, 0, none, 0, 0, rfl, exs_nil _ _, stms_nil _ _, stms_nil _ _, nilz⟩, ((ht.isN hb11).isN hb14), O, hq⟩⟩
    rw [expN hb14] at hq
    simp only [okPR, erPR] at hq
    refine Zqx Z Z Z <| Zqx Z Z Z <| Zqx Z Z Z <| Wt 1 [_, _, _, _, _] Y9 <| Zqa Z Z <| At Z Z <| Zo <| Zu <| Zc <| Zu <| Zu <| Zc <| Zu <| ?_
    refine retQ_mk [_, _] L (.inr Z) (.agg (us := [_, _, _, _, _]) 1 Z Z Z Z Z (.tmp Z (.tmp Z (.nil)))) Z (h1.t h4|>.t h6|>.t h8|>.t I9.1|>.t h11|>.t h12|>.t h14) (fun sR hS2 => ?_)
    exact ⟨[], rfl, fun s2 hs2 hp => .inr ⟨.mk (6 + (k : Int)) [] [] [] [], _, _, _, rfl, ⟨0, none, 0, 0, none, 0, 0, none, 0, 0, rfl, exs_nil _ _, stms_nil _ _, stms_nil _ _, nilz⟩, (ht.isN hb11), O, hq⟩⟩
   rw [if_neg O] at hq
   refine Zk <| Zt <| Sr <| Zqm Z Z <| Zqm Z Z <| JO_q (QE_addN 1 Z Z O) Z <| Jc Z Z Z (ihE D _ _ _ n c (i + 1) (advP l t) _ (hT.le (h1.t h4|>.t h6|>.t h8|>.t I9.1|>.t h11|>.t h12)) hz (ht.isN hb11) O (andOut hq hr)) ?_
   rintro _ _ s15 h15 ⟨rfl, (⟨x15, _, k15, t15, rfl, ⟨d15, A15, n15, c15, rfl, hE15, hu15, hn15⟩, ht15, hk15, he15⟩ | ⟨x15, _, k15, t15, rfl, ⟨d15, A15, n15, c15, rfl, hE15, hu15, hn15⟩, ht15, hk15, he15⟩)⟩
   ·
    have hl15 := ht15.lt
    try dsimp only at he15
    rw [he15] at hq
    simp only [okPR, erPR] at hq
    refine Zqm Z Z <| Zqx Z Z Z <| Zqx Z Z Z <| Zqx Z Z Z <| JO_allocZ Z [_, _, _, _, _] Z Z ?_
    intro β16 s16 h16
    refine Wt 0 [_, _, _, _, _] Y9 <| Zqa Z Z <| At Z Z <| Sr <| JO_q (QE_ldA 0 [_, _, _, _, _] Z Z Z Z Z) Z <| JO_bs [(_, _)] [_, _, _, _, _] Z Z Z Z Z Z Z Z Z ?_
    intro β17 s17 h17 hc17
    refine Wb Y5 <| Wt 1 [_, _, _, _, _] Y9 <| Nt <| Sr <| Zqm Z Z <| JO_q (QE_ldA 1 [_, _, _, _, _] Z Z Z Z Z) Z <| Zqm Z Z <| Zqm Z Z <| Jc Z Z Z (rcloT_ac l ts D _ _ _ n c k15 t15 (hT.le (h1.t h4|>.t h6|>.t h8|>.t I9.1|>.t h11|>.t h12|>.t h15|>.t h16|>.t h17)) hz ht15 _ _ _ _ _ _ _ _ _ _ _) ?_
    rintro _ _ s18 h18 ⟨rfl, (⟨hb18, rfl⟩ | ⟨hb18, rfl⟩)⟩
    ·
     rw [expY hb18] at hq
     simp only [exp0, okPR, erPR] at hq
     refine Zqx Z Z Z <| Zqx Z Z Z <| Zqx Z Z Z <| Wt 2 [_, _, _, _, _] Y9 <| Zqa Z Z <| At Z Z <| Zo <| Zc <| Zu <| Zu <| Zc <| Zu <| ?_
     refine retQ_mk [_, _, _] L (.inr Z) (.agg (us := [_, _, _, _, _]) 2 Z Z Z Z Z (.tmp Z (.tmp Z (.nil)))) Z (h1.t h4|>.t h6|>.t h8|>.t I9.1|>.t h11|>.t h12|>.t h15|>.t h16|>.t h17|>.t h18) (fun sR hS2 => ?_)
     exact ⟨[], rfl, fun s2 hs2 hp => .inl ⟨.mk (6 + (k : Int)) [] [x15] [] [], _, _, _, rfl, ⟨_, _, 1, 1, none, 0, 0, none, 0, 0, rfl, ex_one (hc17.le (h18.t (hS2.t hs2))) (hE15.le (h16.t h17|>.t h18|>.t (hS2.t hs2))) hu15 hn15, stms_nil _ _, stms_nil _ _, nilz⟩, (ht15.isN hb18), O, hq⟩⟩
    rw [expN hb18] at hq
    simp only [okPR, erPR] at hq
    refine Zqx Z Z Z <| Zqx Z Z Z <| Zqx Z Z Z <| Wt 2 [_, _, _, _, _] Y9 <| Zqa Z Z <| At Z Z <| Zo <| Zc <| Zu <| Zu <| Zc <| Zu <| ?_
    refine retQ_mk [_, _, _] L (.inr Z) (.agg (us := [_, _, _, _, _]) 2 Z Z Z Z Z (.tmp Z (.tmp Z (.nil)))) Z (h1.t h4|>.t h6|>.t h8|>.t I9.1|>.t h11|>.t h12|>.t h15|>.t h16|>.t h17|>.t h18) (fun sR hS2 => ?_)
    exact ⟨[], rfl, fun s2 hs2 hp => .inr ⟨.mk (6 + (k : Int)) [] [x15] [] [], _, _, _, rfl, ⟨_, _, 1, 1, none, 0, 0, none, 0, 0, rfl, ex_one (hc17.le (h18.t (hS2.t hs2))) (hE15.le (h16.t h17|>.t h18|>.t (hS2.t hs2))) hu15 hn15, stms_nil _ _, stms_nil _ _, nilz⟩, ht15, O, hq⟩⟩
   have hl15 := ht15.lt
   try dsimp only at he15
   rw [he15] at hq
   simp only [okPR, erPR] at hq
   refine Zqm Z Z <| Zqx Z Z Z <| Zqx Z Z Z <| Zqx Z Z Z <| JO_allocZ Z [_, _, _, _, _] Z Z ?_
   intro β19 s19 h19
   refine Wt 0 [_, _, _, _, _] Y9 <| Zqa Z Z <| At Z Z <| Sr <| JO_q (QE_ldA 0 [_, _, _, _, _] Z Z Z Z Z) Z <| JO_bs [(_, _)] [_, _, _, _, _] Z Z Z Z Z Z Z Z Z ?_
   intro β20 s20 h20 hc20
   refine Wb Y5 <| Wt 1 [_, _, _, _, _] Y9 <| Nt <| Sr <| Zqm Z Z <| JO_q (QE_ldA 1 [_, _, _, _, _] Z Z Z Z Z) Z <| Zqm Z Z <| Zqm Z Z <| Jc Z Z Z (rcloF_ac l ts D _ _ _ n c k15 t15 (hT.le (h1.t h4|>.t h6|>.t h8|>.t I9.1|>.t h11|>.t h12|>.t h15|>.t h19|>.t h20)) hz ht15 _ _ _ _ _ _ _ _ _ _ _) ?_
   rintro _ _ s21 h21 ⟨rfl, rfl⟩
   refine Zqx Z Z Z <| Zqx Z Z Z <| Zqx Z Z Z <| Wt 2 [_, _, _, _, _] Y9 <| Zqa Z Z <| At Z Z <| Zo <| Zc <| Zu <| Zu <| Zc <| Zu <| ?_
   refine retQ_mk [_, _, _] L (.inr Z) (.agg (us := [_, _, _, _, _]) 2 Z Z Z Z Z (.tmp Z (.tmp Z (.nil)))) Z (h1.t h4|>.t h6|>.t h8|>.t I9.1|>.t h11|>.t h12|>.t h15|>.t h19|>.t h20|>.t h21) (fun sR hS2 => ?_)
   exact ⟨[], rfl, fun s2 hs2 hp => .inr ⟨.mk (6 + (k : Int)) [] [x15] [] [], _, _, _, rfl, ⟨_, _, 1, 1, none, 0, 0, none, 0, 0, rfl, ex_one (hc20.le (h21.t (hS2.t hs2))) (hE15.le (h19.t h20|>.t h21|>.t (hS2.t hs2))) hu15 hn15, stms_nil _ _, stms_nil _ _, nilz⟩, ht15, O, hq⟩⟩
  rw [if_neg (bNe hb11)] at hq
  refine ZqnF Z Z <| Nt <| Zy Z <| Zl <| Zv <| Zd <| Zt <| Zr <| Zqm Z Z <| JO_q (QE_addN 1 Z Z O) Z <| Zqa Z Z <| Zn <| ?_
  refine thenQ_n ⟨k + 1, [], kp, Z, ⟨(I9.1.t h11), ⟨by omega, by rw [show 5 - (k + 1) = j by omega]; exact hq⟩⟩, O⟩
 rw [show 5 - k = 0 by omega, stW] at hq
 refine Zl <| Zv <| Zv <| Zd <| Zt <| Sr <| JO_q (QE_build [] [_, _, _, _, _] Z Z Z Z Z Z) Z <| Zqm Z Z <| Wt 0 [_, _, _, _, _] Y9 <| Zqa Z Z <| At Z Z <| Zo <| ?_
 refine retQ_mk [_] L (.inr Z) (.agg (us := [_, _, _, _, _]) 0 Z Z Z Z Z (.tmp Z (.tmp Z (.nil)))) Z (h1.t h4|>.t h6|>.t h8|>.t I9.1) (fun sR hS2 => ?_)
 exact ⟨[], rfl, fun s2 hs2 hp => .inr ⟨.mk 0 [] [] [] [], _, _, _, rfl, ⟨0, none, 0, 0, none, 0, 0, none, 0, 0, rfl, exs_nil _ _, stms_nil _ _, stms_nil _ _, nilz⟩, ht, O, hq⟩⟩
theorem stm_all_ref (l : Str) (ts : List RT) : ∀ N, RCT l ts N ∧ RCB l ts N ∧ RCG l ts N ∧ RCI l ts N
  | 0 => ⟨rc_zero, rc_zero, fun kd D L s A n c i t m hT hz ht hN hr => absurd ht.lt O, rc_zero⟩
  | N + 1 => by
    obtain ⟨_, h2, h3, h4⟩ := stm_all_ref l ts N
    have t1 := rstm_st l ts N h3 h4
    have g1 := rgrd_st l ts N h2
    exact ⟨t1, rblock_st l ts (N + 1) t1, g1, rif_st l ts N g1 h2 h4⟩
structure FG where
  acc : List Int
  v : Value
  M : Hl
  k : Nat
  t : PS
  m : Nat
  b : Bool
theorem w3_at {s : World} {b k : Nat} (h : CellsAt s b 0 [St [99, 111, 110, 115, 116], St [118, 97, 114], St [97, 114, 114, 97, 121]]) (hk : k < 3) : CellsAt s b (0 + k) [St (w3.getD k [])] := by
  unfold CellsAt at h
  exact CellsAt.one (h k (St (w3.getD k [])) (by
    have h2 : k < w3.length := hk
    show (w3.map fun x => St x)[k]? = _
    rw [List.getElem?_map, List.getD_eq_getElem?_getD, List.getElem?_eq_getElem h2]; rfl))
theorem w3_id (k : Nat) : identB (w3.getD k []) = false := by
  rcases Nat.lt_or_ge k 3 with h | h
  · have : ∀ n : _root_.Fin 3, identB (w3.getD n.val []) = false := by decide +kernel
    exact this ⟨k, h⟩
  · rw [List.getD_eq_getElem?_getD, List.getElem?_eq_none (by show 3 ≤ k; omega)]; rfl
theorem rfun_st (l : Str) (ts : List RT) (N : Nat) : RC 35 l ts (fun m t => pFun l m t) FncV N := by
 intro D L s A n c i t m hT hz ht hN hr
 refine AC.pubW (R := fun v s => RX l ts i FncV (pFun l m t) s v) ?_
 try dsimp only at hr
 obtain ⟨r, hq⟩ : ∃ r, r = pFun l m t := ⟨_, rfl⟩
 rw [← hq] at hr ⊢
 have hn := hT.1
 have hn2 := hT.2.1
 have hn3 := hT.2.2.1
 obtain ⟨x0, hx0, hr0, hi0⟩ := ht.at_
 obtain ⟨b0, o0, x00, rfl, hx00, hc0, hxl0, hxu0⟩ := Rts.at_ hT (show i < n by omega)
 obtain rfl : x0 = x00 := Option.some.inj (hx0.symm.trans hx00)
 rw [pFun] at hq
 have hNm := rnames_st l ts N
 have ihB := (stm_all_ref l ts N).2.1
 refine AC_enter (TT := TT) (fn := Tryz.f35) TT_ok Tryz.func35 V Z Tryz.ntmps35 Z (rs := [.cell 4 56, .tmp 5, .tmp 6]) Z [(0, _), (1, _)] Z <| Sr <| JO_allocZ Z [_, _, _, _] Z Z ?_
 intro β1 s1 h1
 refine Zqa Z Z <| At Z Z <| Sr <| JO_allocZ Z [_, _, _, _] Z Z ?_
 intro β2 s2 h2
 refine Nt <| Zs <| Sr <| Zqm Z Z <| Zqm Z Z <| JO_q (QE_iaN Z Z Z Z Z Z (show i < n by omega)) Z <| W0 Y5 <| JO_q (QE_ldsR0 Z Z Z (hc0.le (h1.t h2)) Z) Z <| Zqne Z Z Z <| Nt <| ?_
 refine JC_ifN Z (fun c3 => ?_) (fun c3 => ?_)
 ·
  rw [nmN (fun h => c3 (hr0.nm.1 h))] at hq
  simp only [okPR, erPR] at hq
  refine Sr <| JO_q (QE_ldA 0 [_, _, _, _] Z Z Z Z Z) Z <| Zqm Z Z <| Wt 1 [_, _, _, _] Y9 <| Zqa Z Z <| At Z Z <| Zo <| Zu <| ?_
  refine retQ_mk [_, _] L (.inr Z) (.agg (us := [_, _, _, _]) 1 Z Z Z Z Z (.tmp Z (.tmp Z (.nil)))) Z (h1.t h2) (fun sR hS2 => ?_)
  exact ⟨[], rfl, fun s2 hs2 hp => .inr ⟨⟨[], [], [], []⟩, _, _, _, rfl, ⟨0, none, 0, 0, none, 0, 0, none, 0, 0, rfl, strs_nil _, strs_nil _, stms_nil _ _, nilz⟩, ht, O, hq⟩⟩
 have hk2 : x0.kind = 2 := by have := c3; omega
 have hnm := hr0.nm.2 hk2
 rw [nmY hnm] at hq
 simp only [okPR, erPR] at hq
 rw [← hr0.nmT hk2] at hq
 refine Zk <| Zt <| Sr <| Zqm Z Z <| Zqm Z Z <| JO_q (QE_iaN Z Z Z Z Z Z (show i < n by omega)) Z <| JO_q (QE_fa Z Z Z Z) Z <| JO_q (QE_ldsR 2 Z Z Z (hc0.le (h1.t h2)) Z) Z <| W0 Y5 <| Wt 0 [_, _, _, _] Y9 <| Nt <| Zs <| Sr <| Zqm Z Z <| Zqm Z Z <| JO_q (QE_addN 1 Z Z O) Z <| Jc Z Z Z (risf_ac l ts D _ _ _ n c (i + 1) (advP l t) (hT.le (h1.t h2)) hz (ht.nmN hnm) [40] (by decide +kernel)) ?_
 rintro _ _ s4 h4 ⟨rfl, (⟨hb4, rfl⟩ | ⟨hb4, rfl⟩)⟩
 ·
  rw [expY hb4] at hq
  simp only [exp0, okPR, erPR] at hq
  refine ZqnT Z Z <| Nt <| Zz Z <| Zk <| Zt <| Sr <| Zqm Z Z <| JO_q (QE_addN 2 Z Z O) Z <| At Z Z <| Sr <| At Z Z <| Zs <| Sr <| Zqm Z Z <| Zqm Z Z <| Jc Z Z Z (risf_ac l ts D _ _ _ n c ((i + 1) + 1) (advP l (advP l t)) (hT.le (h1.t h2|>.t h4)) hz ((ht.nmN hnm).isN hb4) [41] (by decide +kernel)) ?_
  rintro _ _ s5 h5 ⟨rfl, (⟨hb5, rfl⟩ | ⟨hb5, rfl⟩)⟩
  ·
   rw [if_pos hb5, pBody, expY hb5] at hq
   refine ZqnT Z Z <| Nt <| Zz Z <| Zk <| Zt <| Zs <| Sr <| Zqm Z Z <| Zqm Z Z <| JO_q (QE_addN 1 Z Z O) Z <| Jc Z Z Z (risf_ac l ts D _ _ _ n c (((i + 1) + 1) + 1) (advP l (advP l (advP l t))) (hT.le (h1.t h2|>.t h4|>.t h5)) hz (((ht.nmN hnm).isN hb4).isN hb5) [123] (by decide +kernel)) ?_
   rintro _ _ s6 h6 ⟨rfl, (⟨hb6, rfl⟩ | ⟨hb6, rfl⟩)⟩
   ·
    rw [expY hb6] at hq
    simp only [exp0, okPR, erPR] at hq
    refine ZqnT Z Z <| Nt <| Zz Z <| Zk <| Zt <| Sr <| Zqm Z Z <| JO_q (QE_addN 2 Z Z O) Z <| At Z Z <| Zs <| Sr <| Zqm Z Z <| Zqm Z Z <| Jc Z Z Z (risf_ac l ts D _ _ _ n c ((((i + 1) + 1) + 1) + 1) (advP l (advP l (advP l (advP l t)))) (hT.le (h1.t h2|>.t h4|>.t h5|>.t h6)) hz ((((ht.nmN hnm).isN hb4).isN hb5).isN hb6) [118, 97, 114] (by decide +kernel)) ?_
    rintro _ _ s7 h7 ⟨rfl, (⟨hb7, rfl⟩ | ⟨hb7, rfl⟩)⟩
    ·
     rw [if_pos hb7] at hq
     refine Nt <| Zy Z <| Sr <| Zqm Z Z <| Zqm Z Z <| JO_q (QE_addN 1 Z Z O) Z <| Jc Z Z Z (hNm D _ _ _ n c (((((i + 1) + 1) + 1) + 1) + 1) (advP l (advP l (advP l (advP l (advP l t))))) _ (hT.le (h1.t h2|>.t h4|>.t h5|>.t h6|>.t h7)) hz (((((ht.nmN hnm).isN hb4).isN hb5).isN hb6).isN hb7) O (andOut hq hr)) ?_
     rintro _ _ s8 h8 ⟨rfl, (⟨x8, _, k8, t8, rfl, ⟨A8, n8, c8, rfl, hP8⟩, ht8, hk8, he8⟩ | ⟨x8, _, k8, t8, rfl, ⟨A8, n8, c8, rfl, hP8⟩, ht8, hk8, he8⟩)⟩
     ·
      have hl8 := ht8.lt
      try dsimp only at he8
      rw [he8] at hq
      simp only [okPR, erPR] at hq
      refine Zqm Z Z <| Zqx Z Z Z <| Zqx Z Z Z <| Zqx Z Z Z <| Wb Y5 <| Wt 0 [_, _, _, _] Y9 <| Zqa Z Z <| At Z Z <| Zs <| Sr <| Zqm Z Z <| ZqnT Z Z <| Zqm Z Z <| Zg Z Z <| Zqm Z Z <| Zg Z Z <| Zqm Z Z <| Zg Z Z <| Jc Z Z Z (risf_ac l ts D _ _ _ n c k8 t8 (hT.le (h1.t h2|>.t h4|>.t h5|>.t h6|>.t h7|>.t h8)) hz ht8 [59] (by decide +kernel)) ?_
      rintro _ _ s9 h9 ⟨rfl, (⟨hb9, rfl⟩ | ⟨hb9, rfl⟩)⟩
      ·
       rw [expY hb9] at hq
       simp only [exp0, okPR, erPR] at hq
       refine Zg Z Z <| ZqnT Z Z <| ZqF Z Z Z <| Nt <| Zz Z <| Zk <| Zt <| Zr <| Zqm Z Z <| JO_q (QE_addN 1 Z Z O) Z <| At Z Z <| Sr <| Zqm Z Z <| Zqm Z Z <| Jc Z Z Z (ihB D _ _ _ n c (k8 + 1) (advP l t8) _ (hT.le (h1.t h2|>.t h4|>.t h5|>.t h6|>.t h7|>.t h8|>.t h9)) hz (ht8.isN hb9) O (andOut hq hr)) ?_
       rintro _ _ s10 h10 ⟨rfl, (⟨x10, _, k10, t10, rfl, ⟨d10, A10, n10, c10, rfl, hE10⟩, ht10, hk10, he10⟩ | ⟨x10, _, k10, t10, rfl, ⟨d10, A10, n10, c10, rfl, hE10⟩, ht10, hk10, he10⟩)⟩
       ·
        have hl10 := ht10.lt
        try dsimp only at he10
        rw [he10] at hq
        simp only [okPR, erPR] at hq
        refine Zqm Z Z <| Zqx Z Z Z <| Zqx Z Z Z <| Zqx Z Z Z <| Wb Y5 <| Wt 0 [_, _, _, _] Y9 <| Zqa Z Z <| At Z Z <| Sr <| JO_q (QE_ldA 0 [_, _, _, _] Z Z Z Z Z) Z <| Zqm Z Z <| Zqm Z Z <| Wt 1 [_, _, _, _] Y9 <| Zqa Z Z <| At Z Z <| Zo <| ?_
        refine retQ_mk [_, _] L (.inr Z) (.agg (us := [_, _, _, _]) 1 Z Z Z Z Z (.tmp Z (.tmp Z (.nil)))) Z (h1.t h2|>.t h4|>.t h5|>.t h6|>.t h7|>.t h8|>.t h9|>.t h10) (fun sR hS2 => ?_)
        exact ⟨[], rfl, fun s2 hs2 hp => .inl ⟨⟨x0.text, [], x8, x10⟩, _, _, _, rfl, ⟨d10, none, 0, 0, A8, n8, c8, A10, n10, c10, rfl, strs_nil _, hP8.le (h9.t h10|>.t (hS2.t hs2)), hE10.le ((Lr D).t (hS2.t hs2)), hxl0⟩, ht10, O, hq⟩⟩
       have hl10 := ht10.lt
       try dsimp only at he10
       rw [he10] at hq
       simp only [okPR, erPR] at hq
       refine Zqm Z Z <| Zqx Z Z Z <| Zqx Z Z Z <| Zqx Z Z Z <| Wb Y5 <| Wt 0 [_, _, _, _] Y9 <| Zqa Z Z <| At Z Z <| Sr <| JO_q (QE_ldA 0 [_, _, _, _] Z Z Z Z Z) Z <| Zqm Z Z <| Zqm Z Z <| Wt 1 [_, _, _, _] Y9 <| Zqa Z Z <| At Z Z <| Zo <| ?_
       refine retQ_mk [_, _] L (.inr Z) (.agg (us := [_, _, _, _]) 1 Z Z Z Z Z (.tmp Z (.tmp Z (.nil)))) Z (h1.t h2|>.t h4|>.t h5|>.t h6|>.t h7|>.t h8|>.t h9|>.t h10) (fun sR hS2 => ?_)
       exact ⟨[], rfl, fun s2 hs2 hp => .inr ⟨⟨x0.text, [], x8, x10⟩, _, _, _, rfl, ⟨d10, none, 0, 0, A8, n8, c8, A10, n10, c10, rfl, strs_nil _, hP8.le (h9.t h10|>.t (hS2.t hs2)), hE10.le ((Lr D).t (hS2.t hs2)), hxl0⟩, ht10, O, hq⟩⟩
      rw [expN hb9] at hq
      simp only [okPR, erPR] at hq
      refine Zg Z Z <| ZqnF Z Z <| ZqF Z Z Z <| Nt <| Zy Z <| Sr <| JO_q (QE_ldA 0 [_, _, _, _] Z Z Z Z Z) Z <| Zqm Z Z <| Wt 1 [_, _, _, _] Y9 <| Zqa Z Z <| At Z Z <| Zo <| Zu <| Zu <| ?_
      refine retQ_mk [_, _] L (.inr Z) (.agg (us := [_, _, _, _]) 1 Z Z Z Z Z (.tmp Z (.tmp Z (.nil)))) Z (h1.t h2|>.t h4|>.t h5|>.t h6|>.t h7|>.t h8|>.t h9) (fun sR hS2 => ?_)
      exact ⟨[], rfl, fun s2 hs2 hp => .inr ⟨⟨x0.text, [], x8, []⟩, _, _, _, rfl, ⟨0, none, 0, 0, A8, n8, c8, none, 0, 0, rfl, strs_nil _, hP8.le (h9.t (hS2.t hs2)), stms_nil _ _, hxl0⟩, ht8, O, hq⟩⟩
     have hl8 := ht8.lt
     try dsimp only at he8
     rw [he8] at hq
     simp only [okPR, erPR] at hq
     refine Zqm Z Z <| Zqx Z Z Z <| Zqx Z Z Z <| Zqx Z Z Z <| Wb Y5 <| Wt 0 [_, _, _, _] Y9 <| Zqa Z Z <| At Z Z <| Zs <| Sr <| Zqm Z Z <| ZqnF Z Z <| Zqm Z Z <| Wf Y4 <| Wf Y4 <| Wf Y4 <| Wf Y4 <| ZqT Z Z Z <| Nt <| Zy Z <| Sr <| JO_q (QE_ldA 0 [_, _, _, _] Z Z Z Z Z) Z <| Zqm Z Z <| Wt 1 [_, _, _, _] Y9 <| Zqa Z Z <| At Z Z <| Zo <| Zu <| Zu <| ?_
     refine retQ_mk [_, _] L (.inr Z) (.agg (us := [_, _, _, _]) 1 Z Z Z Z Z (.tmp Z (.tmp Z (.nil)))) Z (h1.t h2|>.t h4|>.t h5|>.t h6|>.t h7|>.t h8) (fun sR hS2 => ?_)
     exact ⟨[], rfl, fun s2 hs2 hp => .inr ⟨⟨x0.text, [], x8, []⟩, _, _, _, rfl, ⟨0, none, 0, 0, A8, n8, c8, none, 0, 0, rfl, strs_nil _, hP8.le ((Lr D).t (hS2.t hs2)), stms_nil _ _, hxl0⟩, ht8, O, hq⟩⟩
    rw [if_neg (bNe hb7)] at hq
    refine Nt <| Zz Z <| Zk <| Zt <| Sr <| Zqm Z Z <| Zqm Z Z <| Jc Z Z Z (ihB D _ _ _ n c ((((i + 1) + 1) + 1) + 1) (advP l (advP l (advP l (advP l t)))) _ (hT.le (h1.t h2|>.t h4|>.t h5|>.t h6|>.t h7)) hz ((((ht.nmN hnm).isN hb4).isN hb5).isN hb6) O (andOut hq hr)) ?_
    rintro _ _ s11 h11 ⟨rfl, (⟨x11, _, k11, t11, rfl, ⟨d11, A11, n11, c11, rfl, hE11⟩, ht11, hk11, he11⟩ | ⟨x11, _, k11, t11, rfl, ⟨d11, A11, n11, c11, rfl, hE11⟩, ht11, hk11, he11⟩)⟩
    ·
     have hl11 := ht11.lt
     try dsimp only at he11
     rw [he11] at hq
     simp only [okPR, erPR] at hq
     refine Zqm Z Z <| Zqx Z Z Z <| Zqx Z Z Z <| Zqx Z Z Z <| Wb Y5 <| Wt 0 [_, _, _, _] Y9 <| Zqa Z Z <| At Z Z <| Sr <| JO_q (QE_ldA 0 [_, _, _, _] Z Z Z Z Z) Z <| Zqm Z Z <| Zqm Z Z <| Wt 1 [_, _, _, _] Y9 <| Zqa Z Z <| At Z Z <| Zo <| ?_
     refine retQ_mk [_, _] L (.inr Z) (.agg (us := [_, _, _, _]) 1 Z Z Z Z Z (.tmp Z (.tmp Z (.nil)))) Z (h1.t h2|>.t h4|>.t h5|>.t h6|>.t h7|>.t h11) (fun sR hS2 => ?_)
     exact ⟨[], rfl, fun s2 hs2 hp => .inl ⟨⟨x0.text, [], [], x11⟩, _, _, _, rfl, ⟨d11, none, 0, 0, none, 0, 0, A11, n11, c11, rfl, strs_nil _, strs_nil _, hE11.le ((Lr D).t (hS2.t hs2)), hxl0⟩, ht11, O, hq⟩⟩
    have hl11 := ht11.lt
    try dsimp only at he11
    rw [he11] at hq
    simp only [okPR, erPR] at hq
    refine Zqm Z Z <| Zqx Z Z Z <| Zqx Z Z Z <| Zqx Z Z Z <| Wb Y5 <| Wt 0 [_, _, _, _] Y9 <| Zqa Z Z <| At Z Z <| Sr <| JO_q (QE_ldA 0 [_, _, _, _] Z Z Z Z Z) Z <| Zqm Z Z <| Zqm Z Z <| Wt 1 [_, _, _, _] Y9 <| Zqa Z Z <| At Z Z <| Zo <| ?_
    refine retQ_mk [_, _] L (.inr Z) (.agg (us := [_, _, _, _]) 1 Z Z Z Z Z (.tmp Z (.tmp Z (.nil)))) Z (h1.t h2|>.t h4|>.t h5|>.t h6|>.t h7|>.t h11) (fun sR hS2 => ?_)
    exact ⟨[], rfl, fun s2 hs2 hp => .inr ⟨⟨x0.text, [], [], x11⟩, _, _, _, rfl, ⟨d11, none, 0, 0, none, 0, 0, A11, n11, c11, rfl, strs_nil _, strs_nil _, hE11.le ((Lr D).t (hS2.t hs2)), hxl0⟩, ht11, O, hq⟩⟩
   rw [expN hb6] at hq
   simp only [okPR, erPR] at hq
   refine ZqnF Z Z <| Nt <| Zy Z <| Sr <| JO_q (QE_ldA 0 [_, _, _, _] Z Z Z Z Z) Z <| Zqm Z Z <| JO_q (QE_addN 1 Z Z O) Z <| Wt 1 [_, _, _, _] Y9 <| Zqa Z Z <| At Z Z <| Zo <| Zu <| ?_
   refine retQ_mk [_, _] L (.inr Z) (.agg (us := [_, _, _, _]) 1 Z Z Z Z Z (.tmp Z (.tmp Z (.nil)))) Z (h1.t h2|>.t h4|>.t h5|>.t h6) (fun sR hS2 => ?_)
   exact ⟨[], rfl, fun s2 hs2 hp => .inr ⟨⟨x0.text, [], [], []⟩, _, _, _, rfl, ⟨0, none, 0, 0, none, 0, 0, none, 0, 0, rfl, strs_nil _, strs_nil _, stms_nil _ _, hxl0⟩, (((ht.nmN hnm).isN hb4).isN hb5), O, hq⟩⟩
  rw [if_neg (bNe hb5)] at hq
  refine ZqnF Z Z <| Nt <| Zy Z <| Sr <| Zqm Z Z <| Zqm Z Z <| Jc Z Z Z (hNm D _ _ _ n c ((i + 1) + 1) (advP l (advP l t)) _ (hT.le (h1.t h2|>.t h4|>.t h5)) hz ((ht.nmN hnm).isN hb4) O (andOut hq hr)) ?_
  rintro _ _ s12 h12 ⟨rfl, (⟨x12, _, k12, t12, rfl, ⟨A12, n12, c12, rfl, hP12⟩, ht12, hk12, he12⟩ | ⟨x12, _, k12, t12, rfl, ⟨A12, n12, c12, rfl, hP12⟩, ht12, hk12, he12⟩)⟩
  ·
   have hl12 := ht12.lt
   try dsimp only at he12
   rw [he12] at hq
   simp only [okPR, erPR] at hq
   try rw [pBody] at hq
   refine Zqm Z Z <| Zqx Z Z Z <| Zqx Z Z Z <| Zqx Z Z Z <| Wb Y5 <| Wt 0 [_, _, _, _] Y9 <| Zqa Z Z <| At Z Z <| Sr <| Zqm Z Z <| ZqnT Z Z <| Zqm Z Z <| Zg Z Z <| Zqm Z Z <| Zg Z Z <| Zqm Z Z <| Zg Z Z <| Jc Z Z Z (risf_ac l ts D _ _ _ n c k12 t12 (hT.le (h1.t h2|>.t h4|>.t h5|>.t h12)) hz ht12 [41] (by decide +kernel)) ?_
   rintro _ _ s13 h13 ⟨rfl, (⟨hb13, rfl⟩ | ⟨hb13, rfl⟩)⟩
   ·
    rw [expY hb13] at hq
    refine Zg Z Z <| ZqnT Z Z <| ZqF Z Z Z <| Nt <| Zz Z <| Zk <| Zt <| Zs <| Sr <| Zqm Z Z <| Zqm Z Z <| JO_q (QE_addN 1 Z Z O) Z <| Jc Z Z Z (risf_ac l ts D _ _ _ n c (k12 + 1) (advP l t12) (hT.le (h1.t h2|>.t h4|>.t h5|>.t h12|>.t h13)) hz (ht12.isN hb13) [123] (by decide +kernel)) ?_
    rintro _ _ s14 h14 ⟨rfl, (⟨hb14, rfl⟩ | ⟨hb14, rfl⟩)⟩
    ·
     rw [expY hb14] at hq
     simp only [exp0, okPR, erPR] at hq
     refine ZqnT Z Z <| Nt <| Zz Z <| Zk <| Zt <| Sr <| Zqm Z Z <| JO_q (QE_addN 2 Z Z O) Z <| At Z Z <| Zs <| Sr <| Zqm Z Z <| Zqm Z Z <| Jc Z Z Z (risf_ac l ts D _ _ _ n c ((k12 + 1) + 1) (advP l (advP l t12)) (hT.le (h1.t h2|>.t h4|>.t h5|>.t h12|>.t h13|>.t h14)) hz ((ht12.isN hb13).isN hb14) [118, 97, 114] (by decide +kernel)) ?_
     rintro _ _ s15 h15 ⟨rfl, (⟨hb15, rfl⟩ | ⟨hb15, rfl⟩)⟩
     ·
      rw [if_pos hb15] at hq
      refine Nt <| Zy Z <| Sr <| Zqm Z Z <| Zqm Z Z <| JO_q (QE_addN 1 Z Z O) Z <| Jc Z Z Z (hNm D _ _ _ n c (((k12 + 1) + 1) + 1) (advP l (advP l (advP l t12))) _ (hT.le (h1.t h2|>.t h4|>.t h5|>.t h12|>.t h13|>.t h14|>.t h15)) hz (((ht12.isN hb13).isN hb14).isN hb15) O (andOut hq hr)) ?_
      rintro _ _ s16 h16 ⟨rfl, (⟨x16, _, k16, t16, rfl, ⟨A16, n16, c16, rfl, hP16⟩, ht16, hk16, he16⟩ | ⟨x16, _, k16, t16, rfl, ⟨A16, n16, c16, rfl, hP16⟩, ht16, hk16, he16⟩)⟩
      ·
       have hl16 := ht16.lt
       try dsimp only at he16
       rw [he16] at hq
       simp only [okPR, erPR] at hq
       refine Zqm Z Z <| Zqx Z Z Z <| Zqx Z Z Z <| Zqx Z Z Z <| Wb Y5 <| Wt 0 [_, _, _, _] Y9 <| Zqa Z Z <| At Z Z <| Zs <| Sr <| Zqm Z Z <| ZqnT Z Z <| Zqm Z Z <| Zg Z Z <| Zqm Z Z <| Zg Z Z <| Zqm Z Z <| Zg Z Z <| Jc Z Z Z (risf_ac l ts D _ _ _ n c k16 t16 (hT.le (h1.t h2|>.t h4|>.t h5|>.t h12|>.t h13|>.t h14|>.t h15|>.t h16)) hz ht16 [59] (by decide +kernel)) ?_
       rintro _ _ s17 h17 ⟨rfl, (⟨hb17, rfl⟩ | ⟨hb17, rfl⟩)⟩
       ·
        rw [expY hb17] at hq
        simp only [exp0, okPR, erPR] at hq
        refine Zg Z Z <| ZqnT Z Z <| ZqF Z Z Z <| Nt <| Zz Z <| Zk <| Zt <| Zr <| Zqm Z Z <| JO_q (QE_addN 1 Z Z O) Z <| At Z Z <| Sr <| Zqm Z Z <| Zqm Z Z <| Jc Z Z Z (ihB D _ _ _ n c (k16 + 1) (advP l t16) _ (hT.le (h1.t h2|>.t h4|>.t h5|>.t h12|>.t h13|>.t h14|>.t h15|>.t h16|>.t h17)) hz (ht16.isN hb17) O (andOut hq hr)) ?_
        rintro _ _ s18 h18 ⟨rfl, (⟨x18, _, k18, t18, rfl, ⟨d18, A18, n18, c18, rfl, hE18⟩, ht18, hk18, he18⟩ | ⟨x18, _, k18, t18, rfl, ⟨d18, A18, n18, c18, rfl, hE18⟩, ht18, hk18, he18⟩)⟩
        ·
         have hl18 := ht18.lt
         try dsimp only at he18
         rw [he18] at hq
         simp only [okPR, erPR] at hq
         refine Zqm Z Z <| Zqx Z Z Z <| Zqx Z Z Z <| Zqx Z Z Z <| Wb Y5 <| Wt 0 [_, _, _, _] Y9 <| Zqa Z Z <| At Z Z <| Sr <| JO_q (QE_ldA 0 [_, _, _, _] Z Z Z Z Z) Z <| Zqm Z Z <| Zqm Z Z <| Wt 1 [_, _, _, _] Y9 <| Zqa Z Z <| At Z Z <| Zo <| ?_
         refine retQ_mk [_, _] L (.inr Z) (.agg (us := [_, _, _, _]) 1 Z Z Z Z Z (.tmp Z (.tmp Z (.nil)))) Z (h1.t h2|>.t h4|>.t h5|>.t h12|>.t h13|>.t h14|>.t h15|>.t h16|>.t h17|>.t h18) (fun sR hS2 => ?_)
         exact ⟨[], rfl, fun s2 hs2 hp => .inl ⟨⟨x0.text, x12, x16, x18⟩, _, _, _, rfl, ⟨d18, A12, n12, c12, A16, n16, c16, A18, n18, c18, rfl, hP12.le (h13.t h14|>.t h15|>.t h16|>.t h17|>.t h18|>.t (hS2.t hs2)), hP16.le (h17.t h18|>.t (hS2.t hs2)), hE18.le ((Lr D).t (hS2.t hs2)), hxl0⟩, ht18, O, hq⟩⟩
        have hl18 := ht18.lt
        try dsimp only at he18
        rw [he18] at hq
        simp only [okPR, erPR] at hq
        refine Zqm Z Z <| Zqx Z Z Z <| Zqx Z Z Z <| Zqx Z Z Z <| Wb Y5 <| Wt 0 [_, _, _, _] Y9 <| Zqa Z Z <| At Z Z <| Sr <| JO_q (QE_ldA 0 [_, _, _, _] Z Z Z Z Z) Z <| Zqm Z Z <| Zqm Z Z <| Wt 1 [_, _, _, _] Y9 <| Zqa Z Z <| At Z Z <| Zo <| ?_
        refine retQ_mk [_, _] L (.inr Z) (.agg (us := [_, _, _, _]) 1 Z Z Z Z Z (.tmp Z (.tmp Z (.nil)))) Z (h1.t h2|>.t h4|>.t h5|>.t h12|>.t h13|>.t h14|>.t h15|>.t h16|>.t h17|>.t h18) (fun sR hS2 => ?_)
        exact ⟨[], rfl, fun s2 hs2 hp => .inr ⟨⟨x0.text, x12, x16, x18⟩, _, _, _, rfl, ⟨d18, A12, n12, c12, A16, n16, c16, A18, n18, c18, rfl, hP12.le (h13.t h14|>.t h15|>.t h16|>.t h17|>.t h18|>.t (hS2.t hs2)), hP16.le (h17.t h18|>.t (hS2.t hs2)), hE18.le ((Lr D).t (hS2.t hs2)), hxl0⟩, ht18, O, hq⟩⟩
       rw [expN hb17] at hq
       simp only [okPR, erPR] at hq
       refine Zg Z Z <| ZqnF Z Z <| ZqF Z Z Z <| Nt <| Zy Z <| Sr <| JO_q (QE_ldA 0 [_, _, _, _] Z Z Z Z Z) Z <| Zqm Z Z <| Wt 1 [_, _, _, _] Y9 <| Zqa Z Z <| At Z Z <| Zo <| Zu <| Zu <| ?_
       refine retQ_mk [_, _] L (.inr Z) (.agg (us := [_, _, _, _]) 1 Z Z Z Z Z (.tmp Z (.tmp Z (.nil)))) Z (h1.t h2|>.t h4|>.t h5|>.t h12|>.t h13|>.t h14|>.t h15|>.t h16|>.t h17) (fun sR hS2 => ?_)
       exact ⟨[], rfl, fun s2 hs2 hp => .inr ⟨⟨x0.text, x12, x16, []⟩, _, _, _, rfl, ⟨0, A12, n12, c12, A16, n16, c16, none, 0, 0, rfl, hP12.le (h13.t h14|>.t h15|>.t h16|>.t h17|>.t (hS2.t hs2)), hP16.le (h17.t (hS2.t hs2)), stms_nil _ _, hxl0⟩, ht16, O, hq⟩⟩
      have hl16 := ht16.lt
      try dsimp only at he16
      rw [he16] at hq
      simp only [okPR, erPR] at hq
      refine Zqm Z Z <| Zqx Z Z Z <| Zqx Z Z Z <| Zqx Z Z Z <| Wb Y5 <| Wt 0 [_, _, _, _] Y9 <| Zqa Z Z <| At Z Z <| Zs <| Sr <| Zqm Z Z <| ZqnF Z Z <| Zqm Z Z <| Wf Y4 <| Wf Y4 <| Wf Y4 <| Wf Y4 <| ZqT Z Z Z <| Nt <| Zy Z <| Sr <| JO_q (QE_ldA 0 [_, _, _, _] Z Z Z Z Z) Z <| Zqm Z Z <| Wt 1 [_, _, _, _] Y9 <| Zqa Z Z <| At Z Z <| Zo <| Zu <| Zu <| ?_
      refine retQ_mk [_, _] L (.inr Z) (.agg (us := [_, _, _, _]) 1 Z Z Z Z Z (.tmp Z (.tmp Z (.nil)))) Z (h1.t h2|>.t h4|>.t h5|>.t h12|>.t h13|>.t h14|>.t h15|>.t h16) (fun sR hS2 => ?_)
      exact ⟨[], rfl, fun s2 hs2 hp => .inr ⟨⟨x0.text, x12, x16, []⟩, _, _, _, rfl, ⟨0, A12, n12, c12, A16, n16, c16, none, 0, 0, rfl, hP12.le (h13.t h14|>.t h15|>.t h16|>.t (hS2.t hs2)), hP16.le ((Lr D).t (hS2.t hs2)), stms_nil _ _, hxl0⟩, ht16, O, hq⟩⟩
     rw [if_neg (bNe hb15)] at hq
     refine Nt <| Zz Z <| Zk <| Zt <| Sr <| Zqm Z Z <| Zqm Z Z <| Jc Z Z Z (ihB D _ _ _ n c ((k12 + 1) + 1) (advP l (advP l t12)) _ (hT.le (h1.t h2|>.t h4|>.t h5|>.t h12|>.t h13|>.t h14|>.t h15)) hz ((ht12.isN hb13).isN hb14) O (andOut hq hr)) ?_
     rintro _ _ s19 h19 ⟨rfl, (⟨x19, _, k19, t19, rfl, ⟨d19, A19, n19, c19, rfl, hE19⟩, ht19, hk19, he19⟩ | ⟨x19, _, k19, t19, rfl, ⟨d19, A19, n19, c19, rfl, hE19⟩, ht19, hk19, he19⟩)⟩
     ·
      have hl19 := ht19.lt
      try dsimp only at he19
      rw [he19] at hq
      simp only [okPR, erPR] at hq
      refine Zqm Z Z <| Zqx Z Z Z <| Zqx Z Z Z <| Zqx Z Z Z <| Wb Y5 <| Wt 0 [_, _, _, _] Y9 <| Zqa Z Z <| At Z Z <| Sr <| JO_q (QE_ldA 0 [_, _, _, _] Z Z Z Z Z) Z <| Zqm Z Z <| Zqm Z Z <| Wt 1 [_, _, _, _] Y9 <| Zqa Z Z <| At Z Z <| Zo <| ?_
      refine retQ_mk [_, _] L (.inr Z) (.agg (us := [_, _, _, _]) 1 Z Z Z Z Z (.tmp Z (.tmp Z (.nil)))) Z (h1.t h2|>.t h4|>.t h5|>.t h12|>.t h13|>.t h14|>.t h15|>.t h19) (fun sR hS2 => ?_)
      exact ⟨[], rfl, fun s2 hs2 hp => .inl ⟨⟨x0.text, x12, [], x19⟩, _, _, _, rfl, ⟨d19, A12, n12, c12, none, 0, 0, A19, n19, c19, rfl, hP12.le (h13.t h14|>.t h15|>.t h19|>.t (hS2.t hs2)), strs_nil _, hE19.le ((Lr D).t (hS2.t hs2)), hxl0⟩, ht19, O, hq⟩⟩
     have hl19 := ht19.lt
     try dsimp only at he19
     rw [he19] at hq
     simp only [okPR, erPR] at hq
     refine Zqm Z Z <| Zqx Z Z Z <| Zqx Z Z Z <| Zqx Z Z Z <| Wb Y5 <| Wt 0 [_, _, _, _] Y9 <| Zqa Z Z <| At Z Z <| Sr <| JO_q (QE_ldA 0 [_, _, _, _] Z Z Z Z Z) Z <| Zqm Z Z <| Zqm Z Z <| Wt 1 [_, _, _, _] Y9 <| Zqa Z Z <| At Z Z <| Zo <| ?_
     refine retQ_mk [_, _] L (.inr Z) (.agg (us := [_, _, _, _]) 1 Z Z Z Z Z (.tmp Z (.tmp Z (.nil)))) Z (h1.t h2|>.t h4|>.t h5|>.t h12|>.t h13|>.t h14|>.t h15|>.t h19) (fun sR hS2 => ?_)
     exact ⟨[], rfl, fun s2 hs2 hp => .inr ⟨⟨x0.text, x12, [], x19⟩, _, _, _, rfl, ⟨d19, A12, n12, c12, none, 0, 0, A19, n19, c19, rfl, hP12.le (h13.t h14|>.t h15|>.t h19|>.t (hS2.t hs2)), strs_nil _, hE19.le ((Lr D).t (hS2.t hs2)), hxl0⟩, ht19, O, hq⟩⟩
    rw [expN hb14] at hq
    simp only [okPR, erPR] at hq
    refine ZqnF Z Z <| Nt <| Zy Z <| Sr <| JO_q (QE_ldA 0 [_, _, _, _] Z Z Z Z Z) Z <| Zqm Z Z <| JO_q (QE_addN 1 Z Z O) Z <| Wt 1 [_, _, _, _] Y9 <| Zqa Z Z <| At Z Z <| Zo <| Zu <| ?_
    refine retQ_mk [_, _] L (.inr Z) (.agg (us := [_, _, _, _]) 1 Z Z Z Z Z (.tmp Z (.tmp Z (.nil)))) Z (h1.t h2|>.t h4|>.t h5|>.t h12|>.t h13|>.t h14) (fun sR hS2 => ?_)
    exact ⟨[], rfl, fun s2 hs2 hp => .inr ⟨⟨x0.text, x12, [], []⟩, _, _, _, rfl, ⟨0, A12, n12, c12, none, 0, 0, none, 0, 0, rfl, hP12.le (h13.t h14|>.t (hS2.t hs2)), strs_nil _, stms_nil _ _, hxl0⟩, (ht12.isN hb13), O, hq⟩⟩
   rw [expN hb13] at hq
   simp only [okPR, erPR] at hq
   refine Zg Z Z <| ZqnF Z Z <| ZqF Z Z Z <| Nt <| Zy Z <| Sr <| JO_q (QE_ldA 0 [_, _, _, _] Z Z Z Z Z) Z <| Zqm Z Z <| Wt 1 [_, _, _, _] Y9 <| Zqa Z Z <| At Z Z <| Zo <| Zu <| ?_
   refine retQ_mk [_, _] L (.inr Z) (.agg (us := [_, _, _, _]) 1 Z Z Z Z Z (.tmp Z (.tmp Z (.nil)))) Z (h1.t h2|>.t h4|>.t h5|>.t h12|>.t h13) (fun sR hS2 => ?_)
   exact ⟨[], rfl, fun s2 hs2 hp => .inr ⟨⟨x0.text, x12, [], []⟩, _, _, _, rfl, ⟨0, A12, n12, c12, none, 0, 0, none, 0, 0, rfl, hP12.le (h13.t (hS2.t hs2)), strs_nil _, stms_nil _ _, hxl0⟩, ht12, O, hq⟩⟩
  have hl12 := ht12.lt
  try dsimp only at he12
  rw [he12] at hq
  simp only [okPR, erPR] at hq
  try rw [pBody] at hq
  refine Zqm Z Z <| Zqx Z Z Z <| Zqx Z Z Z <| Zqx Z Z Z <| Wb Y5 <| Wt 0 [_, _, _, _] Y9 <| Zqa Z Z <| At Z Z <| Sr <| Zqm Z Z <| ZqnF Z Z <| Zqm Z Z <| Wf Y4 <| Wf Y4 <| Wf Y4 <| Wf Y4 <| ZqT Z Z Z <| Nt <| Zy Z <| Sr <| JO_q (QE_ldA 0 [_, _, _, _] Z Z Z Z Z) Z <| Zqm Z Z <| Wt 1 [_, _, _, _] Y9 <| Zqa Z Z <| At Z Z <| Zo <| Zu <| ?_
  refine retQ_mk [_, _] L (.inr Z) (.agg (us := [_, _, _, _]) 1 Z Z Z Z Z (.tmp Z (.tmp Z (.nil)))) Z (h1.t h2|>.t h4|>.t h5|>.t h12) (fun sR hS2 => ?_)
  exact ⟨[], rfl, fun s2 hs2 hp => .inr ⟨⟨x0.text, x12, [], []⟩, _, _, _, rfl, ⟨0, A12, n12, c12, none, 0, 0, none, 0, 0, rfl, hP12.le ((Lr D).t (hS2.t hs2)), strs_nil _, stms_nil _ _, hxl0⟩, ht12, O, hq⟩⟩
 rw [expN hb4] at hq
 simp only [okPR, erPR] at hq
 refine ZqnF Z Z <| Nt <| Zy Z <| Sr <| JO_q (QE_ldA 0 [_, _, _, _] Z Z Z Z Z) Z <| Zqm Z Z <| JO_q (QE_addN 1 Z Z O) Z <| Wt 1 [_, _, _, _] Y9 <| Zqa Z Z <| At Z Z <| Zo <| Zu <| ?_
 refine retQ_mk [_, _] L (.inr Z) (.agg (us := [_, _, _, _]) 1 Z Z Z Z Z (.tmp Z (.tmp Z (.nil)))) Z (h1.t h2|>.t h4) (fun sR hS2 => ?_)
 exact ⟨[], rfl, fun s2 hs2 hp => .inr ⟨⟨x0.text, [], [], []⟩, _, _, _, rfl, ⟨0, none, 0, 0, none, 0, 0, none, 0, 0, rfl, strs_nil _, strs_nil _, stms_nil _ _, hxl0⟩, (ht.nmN hnm), O, hq⟩⟩
theorem rglo_st (l : Str) (ts : List RT) (N : Nat) : RC 36 l ts (fun m t => pGlo l m t) GloV N := by
 intro D L s A n c i t m hT hz ht hN hr
 refine AC.pubW (R := fun v s => RX l ts i GloV (pGlo l m t) s v) ?_
 try dsimp only at hr
 obtain ⟨r, hq⟩ : ∃ r, r = pGlo l m t := ⟨_, rfl⟩
 rw [← hq] at hr ⊢
 have hn := hT.1
 have hn2 := hT.2.1
 have hn3 := hT.2.2.1
 have hi0 := ht.lt
 rw [glo_ref] at hq
 refine AC_enter (TT := TT) (fn := Tryz.f36) TT_ok Tryz.func36 V Z Tryz.ntmps36 Z (rs := [.cell 4 52, .tmp 5, .tmp 6]) Z [(0, _), (1, _)] Z <| Sr <| JO_allocZ Z [_, _, _, _] Z Z ?_
 intro β1 s1 h1
 refine Zqa Z Z <| At Z Z <| Sr <| JO_allocZ Z [_, _, _, _] Z Z ?_
 intro β2 s2 h2
 refine Nt <| Sr <| JO_bs [(_, _), (_, _), (_, _)] [_, _, _] Z Z Z Z Z Z Z Z Z ?_
 intro β3 s3 h3 hc3
 refine At Z Z <| Zs <| Sr <| At Z Z <| Zp <| JC_loop (γ := Nat) (fun k => [(0, _), (1, _), (4, _), (5, _), (6, _), (7, _), (8, _), (9, .int .i64 (k : Int))]) (fun k => (β2, cb [.int .i64 (gkP t k), St [], .int .u32 0, .slice none 0 0] 52) :: (β1, cb [.int .i64 0, St [], .int .u32 0, .slice none 0 0] 52) :: L) (fun k tw => Le D s3 tw ∧ (k ≤ 3)) (fun k => 3 - k) (fun _ _ _ h hl => ⟨h.1.trans hl, h.2⟩) 0 (.cons Z (.cons Z (.cons Z (.cons Z (.cons Z (.cons Z (.cons Z (.cons Z (.nil _))))))))) Z ⟨Le.refl _, by omega⟩ ?_
 intro k s4 I4
 have hk3 := I4.2
 refine Zs <| Sr <| Zqm Z Z <| Zqlt Z Z Z <| Nt <| ?_
 refine JC_ifD Z (fun c5 => ?_) (fun c5 => ?_)
 ·
  refine Zk <| Zt <| Zs <| Zp <| Sr <| Zqm Z Z <| Zqm Z Z <| Zqm Z Z <| Zqm Z Z <| JO_q (QE_ia1 Z Z Z Z Z Z (show k < 3 by omega)) Z <| JO_q (QE_ldsR0 Z Z Z (w3_at (hc3.le I4.1) (show k < 3 by omega)) Z) Z <| Jc Z Z Z (risf_ac l ts D _ _ _ n c i t (hT.le (h1.t h2|>.t h3|>.t I4.1)) hz ht (w3.getD k []) (w3_id k)) ?_
  rintro _ _ s6 h6 ⟨rfl, (⟨hb6, rfl⟩ | ⟨hb6, rfl⟩)⟩
  ·
   have hg : gkP t (k + 1) = (k : Int) + 1 := if_pos hb6
   refine Nt <| Zy Z <| Zr <| Zqm Z Z <| JO_q (QE_add' (c := gkP t (k + 1)) Z Z (by rw [w64 O O]; exact hg.symm)) Z <| W0 Y5 <| Wt 0 [_, _, _, _] Y9 <| Zn <| Zb <| Zt <| Zr <| Zqm Z Z <| Zqadd Z Z Z (w64 O O) <| Zqa Z Z <| Zn <| ?_
   
   refine thenQ_n ⟨k + 1, [], kp, Z, ⟨(I4.1.t h6), O⟩, O⟩
  have hg : gkP t (k + 1) = gkP t k := if_neg (bNe hb6)
  refine Nt <| Zz Z <| Zk <| Zb <| Zt <| Zr <| Zqm Z Z <| Zqadd Z Z Z (w64 O O) <| Zqa Z Z <| Zn <| ?_
  rw [← hg]
  refine thenQ_n ⟨k + 1, [], kp, Z, ⟨(I4.1.t h6), O⟩, O⟩
 obtain rfl : k = 3 := by omega
 refine Zl <| Zv <| Zv <| Zd <| Zt <| Zs <| Sr <| W0 Y5 <| Wl 0 Y6 <| Zqeq Z Z Z <| Nt ?_
 refine JC_ifD Z (fun c7 => ?_) (fun c7 => ?_)
 ·
  rw [if_pos c7] at hq
  refine Sr <| JO_q (QE_ldA 0 [_, _, _, _] Z Z Z Z Z) Z <| Zqm Z Z <| Wt 1 [_, _, _, _] Y9 <| Zqa Z Z <| At Z Z <| Zo <| Zu <| ?_
  refine retQ_mk [_, _] _ (.inr Z) (.agg (us := [_, _, _, _]) 1 Z Z Z Z Z (.tmp Z (.tmp Z (.nil)))) Z (h1.t h2|>.t h3|>.t I4.1) (fun sR hS2 => ?_)
  exact ⟨[], rfl, fun s2 hs2 hp => .inr ⟨⟨(gkP t 3), [], 0, []⟩, _, _, _, rfl, ⟨none, 0, 0, rfl, wds_nil _, u32z, nilz⟩, ht, O, hq⟩⟩
 rw [if_neg c7] at hq
 have htk := gk_tok c7
 have ht1 := ht.next htk
 have hgr := gk_rng t
 have hlt1 := ht1.lt
 obtain ⟨x1, hx1, hr1, hl1⟩ := TA.at_ ht1
 obtain ⟨b1, o1, x11, hz1, hx11, hc1, hxl1, hxu1⟩ := Rts.at_ (hT.le (h1.t h2|>.t h3|>.t I4.1)) (show i + 1 < n by omega)
 cases hz1
 obtain rfl : x1 = x11 := Option.some.inj (hx1.symm.trans hx11)
 refine Zk <| Zt <| Zs <| Sr <| Zqm Z Z <| Zqm Z Z <| JO_q (QE_addN 1 Z Z O) Z <| JO_q (QE_iaN Z Z Z Z Z Z (show i + 1 < n by omega)) Z <| W0 Y5 <| JO_q (QE_ldsR0 Z Z Z (hc1.le (Lr D)) Z) Z <| Zqne Z Z Z <| Nt <| ?_
 refine JC_ifN Z (fun c8 => ?_) (fun c8 => ?_)
 ·
  rw [nmN (fun h => c8 (hr1.nm.1 h))] at hq
  simp only [okPR, erPR] at hq
  refine Sr <| JO_q (QE_ldA 0 [_, _, _, _] Z Z Z Z Z) Z <| Zqm Z Z <| JO_q (QE_addN 1 Z Z O) Z <| Wt 1 [_, _, _, _] Y9 <| Zqa Z Z <| At Z Z <| Zo <| Zu <| ?_
  refine retQ_mk [_, _] _ (.inr Z) (.agg (us := [_, _, _, _]) 1 Z Z Z Z Z (.tmp Z (.tmp Z (.nil)))) Z (h1.t h2|>.t h3|>.t I4.1) (fun sR hS2 => ?_)
  exact ⟨[], rfl, fun s2 hs2 hp => .inr ⟨⟨(gkP t 3), [], 0, []⟩, _, _, _, rfl, ⟨none, 0, 0, rfl, wds_nil _, u32z, nilz⟩, ht1, O, hq⟩⟩
 have hk2 : x1.kind = 2 := by have := c8; omega
 have hnm := hr1.nm.2 hk2
 rw [nmY hnm] at hq
 simp only [okPR, erPR] at hq
 rw [← hr1.nmT hk2] at hq
 refine Zk <| Zt <| Sr <| Zqm Z Z <| Zqm Z Z <| JO_q (QE_addN 1 Z Z O) Z <| JO_q (QE_iaN Z Z Z Z Z Z (show i + 1 < n by omega)) Z <| JO_q (QE_fa Z Z Z Z) Z <| JO_q (QE_ldsR 2 Z Z Z (hc1.le (Lr D)) Z) Z <| Wb Y5 <| Wt 0 [_, _, _, _] Y9 <| Nt <| Sr <| Zqm Z Z <| JO_q (QE_addN 2 Z Z O) Z <| At Z Z <| Zs <| Sr <| W0 Y5 <| Wl 0 Y6 <| Zqeq Z Z Z <| Nt <| ?_
 refine JC_ifD Z (fun c9 => ?_) (fun c9 => ?_)
 ·
  have hg1 := c9
  rw [gloR, if_pos hg1] at hq
  rw [hg1]
  refine Zs <| Sr <| Zqm Z Z <| Zqm Z Z <| Jc Z Z Z (risf_ac l ts D _ _ _ n c ((i + 1) + 1) (advP l (advP l t)) (hT.le (h1.t h2|>.t h3|>.t I4.1)) hz (ht1.nmN hnm) [61] (by decide +kernel)) ?_
  rintro _ _ s10 h10 ⟨rfl, (⟨hb10, rfl⟩ | ⟨hb10, rfl⟩)⟩
  ·
   rw [expY hb10] at hq
   simp only [exp0, okPR, erPR] at hq
   obtain ⟨x2, hx2, hr2, hl2⟩ := TA.at_ ((ht1.nmN hnm).isN hb10)
   obtain ⟨b2, o2, x22, hz2, hx22, hc2, hxl2, hxu2⟩ := Rts.at_ (hT.le (h1.t h2|>.t h3|>.t I4.1|>.t h10)) (show (((i + 1) + 1) + 1) < n by omega)
   cases hz2
   obtain rfl : x2 = x22 := Option.some.inj (hx2.symm.trans hx22)
   refine ZqnT Z Z <| Nt <| Zz Z <| Zk <| Zt <| Zs <| Sr <| Zqm Z Z <| Zqm Z Z <| JO_q (QE_addN 1 Z Z O) Z <| JO_q (QE_iaN Z Z Z Z Z Z (show i + 1 + 1 + 1 < n by omega)) Z <| W0 Y5 <| JO_q (QE_ldsR0 Z Z Z (hc2.le (Lr D)) Z) Z <| Zqne Z Z Z <| Nt <| ?_
   refine JC_ifN Z (fun c11 => ?_) (fun c11 => ?_)
   ·
    rw [nuN (fun h => c11 (hr2.nu.1 h))] at hq
    simp only [okPR, erPR] at hq
    refine Sr <| JO_q (QE_ldA 0 [_, _, _, _] Z Z Z Z Z) Z <| Zqm Z Z <| JO_q (QE_addN 1 Z Z O) Z <| Wt 1 [_, _, _, _] Y9 <| Zqa Z Z <| At Z Z <| Zo <| Zu <| Zu <| ?_
    refine retQ_mk [_, _] _ (.inr Z) (.agg (us := [_, _, _, _]) 1 Z Z Z Z Z (.tmp Z (.tmp Z (.nil)))) Z (h1.t h2|>.t h3|>.t I4.1|>.t h10) (fun sR hS2 => ?_)
    exact ⟨[], rfl, fun s2 hs2 hp => .inr ⟨⟨1, x1.text, 0, []⟩, _, _, _, rfl, ⟨none, 0, 0, rfl, wds_nil _, u32z, hxl1⟩, ((ht1.nmN hnm).isN hb10), O, hq⟩⟩
   have hk2 : x2.kind = 3 := by have := c11; omega
   have hn2 := hr2.nu.2 hk2
   rw [nuY hn2] at hq
   simp only [okPR, erPR] at hq
   rw [← hr2.nuV hk2] at hq
   refine Zk <| Zt <| Sr <| Zqm Z Z <| Zqm Z Z <| JO_q (QE_addN 1 Z Z O) Z <| JO_q (QE_iaN Z Z Z Z Z Z (show i + 1 + 1 + 1 < n by omega)) Z <| JO_q (QE_fa Z Z Z Z) Z <| JO_q (QE_ldsR 3 Z Z Z (hc2.le (Lr D)) Z) Z <| Wb Y5 <| Wt 0 [_, _, _, _] Y9 <| Nt <| Zr <| Zqm Z Z <| JO_q (QE_addN 2 Z Z O) Z <| At Z Z <| Zs <| Sr <| W0 Y5 <| Wl 0 Y6 <| JO_q (QE_cast (v' := .bool false) (QE_eq Z Z) (congrArg Value.bool (decide_eq_false O))) Z <| Nt <| Zz Z <| Zk <| Zt <| Zs <| Sr <| Zqm Z Z <| Zqm Z Z <| ?_
   refine Jc Z Z Z (risf_ac l ts D _ _ _ n c ((((i + 1) + 1) + 1) + 1) (advP l (advP l (advP l (advP l t)))) (hT.le (h1.t h2|>.t h3|>.t I4.1|>.t h10)) hz (((ht1.nmN hnm).isN hb10).nuN hn2) [59] (by decide +kernel)) ?_
   rintro _ _ s12 h12 ⟨rfl, (⟨hb12, rfl⟩ | ⟨hb12, rfl⟩)⟩
   ·
    rw [expY hb12] at hq
    simp only [exp0, okPR, erPR] at hq
    refine ZqnT Z Z <| Nt <| Zz Z <| Zk <| Zt <| Sr <| JO_q (QE_ldA 0 [_, _, _, _] Z Z Z Z Z) Z <| Zqm Z Z <| JO_q (QE_addN 1 Z Z O) Z <| Wt 1 [_, _, _, _] Y9 <| Zqa Z Z <| At Z Z <| Zo <| ?_
    refine retQ_mk [_, _] _ (.inr Z) (.agg (us := [_, _, _, _]) 1 Z Z Z Z Z (.tmp Z (.tmp Z (.nil)))) Z (h1.t h2|>.t h3|>.t I4.1|>.t h10|>.t h12) (fun sR hS2 => ?_)
    exact ⟨[], rfl, fun s2 hs2 hp => .inl ⟨⟨1, x1.text, x2.num, []⟩, _, _, _, rfl, ⟨none, 0, 0, rfl, wds_nil _, hxu2, hxl1⟩, ((((ht1.nmN hnm).isN hb10).nuN hn2).isN hb12), O, hq⟩⟩
   rw [expN hb12] at hq
   simp only [okPR, erPR] at hq
   refine ZqnF Z Z <| Nt <| Zy Z <| Sr <| JO_q (QE_ldA 0 [_, _, _, _] Z Z Z Z Z) Z <| Zqm Z Z <| Wt 1 [_, _, _, _] Y9 <| Zqa Z Z <| At Z Z <| Zo <| Zu <| ?_
   refine retQ_mk [_, _] _ (.inr Z) (.agg (us := [_, _, _, _]) 1 Z Z Z Z Z (.tmp Z (.tmp Z (.nil)))) Z (h1.t h2|>.t h3|>.t I4.1|>.t h10|>.t h12) (fun sR hS2 => ?_)
   exact ⟨[], rfl, fun s2 hs2 hp => .inr ⟨⟨1, x1.text, x2.num, []⟩, _, _, _, rfl, ⟨none, 0, 0, rfl, wds_nil _, hxu2, hxl1⟩, (((ht1.nmN hnm).isN hb10).nuN hn2), O, hq⟩⟩
  rw [expN hb10] at hq
  simp only [okPR, erPR] at hq
  refine ZqnF Z Z <| Nt <| Zy Z <| Sr <| JO_q (QE_ldA 0 [_, _, _, _] Z Z Z Z Z) Z <| Zqm Z Z <| Wt 1 [_, _, _, _] Y9 <| Zqa Z Z <| At Z Z <| Zo <| Zu <| Zu <| ?_
  refine retQ_mk [_, _] _ (.inr Z) (.agg (us := [_, _, _, _]) 1 Z Z Z Z Z (.tmp Z (.tmp Z (.nil)))) Z (h1.t h2|>.t h3|>.t I4.1|>.t h10) (fun sR hS2 => ?_)
  exact ⟨[], rfl, fun s2 hs2 hp => .inr ⟨⟨1, x1.text, 0, []⟩, _, _, _, rfl, ⟨none, 0, 0, rfl, wds_nil _, u32z, hxl1⟩, (ht1.nmN hnm), O, hq⟩⟩
 have hg1 := c9
 refine Zk <| Zt <| Zs <| Sr <| W0 Y5 <| Wl 0 Y6 <| Zqeq Z Z Z <| Nt <| ?_
 refine JC_ifD Z (fun c13 => ?_) (fun c13 => ?_)
 ·
  have hg3 := c13
  rw [gloR, if_neg hg1, if_pos hg3] at hq
  rw [hg3]
  refine Zs <| Sr <| Zqm Z Z <| Zqm Z Z <| Jc Z Z Z (risf_ac l ts D _ _ _ n c ((i + 1) + 1) (advP l (advP l t)) (hT.le (h1.t h2|>.t h3|>.t I4.1)) hz (ht1.nmN hnm) [91] (by decide +kernel)) ?_
  rintro _ _ s14 h14 ⟨rfl, (⟨hb14, rfl⟩ | ⟨hb14, rfl⟩)⟩
  ·
   rw [expY hb14] at hq
   simp only [exp0, okPR, erPR] at hq
   obtain ⟨x4, hx4, hr4, hl4⟩ := TA.at_ ((ht1.nmN hnm).isN hb14)
   obtain ⟨b4, o4, x44, hz4, hx44, hc4, hxl4, hxu4⟩ := Rts.at_ (hT.le (h1.t h2|>.t h3|>.t I4.1|>.t h14)) (show (((i + 1) + 1) + 1) < n by omega)
   cases hz4
   obtain rfl : x4 = x44 := Option.some.inj (hx4.symm.trans hx44)
   refine ZqnT Z Z <| Nt <| Zz Z <| Zk <| Zt <| Zs <| Sr <| Zqm Z Z <| Zqm Z Z <| JO_q (QE_addN 1 Z Z O) Z <| JO_q (QE_iaN Z Z Z Z Z Z (show i + 1 + 1 + 1 < n by omega)) Z <| W0 Y5 <| JO_q (QE_ldsR0 Z Z Z (hc4.le (Lr D)) Z) Z <| Zqne Z Z Z <| Nt <| ?_
   refine JC_ifN Z (fun c15 => ?_) (fun c15 => ?_)
   ·
    rw [nuN (fun h => c15 (hr4.nu.1 h))] at hq
    simp only [okPR, erPR] at hq
    refine Sr <| JO_q (QE_ldA 0 [_, _, _, _] Z Z Z Z Z) Z <| Zqm Z Z <| JO_q (QE_addN 1 Z Z O) Z <| Wt 1 [_, _, _, _] Y9 <| Zqa Z Z <| At Z Z <| Zo <| Zu <| Zu <| ?_
    refine retQ_mk [_, _] _ (.inr Z) (.agg (us := [_, _, _, _]) 1 Z Z Z Z Z (.tmp Z (.tmp Z (.nil)))) Z (h1.t h2|>.t h3|>.t I4.1|>.t h14) (fun sR hS2 => ?_)
    exact ⟨[], rfl, fun s2 hs2 hp => .inr ⟨⟨3, x1.text, 0, []⟩, _, _, _, rfl, ⟨none, 0, 0, rfl, wds_nil _, u32z, hxl1⟩, ((ht1.nmN hnm).isN hb14), O, hq⟩⟩
   have hk4 : x4.kind = 3 := by have := c15; omega
   have hn4 := hr4.nu.2 hk4
   rw [nuY hn4] at hq
   simp only [okPR, erPR] at hq
   rw [← hr4.nuV hk4] at hq
   refine Zk <| Zt <| Sr <| Zqm Z Z <| Zqm Z Z <| JO_q (QE_addN 1 Z Z O) Z <| JO_q (QE_iaN Z Z Z Z Z Z (show i + 1 + 1 + 1 < n by omega)) Z <| JO_q (QE_fa Z Z Z Z) Z <| JO_q (QE_ldsR 3 Z Z Z (hc4.le (Lr D)) Z) Z <| Wb Y5 <| Wt 0 [_, _, _, _] Y9 <| Nt <| Zs <| Sr <| Zqm Z Z <| Zqm Z Z <| JO_q (QE_addN 2 Z Z O) Z <| Jc Z Z Z (risf_ac l ts D _ _ _ n c ((((i + 1) + 1) + 1) + 1) (advP l (advP l (advP l (advP l t)))) (hT.le (h1.t h2|>.t h3|>.t I4.1|>.t h14)) hz (((ht1.nmN hnm).isN hb14).nuN hn4) [93] (by decide +kernel)) ?_
   rintro _ _ s16 h16 ⟨rfl, (⟨hb16, rfl⟩ | ⟨hb16, rfl⟩)⟩
   ·
    rw [expY hb16] at hq
    simp only [exp0, okPR, erPR] at hq
    refine ZqnT Z Z <| Nt <| Zz Z <| Zk <| Zt <| Sr <| Zqm Z Z <| JO_q (QE_addN 3 Z Z O) Z <| At Z Z <| Sr <| At Z Z <| Zp <| ?_
    refine JC_loop (γ := FG) (fun g => [(0, _), (4, _), (5, _), (6, _), (7, _), (10, .int .i64 (g.k : Int)), (11, .bool g.b)]) (fun g => (β2, cb [.int .i64 3, St x1.text, .int .u32 x4.num, g.v] 52) :: (β1, cb [.int .i64 0, St [], .int .u32 0, .slice none 0 0] 52) :: (g.M ++ L)) (fun g tw => Le D s16 tw ∧ (TA l ts g.k g.t ∧ i < g.k ∧ r = (if isP g.t (sepW g.b) = true then (pNums l g.m g.acc (advP l g.t)).and (numK l x1.text x4.num) else numK l x1.text x4.num g.acc g.t) ∧ g.acc.length ≤ g.k ∧ FL.Own 40 1 g.M g.v g.acc.length (wv g.acc) ∧ ∀ x ∈ g.acc, U32 x)) (fun g => ts.length - g.k) (fun _ _ _ h hl => ⟨h.1.trans hl, h.2⟩) ⟨[], .slice none 0 0, [], i + 5, (advP l (advP l (advP l (advP l (advP l t))))), m, true⟩ (.cons Z (.cons Z (.cons Z (.cons Z (.cons Z (.cons Z (.cons Z (.nil _)))))))) Z ⟨Le.refl _, ⟨((((ht1.nmN hnm).isN hb14).nuN hn4).isN hb16), (by show i < i + 5; omega), hq, by simp, .nil, fun x hx => by cases hx⟩⟩ ?_
    intro g s17 I17
    obtain ⟨acc, v, M, k1, t1, m, b⟩ := g
    obtain ⟨ht1, hk1, hq, hxk, hO, hA⟩ : TA l ts k1 t1 ∧ i < k1 ∧ r = (if isP t1 (sepW b) = true then (pNums l m acc (advP l t1)).and (numK l x1.text x4.num) else numK l x1.text x4.num acc t1) ∧ acc.length ≤ k1 ∧ FL.Own 40 1 M v acc.length (wv acc) ∧ ∀ x ∈ acc, U32 x := I17.2
    have hl1 := ht1.lt
    obtain ⟨A1, c1, rfl, hz1, hz2⟩ := Own.slice hO
    dsimp only
    refine Zs <| Sr <| Zqm Z Z <| Zqm Z Z <| ?_
    refine JO_case (t := 116) Z (fun c18 => ?_) (fun c18 => ?_)
    ·
     refine Zg Z Z <| Zqm Z Z <| Zg Z Z <| Zqm Z Z <| Zg Z Z <| ?_
     obtain rfl : b = true := by cases b <;> simp_all
     refine Jc Z Z Z (risf_ac l ts D _ _ _ n c k1 t1 (hT.le (h1.t h2|>.t h3|>.t I4.1|>.t h14|>.t h16|>.t I17.1)) hz ht1 [61] (by decide +kernel)) ?_
     rintro _ _ s19 h19 ⟨rfl, (⟨hb19, rfl⟩ | ⟨hb19, rfl⟩)⟩
     ·
      rw [if_pos (show isP t1 (sepW true) = true from hb19)] at hq
      obtain ⟨m, rfl⟩ := nums_pos hq hr
      rw [nums_un] at hq
      obtain ⟨x6, hx6, hr6, hl6⟩ := TA.at_ (ht1.isN hb19)
      obtain ⟨b6, o6, x66, hz6, hx66, hc6, hxl6, hxu6⟩ := Rts.at_ (hT.le (h1.t h2|>.t h3|>.t I4.1|>.t h14|>.t h16|>.t I17.1|>.t h19)) (show (k1 + 1) < n by omega)
      cases hz6
      obtain rfl : x6 = x66 := Option.some.inj (hx6.symm.trans hx66)
      refine ZqT Z Z Z <| Zqm Z Z <| Wf Y4 <| Wf Y4 <| Wf Y4 <| Zh Z Z Z <| Zh Z Z Z <| Zh Z Z Z <| Wf Y4 <| ZqT Z Z Z <| Nt <| Zy Z <| Zk <| Zt <| Zp <| Sr <| At Z Z <| Zs <| Sr <| Zqm Z Z <| Zqm Z Z <| JO_q (QE_addN 1 Z Z O) Z <| JO_q (QE_iaN Z Z Z Z Z Z (show k1 + 1 < n by omega)) Z <| W0 Y5 <| JO_q (QE_ldsR0 Z Z Z (hc6.le (Lr D)) Z) Z <| Zqne Z Z Z <| Nt <| ?_
      refine JC_ifN Z (fun c20 => ?_) (fun c20 => ?_)
      ·
       rw [nuN (fun h => c20 (hr6.nu.1 h))] at hq
       simp only [okPR, erPR] at hq
       refine Sr <| JO_q (QE_ldA 0 [_, _, _, _] Z Z Z Z Z) Z <| Zqm Z Z <| JO_q (QE_addN 1 Z Z O) Z <| Wt 1 [_, _, _, _] Y9 <| Zqa Z Z <| At Z Z <| Zo <| Zu <| Zc <| Zu <| Zc <| Zu <| ?_
       refine retQ_mk [_, _] _ (.inr Z) (.agg (us := [_, _, _, _]) 1 Z Z Z Z Z (.tmp Z (.tmp Z (.nil)))) Z (h1.t h2|>.t h3|>.t I4.1|>.t h14|>.t h16|>.t I17.1|>.t h19) (fun sR hS2 => ?_)
       exact ⟨_, rfl, fun s2 hs2 hp => .inr ⟨⟨3, x1.text, x4.num, acc⟩, _, _, _, rfl, ⟨_, _, _, rfl, Own.wds hO hA hp, hxu4, hxl1⟩, (ht1.isN hb19), O, hq⟩⟩
      have hk6 : x6.kind = 3 := by have := c20; omega
      have hn6 := hr6.nu.2 hk6
      rw [nuY hn6] at hq
      simp only [okPR, erPR] at hq
      rw [← hr6.nuV hk6] at hq
      refine Zk <| Zt <| Zs <| JC_draw drawsMixed 12 Z [] (fun x hx => by cases hx) ?_
      intro s21 h21
      refine za 0 Z (We Y4) Z <| za 2 Z (QE_mv Z) Z <| za 3 Z (QE_mv Z) Z <| za 4 Z (QE_addN 1 Z Z O) Z <| za 5 Z (QE_iaN Z Z Z Z Z Z (show k1 + 1 < n by omega)) Z <| za 6 Z (QE_fa Z Z Z Z) Z <| za 7 Z (QE_ldsR 3 Z Z Z (hc6.le h21) Z) Z ?_
      refine JA_2 1 8 V ?_ ?_
      ·
       refine JB_q Z trivial (Wd 0 Y5) Z <| JA_1 8 V <| JB_bs Z trivial [(_, _)] [_] Z Z Z Z Z Z Z Z Z ?_
       intro β22 s22 h22 hc22
       refine JA_1 9 V <| JB_app (sz := 1) Z trivial [_, _] M L Z Z Z Z Z Z Z hO (Row.of_cells (hc22.le (Lr D)) Z Z) ⟨by simp [ti40]; omega, by omega⟩ Z (fun _ x hx _ => by cases hx) ?_
       intro v9 M9 s23 h23 oq
       obtain ⟨A9, c9, rfl, hy9, hz9⟩ := Own.slice oq
       simp only [cQ9, nQ9]
       refine za 10 Z (We Y4) Z <| JA_1 11 V <| Wu Z trivial 0 [_, _, _, _] Y9 (fun x hx => by cases hx) <| JA_done V <| Zt <| Zr <| Zqm Z Z <| JO_q (QE_addN 2 Z Z O) Z <| Zqa Z Z <| Zn <| Zb <| ?_
       refine thenQ_n ⟨⟨acc ++ [x6.num], _, M9, k1 + 2, advP l (advP l t1), m, false⟩, [], kp, Z, ⟨(I17.1.t h19|>.t h21|>.t h22|>.t h23), ⟨((ht1.isN hb19).nuN hn6), (by show i < k1 + 2; omega), hq, (by show (acc ++ [x6.num]).length ≤ k1 + 2; rw [List.length_append]; simp only [List.length_cons, List.length_nil]; omega), (by rw [List.length_append, wv_snoc]; exact oq), fun y hy => by
         rcases List.mem_append.1 hy with h | h
         · exact hA y h
         · rw [List.mem_singleton.1 h]; exact hxu6⟩⟩, (by show ts.length - (k1 + 2) < ts.length - k1; omega)⟩
      refine JB_bs Z trivial [(_, _)] [_] Z Z Z Z Z Z Z Z Z ?_
      intro β24 s24 h24 hc24
      refine JA_1 1 V <| JB_q Z trivial (Wd 0 Y5) Z <| JA_1 9 V <| JB_app (sz := 1) Z trivial [_, _] M L Z Z Z Z Z Z Z hO (Row.of_cells (hc24.le (Lr D)) Z Z) ⟨by simp [ti40]; omega, by omega⟩ Z (fun _ x hx _ => by cases hx) ?_
      intro v9 M9 s25 h25 oq
      obtain ⟨A9, c9, rfl, hy9, hz9⟩ := Own.slice oq
      simp only [cQ9, nQ9]
      refine za 10 Z (We Y4) Z <| JA_1 11 V <| Wu Z trivial 0 [_, _, _, _] Y9 (fun x hx => by cases hx) <| JA_done V <| Zt <| Zr <| Zqm Z Z <| JO_q (QE_addN 2 Z Z O) Z <| Zqa Z Z <| Zn <| Zb <| ?_
      refine thenQ_n ⟨⟨acc ++ [x6.num], _, M9, k1 + 2, advP l (advP l t1), m, false⟩, [], kp, Z, ⟨(I17.1.t h19|>.t h21|>.t h24|>.t h25), ⟨((ht1.isN hb19).nuN hn6), (by show i < k1 + 2; omega), hq, (by show (acc ++ [x6.num]).length ≤ k1 + 2; rw [List.length_append]; simp only [List.length_cons, List.length_nil]; omega), (by rw [List.length_append, wv_snoc]; exact oq), fun y hy => by
        rcases List.mem_append.1 hy with h | h
        · exact hA y h
        · rw [List.mem_singleton.1 h]; exact hxu6⟩⟩, (by show ts.length - (k1 + 2) < ts.length - k1; omega)⟩
     rw [if_neg (show ¬ isP t1 (sepW true) = true from bNe hb19)] at hq
     rw [numK] at hq
     refine ZqT Z Z Z <| Zqm Z Z <| Zg Z Z <| ?_
           
     refine Zqm Z Z <| Zg Z Z <| ZqnT Z Z <| Zg Z Z <| Zqm Z Z <| Wf Y4 <| Wf Y4 <| Wf Y4 <| Zg Z Z <| ZqF Z Z Z <| ZqF Z Z Z <| Nt <| Zz Z <| Zl <| Zv <| Zv <| Zd <| Zt <| Zs <| Sr <| Zqm Z Z <| Zqm Z Z <| Jc Z Z Z (risf_ac l ts D _ _ _ n c k1 t1 (hT.le (h1.t h2|>.t h3|>.t I4.1|>.t h14|>.t h16|>.t I17.1|>.t h19)) hz ht1 [59] (by decide +kernel)) ?_
     rintro _ _ s26 h26 ⟨rfl, (⟨hb26, rfl⟩ | ⟨hb26, rfl⟩)⟩
     ·
      rw [expY hb26] at hq
      simp only [exp0, okPR, erPR] at hq
      refine ZqnT Z Z <| Nt <| Zz Z <| Zk <| Zt <| Sr <| JO_q (QE_ldA 0 [_, _, _, _] Z Z Z Z Z) Z <| Zqm Z Z <| JO_q (QE_addN 1 Z Z O) Z <| Wt 1 [_, _, _, _] Y9 <| Zqa Z Z <| At Z Z <| Zo <| ?_
      refine retQ_mk [_, _] _ (.inr Z) (.agg (us := [_, _, _, _]) 1 Z Z Z Z Z (.tmp Z (.tmp Z (.nil)))) Z (h1.t h2|>.t h3|>.t I4.1|>.t h14|>.t h16|>.t I17.1|>.t h19|>.t h26) (fun sR hS2 => ?_)
      exact ⟨_, rfl, fun s2 hs2 hp => .inl ⟨⟨3, x1.text, x4.num, acc⟩, _, _, _, rfl, ⟨_, _, _, rfl, Own.wds hO hA hp, hxu4, hxl1⟩, (ht1.isN hb26), O, hq⟩⟩
     rw [expN hb26] at hq
     simp only [okPR, erPR] at hq
     refine ZqnF Z Z <| Nt <| Zy Z <| Sr <| JO_q (QE_ldA 0 [_, _, _, _] Z Z Z Z Z) Z <| Zqm Z Z <| Wt 1 [_, _, _, _] Y9 <| Zqa Z Z <| At Z Z <| Zo <| Zu <| ?_
     refine retQ_mk [_, _] _ (.inr Z) (.agg (us := [_, _, _, _]) 1 Z Z Z Z Z (.tmp Z (.tmp Z (.nil)))) Z (h1.t h2|>.t h3|>.t I4.1|>.t h14|>.t h16|>.t I17.1|>.t h19|>.t h26) (fun sR hS2 => ?_)
     exact ⟨_, rfl, fun s2 hs2 hp => .inr ⟨⟨3, x1.text, x4.num, acc⟩, _, _, _, rfl, ⟨_, _, _, rfl, Own.wds hO hA hp, hxu4, hxl1⟩, ht1, O, hq⟩⟩
    refine Wf Y4 <| Wf Y4 <| Wf Y4 <| ZqF Z Z Z <| Zqm Z Z <| Zg Z Z <| ?_
    obtain rfl : b = false := by cases b <;> simp_all
    refine Zqm Z Z <| Zg Z Z <| ZqnF Z Z <| Zg Z Z <| Zqm Z Z <| Zg Z Z <| Zqm Z Z <| Zg Z Z <| Zqm Z Z <| Zg Z Z <| Jc Z Z Z (risf_ac l ts D _ _ _ n c k1 t1 (hT.le (h1.t h2|>.t h3|>.t I4.1|>.t h14|>.t h16|>.t I17.1)) hz ht1 [44] (by decide +kernel)) ?_
    rintro _ _ s27 h27 ⟨rfl, (⟨hb27, rfl⟩ | ⟨hb27, rfl⟩)⟩
    ·
     rw [if_pos (show isP t1 (sepW false) = true from hb27)] at hq
     obtain ⟨m, rfl⟩ := nums_pos hq hr
     rw [nums_un] at hq
     obtain ⟨x6, hx6, hr6, hl6⟩ := TA.at_ (ht1.isN hb27)
     obtain ⟨b6, o6, x66, hz6, hx66, hc6, hxl6, hxu6⟩ := Rts.at_ (hT.le (h1.t h2|>.t h3|>.t I4.1|>.t h14|>.t h16|>.t I17.1|>.t h27)) (show (k1 + 1) < n by omega)
     cases hz6
     obtain rfl : x6 = x66 := Option.some.inj (hx6.symm.trans hx66)
     refine Zg Z Z <| ZqT Z Z Z <| ZqF Z Z Z <| Nt <| Zy Z <| Zk <| Zt <| Zp <| Sr <| At Z Z <| Zs <| Sr <| Zqm Z Z <| Zqm Z Z <| JO_q (QE_addN 1 Z Z O) Z <| JO_q (QE_iaN Z Z Z Z Z Z (show k1 + 1 < n by omega)) Z <| W0 Y5 <| JO_q (QE_ldsR0 Z Z Z (hc6.le (Lr D)) Z) Z <| Zqne Z Z Z <| Nt <| ?_
     refine JC_ifN Z (fun c28 => ?_) (fun c28 => ?_)
     ·
      rw [nuN (fun h => c28 (hr6.nu.1 h))] at hq
      simp only [okPR, erPR] at hq
      refine Sr <| JO_q (QE_ldA 0 [_, _, _, _] Z Z Z Z Z) Z <| Zqm Z Z <| JO_q (QE_addN 1 Z Z O) Z <| Wt 1 [_, _, _, _] Y9 <| Zqa Z Z <| At Z Z <| Zo <| Zu <| Zc <| Zu <| Zc <| Zu <| ?_
      refine retQ_mk [_, _] _ (.inr Z) (.agg (us := [_, _, _, _]) 1 Z Z Z Z Z (.tmp Z (.tmp Z (.nil)))) Z (h1.t h2|>.t h3|>.t I4.1|>.t h14|>.t h16|>.t I17.1|>.t h27) (fun sR hS2 => ?_)
      exact ⟨_, rfl, fun s2 hs2 hp => .inr ⟨⟨3, x1.text, x4.num, acc⟩, _, _, _, rfl, ⟨_, _, _, rfl, Own.wds hO hA hp, hxu4, hxl1⟩, (ht1.isN hb27), O, hq⟩⟩
     have hk6 : x6.kind = 3 := by have := c28; omega
     have hn6 := hr6.nu.2 hk6
     rw [nuY hn6] at hq
     simp only [okPR, erPR] at hq
     rw [← hr6.nuV hk6] at hq
     refine Zk <| Zt <| Zs <| JC_draw drawsMixed 12 Z [] (fun x hx => by cases hx) ?_
     intro s29 h29
     refine za 0 Z (We Y4) Z <| za 2 Z (QE_mv Z) Z <| za 3 Z (QE_mv Z) Z <| za 4 Z (QE_addN 1 Z Z O) Z <| za 5 Z (QE_iaN Z Z Z Z Z Z (show k1 + 1 < n by omega)) Z <| za 6 Z (QE_fa Z Z Z Z) Z <| za 7 Z (QE_ldsR 3 Z Z Z (hc6.le h29) Z) Z ?_
     refine JA_2 1 8 V ?_ ?_
     ·
      refine JB_q Z trivial (Wd 0 Y5) Z <| JA_1 8 V <| JB_bs Z trivial [(_, _)] [_] Z Z Z Z Z Z Z Z Z ?_
      intro β30 s30 h30 hc30
      refine JA_1 9 V <| JB_app (sz := 1) Z trivial [_, _] M L Z Z Z Z Z Z Z hO (Row.of_cells (hc30.le (Lr D)) Z Z) ⟨by simp [ti40]; omega, by omega⟩ Z (fun _ x hx _ => by cases hx) ?_
      intro v9 M9 s31 h31 oq
      obtain ⟨A9, c9, rfl, hy9, hz9⟩ := Own.slice oq
      simp only [cQ9, nQ9]
      refine za 10 Z (We Y4) Z <| JA_1 11 V <| Wu Z trivial 0 [_, _, _, _] Y9 (fun x hx => by cases hx) <| JA_done V <| Zt <| Zr <| Zqm Z Z <| JO_q (QE_addN 2 Z Z O) Z <| Zqa Z Z <| Zn <| Zb <| ?_
      refine thenQ_n ⟨⟨acc ++ [x6.num], _, M9, k1 + 2, advP l (advP l t1), m, false⟩, [], kp, Z, ⟨(I17.1.t h27|>.t h29|>.t h30|>.t h31), ⟨((ht1.isN hb27).nuN hn6), (by show i < k1 + 2; omega), hq, (by show (acc ++ [x6.num]).length ≤ k1 + 2; rw [List.length_append]; simp only [List.length_cons, List.length_nil]; omega), (by rw [List.length_append, wv_snoc]; exact oq), fun y hy => by
        rcases List.mem_append.1 hy with h | h
        · exact hA y h
        · rw [List.mem_singleton.1 h]; exact hxu6⟩⟩, (by show ts.length - (k1 + 2) < ts.length - k1; omega)⟩
     refine JB_bs Z trivial [(_, _)] [_] Z Z Z Z Z Z Z Z Z ?_
     intro β32 s32 h32 hc32
     refine JA_1 1 V <| JB_q Z trivial (Wd 0 Y5) Z <| JA_1 9 V <| JB_app (sz := 1) Z trivial [_, _] M L Z Z Z Z Z Z Z hO (Row.of_cells (hc32.le (Lr D)) Z Z) ⟨by simp [ti40]; omega, by omega⟩ Z (fun _ x hx _ => by cases hx) ?_
     intro v9 M9 s33 h33 oq
     obtain ⟨A9, c9, rfl, hy9, hz9⟩ := Own.slice oq
     simp only [cQ9, nQ9]
     refine za 10 Z (We Y4) Z <| JA_1 11 V <| Wu Z trivial 0 [_, _, _, _] Y9 (fun x hx => by cases hx) <| JA_done V <| Zt <| Zr <| Zqm Z Z <| JO_q (QE_addN 2 Z Z O) Z <| Zqa Z Z <| Zn <| Zb <| ?_
     refine thenQ_n ⟨⟨acc ++ [x6.num], _, M9, k1 + 2, advP l (advP l t1), m, false⟩, [], kp, Z, ⟨(I17.1.t h27|>.t h29|>.t h32|>.t h33), ⟨((ht1.isN hb27).nuN hn6), (by show i < k1 + 2; omega), hq, (by show (acc ++ [x6.num]).length ≤ k1 + 2; rw [List.length_append]; simp only [List.length_cons, List.length_nil]; omega), (by rw [List.length_append, wv_snoc]; exact oq), fun y hy => by
       rcases List.mem_append.1 hy with h | h
       · exact hA y h
       · rw [List.mem_singleton.1 h]; exact hxu6⟩⟩, (by show ts.length - (k1 + 2) < ts.length - k1; omega)⟩
    rw [if_neg (show ¬ isP t1 (sepW false) = true from bNe hb27)] at hq
    rw [numK] at hq
    refine Zg Z Z <| ZqT Z Z Z <| ZqF Z Z Z <| Nt <| Zz Z <| Zl <| Zv <| Zv <| Zd <| Zt <| Zs <| Sr <| Zqm Z Z <| Zqm Z Z <| Jc Z Z Z (risf_ac l ts D _ _ _ n c k1 t1 (hT.le (h1.t h2|>.t h3|>.t I4.1|>.t h14|>.t h16|>.t I17.1|>.t h27)) hz ht1 [59] (by decide +kernel)) ?_
    rintro _ _ s34 h34 ⟨rfl, (⟨hb34, rfl⟩ | ⟨hb34, rfl⟩)⟩
    ·
     rw [expY hb34] at hq
     simp only [exp0, okPR, erPR] at hq
     refine ZqnT Z Z <| Nt <| Zz Z <| Zk <| Zt <| Sr <| JO_q (QE_ldA 0 [_, _, _, _] Z Z Z Z Z) Z <| Zqm Z Z <| JO_q (QE_addN 1 Z Z O) Z <| Wt 1 [_, _, _, _] Y9 <| Zqa Z Z <| At Z Z <| Zo <| ?_
     refine retQ_mk [_, _] _ (.inr Z) (.agg (us := [_, _, _, _]) 1 Z Z Z Z Z (.tmp Z (.tmp Z (.nil)))) Z (h1.t h2|>.t h3|>.t I4.1|>.t h14|>.t h16|>.t I17.1|>.t h27|>.t h34) (fun sR hS2 => ?_)
     exact ⟨_, rfl, fun s2 hs2 hp => .inl ⟨⟨3, x1.text, x4.num, acc⟩, _, _, _, rfl, ⟨_, _, _, rfl, Own.wds hO hA hp, hxu4, hxl1⟩, (ht1.isN hb34), O, hq⟩⟩
    rw [expN hb34] at hq
    simp only [okPR, erPR] at hq
    refine ZqnF Z Z <| Nt <| Zy Z <| Sr <| JO_q (QE_ldA 0 [_, _, _, _] Z Z Z Z Z) Z <| Zqm Z Z <| Wt 1 [_, _, _, _] Y9 <| Zqa Z Z <| At Z Z <| Zo <| Zu <| ?_
    refine retQ_mk [_, _] _ (.inr Z) (.agg (us := [_, _, _, _]) 1 Z Z Z Z Z (.tmp Z (.tmp Z (.nil)))) Z (h1.t h2|>.t h3|>.t I4.1|>.t h14|>.t h16|>.t I17.1|>.t h27|>.t h34) (fun sR hS2 => ?_)
    exact ⟨_, rfl, fun s2 hs2 hp => .inr ⟨⟨3, x1.text, x4.num, acc⟩, _, _, _, rfl, ⟨_, _, _, rfl, Own.wds hO hA hp, hxu4, hxl1⟩, ht1, O, hq⟩⟩
   rw [expN hb16] at hq
   simp only [okPR, erPR] at hq
   refine ZqnF Z Z <| Nt <| Zy Z <| Sr <| JO_q (QE_ldA 0 [_, _, _, _] Z Z Z Z Z) Z <| Zqm Z Z <| JO_q (QE_addN 2 Z Z O) Z <| Wt 1 [_, _, _, _] Y9 <| Zqa Z Z <| At Z Z <| Zo <| Zu <| Zu <| ?_
   refine retQ_mk [_, _] _ (.inr Z) (.agg (us := [_, _, _, _]) 1 Z Z Z Z Z (.tmp Z (.tmp Z (.nil)))) Z (h1.t h2|>.t h3|>.t I4.1|>.t h14|>.t h16) (fun sR hS2 => ?_)
   exact ⟨[], rfl, fun s2 hs2 hp => .inr ⟨⟨3, x1.text, x4.num, []⟩, _, _, _, rfl, ⟨none, 0, 0, rfl, wds_nil _, hxu4, hxl1⟩, (((ht1.nmN hnm).isN hb14).nuN hn4), O, hq⟩⟩
  rw [expN hb14] at hq
  simp only [okPR, erPR] at hq
  refine ZqnF Z Z <| Nt <| Zy Z <| Sr <| JO_q (QE_ldA 0 [_, _, _, _] Z Z Z Z Z) Z <| Zqm Z Z <| Wt 1 [_, _, _, _] Y9 <| Zqa Z Z <| At Z Z <| Zo <| Zu <| Zu <| ?_
  refine retQ_mk [_, _] _ (.inr Z) (.agg (us := [_, _, _, _]) 1 Z Z Z Z Z (.tmp Z (.tmp Z (.nil)))) Z (h1.t h2|>.t h3|>.t I4.1|>.t h14) (fun sR hS2 => ?_)
  exact ⟨[], rfl, fun s2 hs2 hp => .inr ⟨⟨3, x1.text, 0, []⟩, _, _, _, rfl, ⟨none, 0, 0, rfl, wds_nil _, u32z, hxl1⟩, (ht1.nmN hnm), O, hq⟩⟩
 have hg3 := c13
 rw [gloR, if_neg hg1, if_neg hg3] at hq
 have hg2 : gkP t 3 = 2 := by omega
 rw [hg2]
 refine Zk <| Zt <| Zs <| Sr <| Zqm Z Z <| Zqm Z Z <| Jc Z Z Z (risf_ac l ts D _ _ _ n c ((i + 1) + 1) (advP l (advP l t)) (hT.le (h1.t h2|>.t h3|>.t I4.1)) hz (ht1.nmN hnm) [59] (by decide +kernel)) ?_
 rintro _ _ s35 h35 ⟨rfl, (⟨hb35, rfl⟩ | ⟨hb35, rfl⟩)⟩
 ·
  rw [expY hb35] at hq
  simp only [exp0, okPR, erPR] at hq
  refine ZqnT Z Z <| Nt <| Zz Z <| Zk <| Zt <| Sr <| JO_q (QE_ldA 0 [_, _, _, _] Z Z Z Z Z) Z <| Zqm Z Z <| JO_q (QE_addN 1 Z Z O) Z <| Wt 1 [_, _, _, _] Y9 <| Zqa Z Z <| At Z Z <| Zo <| ?_
  refine retQ_mk [_, _] _ (.inr Z) (.agg (us := [_, _, _, _]) 1 Z Z Z Z Z (.tmp Z (.tmp Z (.nil)))) Z (h1.t h2|>.t h3|>.t I4.1|>.t h35) (fun sR hS2 => ?_)
  exact ⟨[], rfl, fun s2 hs2 hp => .inl ⟨⟨2, x1.text, 0, []⟩, _, _, _, rfl, ⟨none, 0, 0, rfl, wds_nil _, u32z, hxl1⟩, ((ht1.nmN hnm).isN hb35), O, hq⟩⟩
 rw [expN hb35] at hq
 simp only [okPR, erPR] at hq
 refine ZqnF Z Z <| Nt <| Zy Z <| Sr <| JO_q (QE_ldA 0 [_, _, _, _] Z Z Z Z Z) Z <| Zqm Z Z <| Wt 1 [_, _, _, _] Y9 <| Zqa Z Z <| At Z Z <| Zo <| Zu <| ?_
 refine retQ_mk [_, _] _ (.inr Z) (.agg (us := [_, _, _, _]) 1 Z Z Z Z Z (.tmp Z (.tmp Z (.nil)))) Z (h1.t h2|>.t h3|>.t I4.1|>.t h35) (fun sR hS2 => ?_)
 exact ⟨[], rfl, fun s2 hs2 hp => .inr ⟨⟨2, x1.text, 0, []⟩, _, _, _, rfl, ⟨none, 0, 0, rfl, wds_nil _, u32z, hxl1⟩, (ht1.nmN hnm), O, hq⟩⟩
structure PG8 where
  p : Prg
  vg : Value
  vf : Value
  Mg : Hl
  Mf : Hl
  cg : List (List Value)
  cf : List (List Value)
  k : Nat
  t : PS
  m : Nat
theorem progOfO_ac (D : Nat) (L : Hl) (s : World) (l : List UInt8) : AC Tryz.prog D 14 [St l] L s fun v L' s' => ∃ M', L' = M' ++ L ∧ ∀ s2, Le D s' s2 → Pub M' s2 → ∃ d p f0 f1 Ag ng cg Af nf cf, v = .tuple #[.agg #[.slice Ag ng cg, .slice Af nf cf], .agg #[.int .i64 f0, .int .i64 f1]] ∧ parP l = (p, (f0, f1)) ∧ Glos s2 Ag ng cg p.globals ∧ Fncs d s2 Af nf cf p.funcs := by
 refine AC_enter (TT := TT) (fn := Tryz.f14) TT_ok Tryz.func14 V Z Tryz.ntmps14 Z (rs := [.cell 2 25, .cell 3 27]) Z [(0, _)] Z <| Sr <| JO_allocZ Z [_, _] Z Z ?_
 intro β1 s1 h1
 refine JO_allocZ Z [_, _] Z Z ?_
 intro β2 s2 h2
 refine Nt <| Sr <| JO_allocZ Z [_, _] Z Z ?_
 intro β3 s3 h3
 refine Nt <| Zs <| Sr <| Zqm Z Z <| Zqlt2 Z Z Z Z <| Zqgt Z Z Z <| Nt <| ?_
 refine JC_ifD Z (fun c4 => ?_) (fun c4 => ?_)
 ·
  refine Zs <| JC_drawE drawsMixed 4 Z [2, 1] (by intro x hx; exact eraseAll_mem hx) ?_
  intro s5 h5
  refine za 0 Z (QE_ldA 0 [_, _] Z Z Z Z Z) Z <| JA_1 1 V <| Jb Z trivial Z Z Z (at_ac D _ _ _ _) ?_
  rintro _ _ s6 h6 ⟨rfl, rfl⟩
  refine ⟨fun _ _ h => h, ?_⟩
  refine JA_1 2 V <| Wu Z trivial 2 [_, _] Y9 (fun _ hx => sub_mem (sbY (sbN (sbE _))) hx) <| JA_1 3 V <| Wu Z trivial 1 [_, _] Y9 (fun _ hx => sub_mem (sbY (sbN (sbE _))) hx) <| JA_done V <| Zt <| Zo <| Zu <| ?_
  refine retQ_mk [_, _, _] _ (.inr Z) (.agg (us := [_, _]) 2 Z Z Z Z Z (.agg (us := [_, _]) 1 Z Z Z Z Z (.nil))) Z (h1.t h2|>.t h3|>.t h5|>.t h6) (fun sR hS2 => ?_)
  exact ⟨[], rfl, fun s2 hs2 hp => ⟨0, ⟨[], []⟩, _, _, _, _, _, _, _, _, rfl, parP_long O, glos_nil _, fncs_nil _⟩⟩
 have hlz12 : l.length ≤ 12000 := by omega
 refine Zk <| Zt <| Sr <| Zqm Z Z <| Jc Z Z Z (tokensP_ac D _ _ l O) ?_
 rintro _ _ s7 h7 ⟨rfl, Atk, nt, ct, ts, rfl, hT, hRL⟩
 have hnt := hT.1
 have hnt2 := hT.2.1
 have hnt3 := hT.2.2.1
 have hlen := (hRL.len (Nat.zero_le _)).1
 have hz : ts.length ≤ 20000 := by omega
 obtain ⟨r, hrd⟩ : ∃ r, r = pProg l (fuelP l) ⟨[], []⟩ (advP l zeroT) := ⟨_, rfl⟩
 have hr : r ≠ .out := by rw [hrd]; exact (prog_fin l).no
 have hFun := rfun_st l ts ts.length
 have hGlo := rglo_st l ts ts.length
 refine At Z Z <| Sr <| At Z Z <| Zs <| Zp <| ?_
 refine JC_loop (γ := PG8) (fun g => [(2, _), (3, _), (4, _), (5, _), (6, .int .i64 (g.k : Int))]) (fun g => (β3, cb [g.vg, g.vf] 25) :: (β2, cb [.int .i64 0, .int .i64 0] 27) :: (β1, cb [.slice none 0 0, .slice none 0 0] 25) :: (g.Mg ++ (g.Mf ++ L))) (fun g tw => Le D s7 tw ∧ (TA l ts g.k g.t ∧ r = pProg l g.m g.p g.t ∧ g.p.globals.length + g.p.funcs.length ≤ g.k ∧ FL.Own 52 4 g.Mg g.vg g.p.globals.length g.cg.flatten ∧ FL.Own 56 4 g.Mf g.vf g.p.funcs.length g.cf.flatten ∧ All2 (fun x cs => cs.length = 4 ∧ GlR tw x cs) g.p.globals g.cg ∧ ∃ d, All2 (fun x cs => cs.length = 4 ∧ FnR d tw x cs) g.p.funcs g.cf)) (fun g => g.m) (fun _ _ _ h hl => ⟨h.1.trans hl, ⟨h.2.1, h.2.2.1, h.2.2.2.1, h.2.2.2.2.1, h.2.2.2.2.2.1, gA_le hl h.2.2.2.2.2.2.1, _, fA_le hl (Nat.le_refl _) h.2.2.2.2.2.2.2.choose_spec⟩⟩) ⟨⟨[], []⟩, .slice none 0 0, .slice none 0 0, [], [], [], [], 0, advP l zeroT, fuelP l⟩ (.cons Z (.cons Z (.cons Z (.cons Z (.cons Z (.nil _)))))) Z ⟨Le.refl _, ⟨TA.zero hRL, hrd, by simp, .nil, .nil, .nil, 0, .nil⟩⟩ ?_
 intro g s8 I8
 obtain ⟨p, vg, vf, Mg, Mf, cg, cf, k1, t1, m⟩ := g
 obtain ⟨ht1, hq, hkn, hOg, hOf, hAg, d1, hAf⟩ : TA l ts k1 t1 ∧ r = pProg l m p t1 ∧ p.globals.length + p.funcs.length ≤ k1 ∧ FL.Own 52 4 Mg vg p.globals.length cg.flatten ∧ FL.Own 56 4 Mf vf p.funcs.length cf.flatten ∧ All2 (fun x cs => cs.length = 4 ∧ GlR s8 x cs) p.globals cg ∧ ∃ d, All2 (fun x cs => cs.length = 4 ∧ FnR d s8 x cs) p.funcs cf := I8.2
 have hl1 := ht1.lt
 obtain ⟨m, rfl⟩ := prog_pos hq hr
 rw [pProg] at hq
 obtain ⟨Ag, cg0, rfl, hz1, hz2⟩ := Own.slice hOg
 obtain ⟨Af, cf0, rfl, hz3, hz4⟩ := Own.slice hOf
 obtain ⟨x0, hx0, hr0, hx0l⟩ := TA.at_ ht1
 obtain ⟨bt0, ot0, x00, hzt0, hx00, hc0, hxl0, hxu0⟩ := Rts.at_ (hT.le I8.1) (show k1 < nt by omega)
 cases hzt0
 obtain rfl : x0 = x00 := Option.some.inj (hx0.symm.trans hx00)
 dsimp only
 refine Zs <| Sr <| Zqm Z Z <| Zqm Z Z <| JO_q (QE_iaN Z Z Z Z Z Z (show k1 < nt by omega)) Z <| W0 Y5 <| JO_q (QE_ldsR0 Z Z Z (hc0.le (Lr D)) Z) Z <| Zqne Z Z Z <| Nt <| ?_
 refine JC_ifN Z (fun c9 => ?_) (fun c9 => ?_)
 ·
  rw [if_neg (fun h => c9 (hr0.en.1 h))] at hq
  refine Zk <| Zt <| Zp <| Sr <| At Z Z <| Sr <| At Z Z <| Zs <| Sr <| Zqm Z Z <| Zqm Z Z <| Jc Z Z Z (risf_ac l ts D _ _ _ nt ct k1 t1 (hT.le I8.1) hz ht1 [102, 117, 110, 99] (by decide +kernel)) ?_
  rintro _ _ s10 h10 ⟨rfl, (⟨hb10, rfl⟩ | ⟨hb10, rfl⟩)⟩
  ·
   rw [if_pos hb10] at hq
   refine Nt <| Zy Z <| Sr <| JO_allocZ Z [_, _, _, _] Z Z ?_
   intro β11 s11 h11
   refine Nt <| Sr <| Zqm Z Z <| Zqm Z Z <| JO_q (QE_addN 1 Z Z O) Z <| Jc Z Z Z (hFun D _ _ _ nt ct (k1 + 1) (advP l t1) _ (hT.le (I8.1.t h10|>.t h11)) hz (ht1.isN hb10) O (andOut hq hr)) ?_
   rintro _ _ s12 h12 ⟨rfl, (⟨x12, _, k12, t12, rfl, ⟨d12, P12, p12, o12, Q12, q12, u12, R12, m12, e12, rfl, hP12, hQ12, hB12, hn12⟩, ht12, hk12, he12⟩ | ⟨x12, _, k12, t12, rfl, ⟨d12, P12, p12, o12, Q12, q12, u12, R12, m12, e12, rfl, hP12, hQ12, hB12, hn12⟩, ht12, hk12, he12⟩)⟩
   ·
    have hl12 := ht12.lt
    try dsimp only at he12
    rw [he12] at hq
    simp only [okPR, erPR] at hq
    refine Zqm Z Z <| Zqx Z Z Z <| Zqx Z Z Z <| Zqx Z Z Z <| Wt 0 [_, _, _, _] Y9 <| Zqa Z Z <| At Z Z <| Zr <| Wb Y5 <| Wl 1 Y6 <| JO_q (QE_ldA 0 [_, _, _, _] Z Z Z Z Z) Z <| JO_bs [(_, _)] [_, _, _, _] Z Z Z Z Z Z Z Z Z ?_
    intro β13 s13 h13 hc13
    refine JO_app (sz := 4) (_ :: _ :: _ :: _ :: Mg) Mf L Z Z Z Z Z Z Z hOf (Row.of_cells (hc13.le (Lr D)) Z Z) ⟨by simp [ti56]; omega, by omega⟩ Z ?_
    intro v9 M9 s14 h14 oq
    obtain ⟨A9, c9, rfl, hk9, hm9⟩ := Own.slice oq
    simp only [cQ9, nQ9]
    refine Wb Y5 <| Wt 1 [_, _] Y9 <| Nt <| Zs <| Sr <| Zqm Z Z <| ZqnT Z Z <| Nt <| Zz Z <| Zk <| Zt <| Zr <| Zqm Z Z <| Zqa Z Z <| Zn <| Zb <| ?_
    refine thenQ_n ⟨⟨⟨p.globals, p.funcs ++ [x12]⟩, _, _, Mg, M9, cg, cf ++ [[St x12.name, .slice P12 p12 o12, .slice Q12 q12 u12, .slice R12 m12 e12]], k12, t12, m⟩, [_], kp, Z, ⟨(I8.1.t h10|>.t h11|>.t h12|>.t h13|>.t h14), ⟨ht12, hq, (by show _ ≤ k12; simp only [List.length_append, List.length_cons, List.length_nil]; omega), hOg, own_snoc oq, gA_le (h10.t h11|>.t h12|>.t h13|>.t h14) hAg, d1 + d12, all2_snoc (fA_le (h10.t h11|>.t h12|>.t h13|>.t h14) O hAf) ⟨Z, _, _, _, _, _, _, _, _, _, Z, hP12.le (h13.t h14), hQ12.le (h13.t h14), (hB12.le (h13.t h14)).up O, hn12⟩⟩⟩, (by show m < m + 1; omega)⟩
   have hl12 := ht12.lt
   try dsimp only at he12
   rw [he12] at hq
   simp only [okPR, erPR] at hq
   refine Zqm Z Z <| Zqx Z Z Z <| Zqx Z Z Z <| Zqx Z Z Z <| Wt 0 [_, _, _, _] Y9 <| Zqa Z Z <| At Z Z <| Zr <| Wb Y5 <| Wl 1 Y6 <| JO_q (QE_ldA 0 [_, _, _, _] Z Z Z Z Z) Z <| JO_bs [(_, _)] [_, _, _, _] Z Z Z Z Z Z Z Z Z ?_
   intro β15 s15 h15 hc15
   refine JO_app (sz := 4) (_ :: _ :: _ :: _ :: Mg) Mf L Z Z Z Z Z Z Z hOf (Row.of_cells (hc15.le (Lr D)) Z Z) ⟨by simp [ti56]; omega, by omega⟩ Z ?_
   intro v9 M9 s16 h16 oq
   obtain ⟨A9, c9, rfl, hk9, hm9⟩ := Own.slice oq
   simp only [cQ9, nQ9]
   refine Wb Y5 <| Wt 1 [_, _] Y9 <| Nt <| Zs <| Sr <| Zqm Z Z <| ZqnF Z Z <| Nt <| Zy Z <| Zs <| ?_
   obtain ⟨x7, hx7, hr7, hl7⟩ := TA.at_ ht12
   obtain ⟨b7, o7, x77, hz7, hx77, hc7, hxl7, hxu7⟩ := Rts.at_ (hT.le (I8.1.t h10|>.t h11|>.t h12|>.t h15|>.t h16)) (show k12 < nt by omega)
   cases hz7
   obtain rfl : x7 = x77 := Option.some.inj (hx7.symm.trans hx77)
   refine Zr <| JO_q (QE_build [] [_, _] Z Z Z Z Z Z) Z <| Zqm Z Z <| Zqm Z Z <| JO_q (QE_iaN Z Z Z Z Z Z (show k12 < nt by omega)) Z <| JO_q (QE_fa Z Z Z Z) Z <| JO_q (QE_ldsR 1 Z Z Z (hc7.le (Lr D)) Z) Z <| Jc Z Z Z (at_ac D _ _ _ _) ?_
   rintro _ _ s17 h17 ⟨rfl, rfl⟩
   refine Wt 3 [_, _] Y9 <| Wt 2 [_, _] Y9 <| Nt <| Zo <| Zu <| Zc <| Zu <| Zc <| Zu <| ?_
   refine retQ_mk [_, _, _, _] _ (.inr Z) (.agg (us := [_, _]) 3 Z Z Z Z Z (.agg (us := [_, _]) 2 Z Z Z Z Z (.nil))) Z (h1.t h2|>.t h3|>.t h7|>.t I8.1|>.t h10|>.t h11|>.t h12|>.t h15|>.t h16|>.t h17) (fun sR hS2 => ?_)
   exact ⟨Mg ++ M9, (List.append_assoc _ _ _).symm, fun s2 hs2 hp => ⟨0, ⟨[], []⟩, _, _, _, _, _, _, _, _, rfl, (by rw [parP_er hlz12 (hrd.symm.trans hq), hr7.off]), glos_nil _, fncs_nil _⟩⟩
  rw [if_neg (bNe hb10)] at hq
  refine Nt <| Zz Z <| Sr <| JO_allocZ Z [_, _, _, _] Z Z ?_
  intro β18 s18 h18
  refine Nt <| Sr <| Zqm Z Z <| Zqm Z Z <| Jc Z Z Z (hGlo D _ _ _ nt ct k1 t1 _ (hT.le (I8.1.t h10|>.t h18)) hz ht1 O (andOut hq hr)) ?_
  rintro _ _ s19 h19 ⟨rfl, (⟨x19, _, k19, t19, rfl, ⟨A19, n19, c19, rfl, hW19, hu19, hn19⟩, ht19, hk19, he19⟩ | ⟨x19, _, k19, t19, rfl, ⟨A19, n19, c19, rfl, hW19, hu19, hn19⟩, ht19, hk19, he19⟩)⟩
  ·
   have hl19 := ht19.lt
   try dsimp only at he19
   rw [he19] at hq
   simp only [okPR, erPR] at hq
   refine Zqm Z Z <| Zqx Z Z Z <| Zqx Z Z Z <| Zqx Z Z Z <| Wt 0 [_, _, _, _] Y9 <| Zqa Z Z <| At Z Z <| Zr <| W0 Y5 <| Wl 1 Y6 <| JO_q (QE_ldA 0 [_, _, _, _] Z Z Z Z Z) Z <| JO_bs [(_, _)] [_, _, _, _] Z Z Z Z Z Z Z Z Z ?_
   intro β20 s20 h20 hc20
   refine JO_app (sz := 4) [_, _, _, _] Mg (Mf ++ L) Z Z Z Z Z Z Z hOg (Row.of_cells (hc20.le (Lr D)) Z Z) ⟨by simp [ti52]; omega, by omega⟩ Z ?_
   intro v9 M9 s21 h21 oq
   obtain ⟨A9, c9, rfl, hk9, hm9⟩ := Own.slice oq
   simp only [cQ9, nQ9]
   refine W0 Y5 <| Wt 1 [_, _] Y9 <| Nt <| Zs <| Sr <| Zqm Z Z <| ZqnT Z Z <| Nt <| Zz Z <| Zk <| Zt <| Zr <| Zqm Z Z <| Zqa Z Z <| Zn <| Zb <| ?_
   refine thenQ_n ⟨⟨⟨p.globals ++ [x19], p.funcs⟩, _, _, M9, Mf, cg ++ [[.int .i64 x19.kind, St x19.name, .int .u32 x19.num, .slice A19 n19 c19]], cf, k19, t19, m⟩, [_], kp, Z, ⟨(I8.1.t h10|>.t h18|>.t h19|>.t h20|>.t h21), ⟨ht19, hq, (by show _ ≤ k19; simp only [List.length_append, List.length_cons, List.length_nil]; omega), own_snoc oq, hOf, all2_snoc (gA_le (h10.t h18|>.t h19|>.t h20|>.t h21) hAg) ⟨Z, _, _, _, Z, hW19.le (h20.t h21), hu19, hn19⟩, d1, fA_le (h10.t h18|>.t h19|>.t h20|>.t h21) (Nat.le_refl _) hAf⟩⟩, (by show m < m + 1; omega)⟩
  have hl19 := ht19.lt
  try dsimp only at he19
  rw [he19] at hq
  simp only [okPR, erPR] at hq
  refine Zqm Z Z <| Zqx Z Z Z <| Zqx Z Z Z <| Zqx Z Z Z <| Wt 0 [_, _, _, _] Y9 <| Zqa Z Z <| At Z Z <| Zr <| W0 Y5 <| Wl 1 Y6 <| JO_q (QE_ldA 0 [_, _, _, _] Z Z Z Z Z) Z <| JO_bs [(_, _)] [_, _, _, _] Z Z Z Z Z Z Z Z Z ?_
  intro β22 s22 h22 hc22
  refine JO_app (sz := 4) [_, _, _, _] Mg (Mf ++ L) Z Z Z Z Z Z Z hOg (Row.of_cells (hc22.le (Lr D)) Z Z) ⟨by simp [ti52]; omega, by omega⟩ Z ?_
  intro v9 M9 s23 h23 oq
  obtain ⟨A9, c9, rfl, hk9, hm9⟩ := Own.slice oq
  simp only [cQ9, nQ9]
  refine W0 Y5 <| Wt 1 [_, _] Y9 <| Nt <| Zs <| Sr <| Zqm Z Z <| ZqnF Z Z <| Nt <| Zy Z <| Zs <| ?_
  obtain ⟨x7, hx7, hr7, hl7⟩ := TA.at_ ht19
  obtain ⟨b7, o7, x77, hz7, hx77, hc7, hxl7, hxu7⟩ := Rts.at_ (hT.le (I8.1.t h10|>.t h18|>.t h19|>.t h22|>.t h23)) (show k19 < nt by omega)
  cases hz7
  obtain rfl : x7 = x77 := Option.some.inj (hx7.symm.trans hx77)
  refine Zr <| JO_q (QE_build [] [_, _] Z Z Z Z Z Z) Z <| Zqm Z Z <| Zqm Z Z <| JO_q (QE_iaN Z Z Z Z Z Z (show k19 < nt by omega)) Z <| JO_q (QE_fa Z Z Z Z) Z <| JO_q (QE_ldsR 1 Z Z Z (hc7.le (Lr D)) Z) Z <| Jc Z Z Z (at_ac D _ _ _ _) ?_
  rintro _ _ s24 h24 ⟨rfl, rfl⟩
  refine Wt 3 [_, _] Y9 <| Wt 2 [_, _] Y9 <| Nt <| Zo <| Zu <| Zc <| Zu <| Zc <| Zu <| ?_
  refine retQ_mk [_, _, _, _] _ (.inr Z) (.agg (us := [_, _]) 3 Z Z Z Z Z (.agg (us := [_, _]) 2 Z Z Z Z Z (.nil))) Z (h1.t h2|>.t h3|>.t h7|>.t I8.1|>.t h10|>.t h18|>.t h19|>.t h22|>.t h23|>.t h24) (fun sR hS2 => ?_)
  exact ⟨M9 ++ Mf, (List.append_assoc _ _ _).symm, fun s2 hs2 hp => ⟨0, ⟨[], []⟩, _, _, _, _, _, _, _, _, rfl, (by rw [parP_er hlz12 (hrd.symm.trans hq), hr7.off]), glos_nil _, fncs_nil _⟩⟩
 rw [if_pos (hr0.en.2 (by have := c9; omega))] at hq
 refine Zl <| Zv <| Zv <| Zd <| Zt <| Zs <| JC_pubX [_, _, _] Mg _ ?_
 intro s25 h25 hpub25
 simp only [cQ9, nQ9]
 have hGl : Glos s25 Ag p.globals.length cg0 p.globals := Own.rows (R := GlR) hOg hpub25 (gA_le h25 hAg) rfl
 refine JC_pubX [_, _, _] Mf _ ?_
 intro s26 h26 hpub26
 simp only [cQ9, nQ9]
 have hFn : Fncs d1 s26 Af p.funcs.length cf0 p.funcs := Own.rows (R := FnR d1) hOf hpub26 (fA_le (h25.t h26) (Nat.le_refl _) hAf) rfl
 refine Zr <| JO_q (QE_ldA 0 [_, _] Z Z Z Z Z) Z <| Jc Z Z Z (rprgF_ac D _ _ d1 p _ _ _ _ _ _ (hGl.le h26) (hFn.le (Lr D))) ?_
 rintro _ _ s27 h27 ⟨rfl, rfl⟩
 refine JO_allocZ Z [_, _] Z Z ?_
 intro β28 s28 h28
 refine Wt 0 [_, _] Y9 <| Nt <| Zs <| Sr <| W0 Y5 <| Wl 0 Y6 <| Zqne Z Z Z <| Nt <| ?_
 refine JC_ifN Z (fun c29 => ?_) (fun c29 => ?_)
 ·
  have hbad : (prgF p).1 ≠ 0 := c29
  refine Zs <| JC_drawE drawsMixed 4 Z [3, 2] (by intro x hx; exact eraseAll_mem hx) ?_
  intro s30 h30
  refine za 0 Z (QE_build [] [_, _] Z Z Z Z Z Z) Z <| za 1 Z (QE_ldA 0 [_, _] Z Z Z Z Z) Z <| JA_1 2 V <| Wu Z trivial 3 [_, _] Y9 (fun _ hx => sub_mem (sbY (sbY (sbN (sbE _)))) hx) <| JA_1 3 V <| Wu Z trivial 2 [_, _] Y9 (fun _ hx => sub_mem (sbY (sbY (sbN (sbE _)))) hx) <| JA_done V <| Zt <| Zo <| Zu <| ?_
  refine retQ_mk [_, _, _, _] _ (.inr Z) (.agg (us := [_, _]) 3 Z Z Z Z Z (.agg (us := [_, _]) 2 Z Z Z Z Z (.nil))) Z (h1.t h2|>.t h3|>.t h7|>.t I8.1|>.t h25|>.t h26|>.t h27|>.t h28|>.t h30) (fun sR hS2 => ?_)
  exact ⟨[], rfl, fun s2 hs2 hp => ⟨0, ⟨[], []⟩, _, _, _, _, _, _, _, _, rfl, (by rw [parP_ok hlz12 (hrd.symm.trans hq), if_pos hbad]), glos_nil _, fncs_nil _⟩⟩
 have hgood : prgF p = (0, 0) := prgF_z (by have := c29; omega)
 refine Zk <| Zt <| Zs <| JC_drawE drawsMixed 4 Z [3, 2] (by intro x hx; exact eraseAll_mem hx) ?_
 intro s31 h31
 refine za 0 Z (QE_ldA 1 [_, _] Z Z Z Z Z) Z <| za 1 Z (QE_ldA 0 [_, _] Z Z Z Z Z) Z <| JA_1 2 V <| Wu Z trivial 3 [_, _] Y9 (fun _ hx => sub_mem (sbY (sbY (sbN (sbE _)))) hx) <| JA_1 3 V <| Wu Z trivial 2 [_, _] Y9 (fun _ hx => sub_mem (sbY (sbY (sbN (sbE _)))) hx) <| JA_done V <| Zt <| Zo <| ?_
 refine retQ_mk [_, _, _, _] _ (.inr Z) (.agg (us := [_, _]) 3 Z Z Z Z Z (.agg (us := [_, _]) 2 Z Z Z Z Z (.nil))) Z (h1.t h2|>.t h3|>.t h7|>.t I8.1|>.t h25|>.t h26|>.t h27|>.t h28|>.t h31) (fun sR hS2 => ?_)
 exact ⟨[], rfl, fun s2 hs2 hp => ⟨d1, p, _, _, _, _, _, _, _, _, rfl, (by rw [parP_ok hlz12 (hrd.symm.trans hq), if_neg (fun h => h (congrArg Prod.fst hgood)), hgood]), hGl.le (h26.t h27|>.t h28|>.t h31|>.t (hS2.t hs2)), hFn.le (h27.t h28|>.t h31|>.t (hS2.t hs2))⟩⟩
theorem progOf_ac (D : Nat) (L : Hl) (s : World) (l : List UInt8) : AC Tryz.prog D 14 [St l] L s fun v L' s' => L = L' ∧ ∃ d p f0 f1 Ag ng cg Af nf cf, v = .tuple #[.agg #[.slice Ag ng cg, .slice Af nf cf], .agg #[.int .i64 f0, .int .i64 f1]] ∧ parP l = (p, (f0, f1)) ∧ Glos s' Ag ng cg p.globals ∧ Fncs d s' Af nf cf p.funcs := AC.pubW (progOfO_ac D L s l)
theorem lawParse_ac (D : Nat) (L : Hl) (s : World) (hG : GP s) (l : List UInt8) (hl : l.length ≤ 1048576) : AC Tryz.prog D 4 [St l] L s fun v L' _ => v = .bool true ∧ L = L' := by
 refine AC_enter (TT := TT) (fn := Tryz.f4) TT_ok Tryz.func4 V Z Tryz.ntmps4 Z (rs := [.tmp 2]) Z [(0, _)] Z <| Sr <| At Z Z <| Sr <| Zqm Z Z <| Jc Z Z Z (parse_prog D _ _ (hG.le (Lr D)) l) ?_
 rintro _ _ s1 h1 ⟨rfl, da, pa, fa, ka, Aga, nga, cga, Afa, nfa, cfa, rfl, hpa, hga, hfa⟩
 
 refine Zqm Z Z <| Zqx Z Z Z <| Zqx Z Z Z <| JO_allocZ Z [_, _] Z Z ?_
 intro β2 s2 h2
 refine JO_allocZ Z [_, _] Z Z ?_
 intro β3 s3 h3
 refine Wt 1 [_, _] Y9 <| Wt 0 [_, _] Y9 <| Nt <| Sr <| Zqm Z Z <| Jc Z Z Z (progOf_ac D _ _ l) ?_
 rintro _ _ s4 h4 ⟨rfl, db, pb, fb, kb, Agb, ngb, cgb, Afb, nfb, cfb, rfl, hpb, hgb, hfb⟩
 rw [hpa] at hpb
 cases hpb
 refine Zqm Z Z <| Zqx Z Z Z <| Zqx Z Z Z <| JO_allocZ Z [_, _] Z Z ?_
 intro β5 s5 h5
 refine JO_allocZ Z [_, _] Z Z ?_
 intro β6 s6 h6
 refine Wt 1 [_, _] Y9 <| Wt 0 [_, _] Y9 <| Nt <| Zs <| Sr <| Jc Z Z Z (spelled_ac D _ _ (hG.le (h1.t h2|>.t h3|>.t h4|>.t h5|>.t h6))) ?_
 rintro _ _ s7 h7 ⟨rfl, rfl⟩
 refine ZqnT Z Z <| Zqm Z Z <| Zg Z Z <| JO_q (QE_ldA 2 [_, _] Z Z Z Z Z) Z <| Zg Z Z <| JO_q (QE_ldA 0 [_, _] Z Z Z Z Z) Z <| Zg Z Z <| JO_q (QE_cast (v' := .bool false) (QE_ane Z Z (eqFault _ _ _ _)) (bF ⟨Z, Z⟩)) Z <| ZqF Z Z Z <| Zqm Z Z <| Zg Z Z <| JO_q (QE_ldA 3 [_, _] Z Z Z Z Z) Z <| Zg Z Z <| JO_q (QE_ldA 1 [_, _] Z Z Z Z Z) Z <| Zg Z Z <| Jc Z Z Z (sameP_ac D _ _ da pa _ _ _ _ _ _ (hga.le (h2.t h3|>.t h4|>.t h5|>.t h6|>.t h7)) (hfa.le (h2.t h3|>.t h4|>.t h5|>.t h6|>.t h7)) db _ _ _ _ _ _ (hgb.le (h5.t h6|>.t h7)) (hfb.le (h5.t h6|>.t h7))) ?_
 rintro _ _ s8 h8 ⟨rfl, rfl⟩
 refine Zg Z Z <| ZqnT Z Z <| ZqF Z Z Z <| Nt <| Zz Z <| Zk <| Zt <| Sr <| Zqm Z Z <| Jc Z Z Z (tokensP_ac D _ _ l O) ?_
 rintro _ _ s9 h9 ⟨rfl, Atk, nt, ct, ts, rfl, hT, hRL⟩
 have hnt := hT.1
 have hnt2 := hT.2.1
 have hnt3 := hT.2.2.1
 obtain ⟨hlen1, hlen2⟩ := hRL.len (Nat.zero_le _)
 refine At Z Z <| Zs <| Sr <| At Z Z <| Zp <| JC_loop (γ := Nat) (fun i => [(2, _), (7, _), (8, .int .i64 (i : Int))]) (fun _ => _) (fun i tw => Le D s9 tw ∧ (i ≤ nt)) (fun i => nt - i) (fun _ _ _ h hl => ⟨h.1.trans hl, h.2⟩) 0 (.cons Z (.cons Z (.cons Z (.nil _)))) Z ⟨Le.refl _, Nat.zero_le _⟩ ?_
 intro i s10 I10
 have hi0 := I10.2
 refine Zs <| Sr <| Zqm Z Z <| Zqm Z Z <| Ws Y4 <| Zqlt Z Z Z <| Nt <| ?_
 refine JC_ifD Z (fun c11 => ?_) (fun c11 => ?_)
 ·
  have hi : i < nt := by omega
  obtain ⟨bx, ox, x, rfl, hx, hcx, hxl, hxu⟩ := Rts.at_ (hT.le I10.1) hi
  have hxl2 := hlen2 x (List.mem_of_getElem? hx)
  refine Zk <| Zt <| Zs <| Zp <| Zs <| JC_draw drawsMixed 13 Z _ (fun _ h => h) ?_
  intro s12 h12
  refine za 0 Z (QE_mv Z) Z <| za 1 Z (QE_mv Z) Z <| za 2 Z (QE_iaN Z Z Z Z Z Z (show i < nt by omega)) Z <| za 3 Z (QE_fa Z Z Z Z) Z <| za 4 Z (QE_ldsR 2 Z Z Z (hcx.le h12) Z) Z <| za 6 Z (QE_mv Z) Z <| za 7 Z (QE_mv Z) Z <| za 8 Z (QE_iaN Z Z Z Z Z Z (show i < nt by omega)) Z <| za 9 Z (QE_fa Z Z Z Z) Z <| za 10 Z (QE_ldsR 2 Z Z Z (hcx.le h12) Z) Z <| JA_1 5 V <| Jb Z trivial Z Z Z (keyword_ac D _ _ (hG.le (h1.t h2|>.t h3|>.t h4|>.t h5|>.t h6|>.t h7|>.t h8|>.t h9|>.t I10.1|>.t h12)) x.text) ?_
  rintro _ _ s13 h13 ⟨rfl, rfl⟩
  refine ⟨fun _ _ h => h, ?_⟩
  refine JA_1 11 V <| Jb Z trivial Z Z Z (rkw_ac D _ _ x.text) ?_
  rintro _ _ s14 h14 ⟨rfl, rfl⟩
  refine ⟨fun _ _ h => h, ?_⟩
  refine za 12 Z (QE_cast (v' := .bool false) (QE_bne Z Z Z Z) (bF Z)) Z <| JA_done V <| Zt <| Zz Z <| Zk <| Zb <| Zt <| Zr <| Zqm Z Z <| Zqadd Z Z Z (w64 O O) <| Zqa Z Z <| Zn <| ?_
  refine thenQ_n ⟨i + 1, [], kp, Z, ⟨(I10.1.t h12|>.t h13|>.t h14), O⟩, O⟩
 refine Zl <| Zv <| Zv <| Zd <| Zt <| Sr <| At Z Z <| Zo <| ?_
 refine retQ_mk [_, _, _, _] L (.inr Z) (.tmp Z (.nil)) Z (h1.t h2|>.t h3|>.t h4|>.t h5|>.t h6|>.t h7|>.t h8|>.t h9|>.t I10.1) (fun sR hS2 => ?_)
 exact ⟨rfl, rfl⟩
end Go.Proofs.YtiljephghfngnaaGreatDoor
namespace Go.Proofs.YtiljephghfngnaaGreatDoor
open Go Go.FL Go.ChangeShapes Go.WideShapes Go.ChangeAt Go.RowKit Go.Deep
theorem own_knob : ownKnob Tryz.prog.godebug = none := by kernel_rfl
theorem laid_out : laidOutB Tryz.prog = true := by kernel_rfl
theorem mark_free (l : List Obj) : ∃ D, ∀ E, D ≤ E → ∀ o ∈ l, o ≠ dum E := by
  induction l with
  | nil => exact ⟨0, fun _ _ _ h => by cases h⟩
  | cons x l ih =>
    obtain ⟨D, hD⟩ := ih
    have hx : ∃ B, ∀ E, B ≤ E → x ≠ dum E := by
      cases x with
      | mapIter a n b c => exact ⟨n + 1, fun E hE h => by simp only [dum, Obj.mapIter.injEq] at h; omega⟩
      | _ => exact ⟨0, fun E _ h => by simp [dum] at h⟩
    obtain ⟨B, hB⟩ := hx
    refine ⟨max D B, fun E hE o ho => ?_⟩
    rcases List.mem_cons.1 ho with rfl | ho
    · exact hB E O
    · exact hD E O o ho
theorem mark_world (W : World) : ∃ D, ∀ k : Nat, W.heap[k]? ≠ some (dum D) := by
  obtain ⟨D, hD⟩ := mark_free W.heap.toList
  refine ⟨D, fun k hk => hD D (Nat.le_refl _) (dum D) ?_ Z⟩
  rw [← Array.getElem?_toList] at hk
  exact List.mem_of_getElem? hk
theorem below_of {D : Nat} {W W' : World} (hD : ∀ k : Nat, W.heap[k]? ≠ some (dum D)) (h : Le D W W') : Below W.heap.size W W' :=
  ⟨h.os, h.tape, h.output, h.size, fun k hk => (h.block k hk).resolve_left (hD k)⟩
theorem law_calls {P : Program} {f : FuncId} {args : List Value} {W : World} (h : ∀ D, AC P D f args [] W fun v L' _ => v = .bool true ∧ [] = L') :
    Calls P f args.toArray W fun e W' => e = .returned (.bool true) ∧ Below W.heap.size W W' := by
  obtain ⟨D, hD⟩ := mark_world W
  refine ((h D).2 ⟨by simp, fun x hx => by cases hx⟩).mono ?_
  rintro e w' ⟨v, L', s', h1, rfl, h3, h4, rfl, rfl⟩
  exact ⟨h1, below_of hD h4⟩
section
variable {H : Type} {enc : TypeId × Value → H} {P : Program}
theorem trodAll_stays {W W' : World} (hl : laidOutB P = true) (hb : Below W.heap.size W W') : ∀ {ts : List TypeId} {vs : List Value} {ds : List (DataW H)} {ps : List MemPlace}, (∀ t ∈ ts, P.readableRec t = true ∧ t < P.types.size) → (∀ x ∈ ps, x.block < W.heap.size) →
    DataW.TrodAll enc P W 0 (fun _ => true) true ts vs ds ps → DataW.TrodAll enc P W' 0 (fun b => decide (b < W.heap.size)) true ts vs ds ps
  | [], _, _, _, _, _, h => by
    obtain ⟨rfl, rfl, rfl⟩ := trodAll_nil h
    exact trodAll_mk0
  | t :: ts, _, _, _, hts, hp, h => by
    obtain ⟨v, vs, d, ds, a, b, rfl, rfl, rfl, h1, h2⟩ := trodAll_cons h
    have ht := hts t (List.mem_cons_self ..)
    exact trodAll_cons_mk (Below.trod hl ht.1 ht.2 h1 hb fun x hx => hp x (List.mem_append_left _ hx)) (trodAll_stays hl hb (fun t' h' => hts t' (List.mem_cons_of_mem _ h')) (fun x hx => hp x (List.mem_append_right _ hx)) h2)
theorem law_post {fn : Func} {s : ChangeSpec} {W W' : World} {args : Array Value} {ds gs : List (DataW H)} {before : List MemPlace} {tb : TypeId} (hl : laidOutB P = true) (hts : ∀ t ∈ fn.params.toList, P.readableRec t = true ∧ t < P.types.size) (hr : fn.resultTypes = #[tb]) (hb : P.underlying tb = some .bool)
    (hv : s.vars = []) (hW : DataW.Whole enc P fn.params.toList s.vars false W args.toList ds gs before) (hfn : s.fn H ds = { results := [.lit (.bool true)], args := ds }) (hB : Below W.heap.size W W') : s.post enc P fn false true false false W args (.bool true) W' := by
  have hlt : ∀ x ∈ before, x.block < W.heap.size := fun x hx => hW.lt x hx
  have hW' := hW
  obtain ⟨p, q, hA, hV, rfl, _, _⟩ := hW
  rw [hv] at hV
  obtain ⟨rfl, rfl⟩ := trodVars_none hV
  refine ⟨ds, [], p ++ [], [], p, [], hW', ?_, ?_, ?_, hB.frame _, fun h => by cases h⟩
  · rw [List.append_nil, hfn, hr]; exact trodAll_cons_mk (shut_bool hb _) trodAll_mk0
  · rw [List.append_nil, hfn]; exact trodAll_stays hl hB hts (fun x hx => hlt x (List.mem_append_left _ hx)) hA
  · rw [List.append_nil, hfn, hv]; rfl
end
def Rd (W : World) (t : TypeId) (cs : List Value) : Prop := ∃ (H : Type) (enc : TypeId × Value → H) (n : Nat) (x : DataW H × List MemPlace), DataW.trod enc Tryz.prog W 0 (fun _ => true) true n t cs = some x
section
variable {W : World} {t e : TypeId} {cs : List Value}
theorem rd_str (ht : Tryz.prog.underlying t = some .string) (h : Rd W t cs) : ∃ l : List UInt8, cs = [St l] ∧ l.length ≤ 9223372036854775807 := by
  obtain ⟨H, enc, n, x, h⟩ := h
  obtain ⟨s, h1, _, h2⟩ := DataW.trod_string ht h
  refine ⟨s.data.toList, by rw [h1], ?_⟩
  have : s.data.toList.length = s.size := by rw [Array.length_toList]; rfl
  simp only [maxLen] at h2
  omega
theorem one_eq {a b : Value} (h : [a] = [b]) : a = b := by injection h
end
set_option maxRecDepth 100000
instance : Inhabited Ex := ⟨.mk 0 0 0 [] []⟩
instance : Inhabited Stm := ⟨.mk 0 [] [] [] []⟩
instance : Inhabited Fnc := ⟨⟨[], [], [], []⟩⟩
instance : Inhabited Glo := ⟨⟨0, [], 0, []⟩⟩
section
variable {H : Type} {enc : TypeId × Value → H} {W : World} {base : Nat} {v : Value} {d : DataW H} {ps : List MemPlace}
theorem rd_of {t : TypeId} (hd : DataW.Trod enc Tryz.prog W 0 (fun _ => true) true t v d ps) : Rd W t v.cells.toList := by
  obtain ⟨n, h⟩ := hd
  exact ⟨H, enc, n, _, h⟩
end
theorem gw_var {W : World} {nm : String} {g : Nat} {cs : Array Value} (hg : Tryz.prog.globalNamed nm = some g) (h : W.var? Tryz.prog nm = some cs) : ∃ ty fz, W.heap[g]? = some (.cells cs ty fz) := by
  unfold World.var? at h
  rw [hg] at h
  simp only [Option.bind_some] at h
  split at h
  · rename_i c t f hb
    injection h with h
    subst h
    exact ⟨t, f, hb⟩
  · cases h
theorem row_err (u : TypeId) (hu : Tryz.prog.typeName? 3 u = Tryz.prog.typeName? 3 227) : u = 227 :=
  have hn : Tryz.prog.typeName? 3 227 = some ("*" ++ "errors.errorString") := by kernel_rfl
  typeName_ptr_named (nm := "errors.errorString") V V (by decide) u (hu.trans hn)
theorem gp_of {W : World} (h : laidMetH Tryz.prog Rows.syntaxPrintMatchesSpecRow.laid W) : GP W := by
  rw [MakeChecks.laidMetH_plain _ _ _ V] at h
  have h2 := h.tail.tail
  have hpow := Lib.tabIs_of_head (zs := Lib.pow10Tab) (k := .u64) (g := 2) V V Tryz.underlying216 Tryz.underlying128 V V h2
  have h4 := h2.tail
  obtain ⟨a1, s1, hv1, _⟩ := laid_sentinel (g := 5) h4 V V Tryz.underlying124 (fun u hu => row_err u (hu.trans V)) Tryz.underlying227 Tryz.underlying229 rfl rfl Tryz.underlying9 V V
  obtain ⟨a2, s2, hv2, _⟩ := laid_sentinel (g := 4) h4.tail V V Tryz.underlying124 (fun u hu => row_err u (hu.trans V)) Tryz.underlying227 Tryz.underlying229 rfl rfl Tryz.underlying9 V V
  have hasc := Lib.tabIs_of_head (zs := Lib.asciiSpaceTab) (k := .u8) (g := 0) V V Tryz.underlying119 Tryz.underlying5 V V h4.tail.tail.tail
  refine ⟨⟨?_, ?_, ?_⟩, gw_var (g := 0) V hasc⟩
  · exact gw_var (g := 2) V hpow
  · exact ⟨_, _, World.var?_cell (g := 4) V hv2 0⟩
  · exact ⟨_, _, World.var?_cell (g := 5) V hv1 0⟩
set_option maxRecDepth 100000
section
variable {H : Type} {enc : TypeId × Value → H} {W : World} {base : Nat} {v : Value} {d : DataW H} {ps : List MemPlace}
theorem arg_strD (hv : Value.okWide Tryz.prog W .any base 9 v) (hd : DataW.Trod enc Tryz.prog W 0 (fun _ => true) true 9 v d ps) : ∃ l, v = St l ∧ d = .lit (.string l) ∧ l.length ≤ 9223372036854775807 := by
  obtain ⟨x, h1, h2⟩ := rd_str Tryz.underlying9 (rd_of hd)
  obtain ⟨u, hu, hdd, _, _⟩ := ChangeMaps.open_string Tryz.underlying9 hv hd
  subst hu
  have hx : Value.string u = St x := one_eq h1
  injection hx with hx
  subst hx
  exact ⟨x, rfl, by rw [hdd], h2⟩
end
set_option maxRecDepth 100000
section
variable {H : Type} {enc : TypeId × Value → H}
theorem small_str1 {l : List UInt8} (h : Rows.uptoSmall H [.lit (.string l)] = true) : l.length ≤ 1048576 := by
  have h1 := of_decide_eq_true h
  simp only [Rows.uptoBulkAll, Rows.uptoBulk] at h1
  omega
theorem pre_small {P : Program} {fn : Func} {s : ChangeSpec} {w : World} {args : Array Value} {fuel : Nat} (h : (match DataW.whole enc P w fn.params.toList s.vars false args.toList fuel with | some x => Rows.uptoSmall H (x.1 ++ x.2.1) | none => false) = true) : (Rows.OpenSpec.upto s).pre enc P fn [] false w args := by
  cases hx : DataW.whole enc P w fn.params.toList s.vars false args.toList fuel with
  | none => rw [hx] at h; cases h
  | some x => rw [hx] at h; exact (OpenSpec.pre_some rfl _ _ _ _).2 ⟨x.1, x.2.1, x.2.2, DataW.Whole_of_whole hx, rfl, h⟩
end
open Go Go.FL Go.ChangeShapes Go.WideShapes Go.ChangeAt Go.RowKit
theorem syntaxParseMatchesSpec_reads : ∀ t ∈ Tryz.f4.params.toList, Tryz.prog.readableRec t = true ∧ t < Tryz.prog.types.size := by
  rw [Tryz.params4]
  intro t ht
  simp only [List.mem_cons, List.not_mem_nil, or_false] at ht
  rcases ht with rfl <;> exact ⟨by kernel_rfl, of_decide_eq_true V⟩
theorem syntaxParseMatchesSpec_contract (H : Type) (enc : TypeId × Value → H) (W : World) (base : Nat) (args : Array Value) (ds gs : List (DataW H)) (before : List MemPlace)
    (hval : ∀ (j : Nat) t v, Tryz.f4.params[j]? = some t → args[j]? = some v → Value.okWide Tryz.prog W .any base t v)
    (hW : DataW.Whole enc Tryz.prog Tryz.f4.params.toList Rows.syntaxParseMatchesSpecSpec.vars false W args.toList ds gs before) (hL : laidMetH Tryz.prog Rows.syntaxParseMatchesSpecUptoRow.laid W) (hk : Rows.uptoSmall H (ds ++ gs) = true) :
    Calls Tryz.prog 4 args W fun e W' => ∃ v, e = .returned v ∧ Rows.syntaxParseMatchesSpecSpec.post enc Tryz.prog Tryz.f4 false true false false W args v W' := by
  have hW' := hW
  obtain ⟨p, q, hA0, hV, rfl, hfz, hnd⟩ := hW'
  have hA : DataW.TrodAll enc Tryz.prog W 0 (fun _ => true) true Tryz.f4.params.toList args.toList ds p := hA0
  rw [Tryz.params4] at hA hval
  obtain ⟨v0, vs0, d0, ds0, p0, q0, hargs0, rfl, rfl, h0, r0⟩ := trodAll_cons hA
  obtain ⟨rfl, rfl, rfl⟩ := trodAll_nil r0
  obtain rfl : args = #[v0] := by cases args; simp_all
  obtain ⟨rfl, rfl⟩ := trodVars_none hV
  simp only [List.append_nil] at hk
  obtain ⟨l0, rfl, hd0, hL0⟩ := arg_strD (hval 0 9 v0 rfl rfl) h0
  subst hd0
  have hk0 := small_str1 hk
  refine (law_calls (args := [_]) fun D => lawParse_ac D [] W (gp_of hL) l0 hk0).mono fun e W' ⟨he, hg⟩ => ?_
  subst he
  exact ⟨_, rfl, law_post laid_out syntaxParseMatchesSpec_reads V Tryz.underlying4 rfl hW rfl hg⟩
theorem syntaxParseMatchesSpec_lifted (os : Os) (started : os.Started) (H : Type) (enc : TypeId × Value → H) (F : Stop.Interp) :
    ReturnsInHanded {} Tryz.checked os 4 .any (Rows.syntaxParseMatchesSpecUptoRow.pre enc Tryz.prog Tryz.f4 (Rows.OpenSpec.upto Rows.syntaxParseMatchesSpecSpec)) (((Rows.OpenSpec.upto Rows.syntaxParseMatchesSpecSpec).at F).post enc Tryz.prog Tryz.f4 false true false false) := by
  refine returnsInHanded_of_calls own_knob started V ?_ ?_
  · obtain ⟨w, tape, i, h1, h2, h3, h4, ⟨⟨_, hX⟩, h5⟩, h6⟩ := ChangeSpec.witness_shaped (H := H) (enc := enc) (C := Tryz.checked) (os := os) (f := 4) (fn := Tryz.f4) (s := Rows.syntaxParseMatchesSpecSpec) (conds := []) (apart := false) (X := fun w args => laidMetH Tryz.prog Rows.syntaxParseMatchesSpecUptoRow.laid w ∧ (Rows.OpenSpec.upto Rows.syntaxParseMatchesSpecSpec).pre enc Tryz.prog Tryz.f4 [] false w args) false (World.laidAll Tryz.prog os Rows.syntaxParseMatchesSpecUptoRow.laid) #[.string .empty] 8 (World.laidAll_os _ _ _)
      (World.shaped_of_ZipB V V) V V V
      ⟨by rw [MakeChecks.laidMetH_plain _ _ _ V]; exact laidMet_laidAll _ V V,
        pre_small (fuel := 8) V⟩
    exact ⟨w, tape, i, h1, h2, h3, h4, ⟨⟨hX.2, hX.1⟩, h5⟩, h6⟩
  · intro w tape i _ _ _ hok hpre _
    obtain ⟨_, _, _, fn', hfn', _, _, _, _, hval⟩ := hok
    obtain rfl : fn' = Tryz.f4 := Option.some.inj (hfn'.symm.trans Tryz.func4)
    obtain ⟨⟨hp, hl⟩, _⟩ := hpre
    obtain ⟨ds, gs, before, hw, _, hkk⟩ := (OpenSpec.pre_some rfl _ _ _ _).1 hp
    have hw' := DataW.Whole.of_heap (w' := w.forCall tape i) (by rfl) hw
    refine (syntaxParseMatchesSpec_contract H enc (w.forCall tape i) w.heap.size i.args ds gs before hval hw' (hl.of_heap (by rfl)) hkk).mono fun e W' ⟨v, he, hp⟩ => ?_
    subst he
    exact ChangeSpec.post_blind hp
theorem syntaxParseMatchesSpec_said : Rows.SyntaxParseMatchesSpecUptoSaid :=
  OpenClaim.holds_of_cond 4 Tryz.f4 rfl rfl rfl rfl rfl rfl rfl ⟨rfl, rfl, rfl, rfl, rfl⟩ rfl rfl rfl rfl rfl V Tryz.func4 V
    (of_decide_eq_true V) (by unfold Func.isWrapper; first | (rw [if_pos (by decide +kernel)]; kernel_rfl) | (rw [if_neg (by decide +kernel)]; exact ⟨rfl, rfl⟩))
    (fun os started H enc _ F => syntaxParseMatchesSpec_lifted os started H enc F)
theorem syntaxParseMatchesSpec_plain (f : FuncId) (fn : Func) (hf : Tryz.pinned.checked.prog.funcNamed Rows.syntaxParseMatchesSpecUptoRow.func = some f) (hfn : Tryz.pinned.checked.prog.funcs[f]? = some fn) : true = Tryz.pinned.checked.prog.looks [] ∧ ∀ (j : Nat) t, fn.params[j]? = some t → Tryz.pinned.checked.prog.wantsStandIn t = false := by
  obtain rfl : f = 4 := Option.some.inj ((show Tryz.prog.funcNamed Rows.syntaxParseMatchesSpecUptoRow.func = some 4 by kernel_rfl).symm.trans hf) |>.symm
  obtain rfl : fn = Tryz.f4 := (Option.some.inj (Tryz.func4.symm.trans hfn)).symm
  exact ⟨by kernel_rfl, fun j t ht => by
    rw [Tryz.params4] at ht
    have hm : t ∈ [9] := by simpa using Array.mem_of_getElem? ht
    have hall : ([9].all fun u => !Tryz.prog.wantsStandIn u) = true := by kernel_rfl
    exact (show Tryz.prog.wantsStandIn t = false by simpa using List.all_eq_true.1 hall t hm)⟩
theorem syntaxParseMatchesSpec_holds : Rows.SyntaxParseMatchesSpecUptoCardSaid :=
  Claim7.holds_tied_plain_at .later [] _ _ _ _ syntaxParseMatchesSpec_said (fun _ h => by cases h) V (fun _ h => by cases h) syntaxParseMatchesSpecUpto_row_tie rfl ⟨rfl, rfl⟩ V rfl syntaxParseMatchesSpec_plain V
end Go.Proofs.YtiljephghfngnaaGreatDoor
