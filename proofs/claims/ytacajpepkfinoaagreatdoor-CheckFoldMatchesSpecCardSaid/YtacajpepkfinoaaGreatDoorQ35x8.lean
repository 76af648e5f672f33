/- The law CheckFoldMatchesSpec: for every input it returns true, and its arguments read behind the call az they read before; what the package-level variables of the library hold is tied tgt the text of the program. Part 8 of the proof of checkFoldMatchesSpec_holds: texts C31, C32, V31, V33, V34, V35, V36, C39, Rj, Rt, Q35. -/
import Derived.Test.YtacajpepkfinoaaGreatDoorQ35x7
import Derived.ProofKit
import Derived.OpenShut
import Derived.SizedLaws
import Derived.Deep.Slices
import Derived.Test.YtacajpepkfinoaaGreatDoorRows
import Derived.Lay
import Derived.Lib.LaidTab
import Derived.Stop.LaidErr
import Derived.SevenTiedAt
import Derived.Test.YtacajpepkfinoaaGreatDoorCards
import Derived.Test.YtacajpepkfinoaaGreatDoorTie
set_option linter.unusedVariables false
set_option linter.unusedSimpArgs false
set_option linter.unnecessarySimpa false
set_option maxRecDepth 100000
set_option maxHeartbeats 8000000
namespace Go.Proofs.YtacajpepkfinoaaGreatDoor
open Go.FL
attribute [local irreducible] JC JO JA JB thenQ blockQ retQ AC fill CellsAt QE Ev Mid
theorem exs_nil (d : Nat) (s : World) : Exs d s none 0 0 [] := ⟨rfl, Nat.le_refl _, by omega, fun i x h => by cases h⟩
theorem stms_nil (d : Nat) (s : World) : Stms d s none 0 0 [] := ⟨rfl, Nat.le_refl _, by omega, fun i x h => by cases h⟩
theorem strs_nil (s : World) : Strs s none 0 0 [] := ⟨rfl, Nat.le_refl _, by omega, fun i x h => by cases h⟩
theorem wds_nil (s : World) : Wds s none 0 0 [] := ⟨rfl, Nat.le_refl _, by omega, fun i x h => by cases h⟩
def getX : Ex := .mk 5 0 0 [] []
def nX : Ex := .mk 2 0 0 [110] []
def mulX : Ex := .mk 7 4 0 [] [nX, .mk 1 0 2 [] []]
def sumX : Ex := .mk 7 10 0 [] [getX, mulX]
def sumD : Ex := .mk 7 10 0 [] [getX, .mk 1 0 6 [] []]
def smallQ : Prg := ⟨smallP.globals, smallP.funcs ++ [⟨[102], [], [], []⟩]⟩
def smallM : Fnc := ⟨mainW, [], [], [.mk 7 [] [sumX] [] []]⟩
theorem ex_row {d : Nat} {s : World} {k o n : Int} {nm : Str} {A : Option Addr} {m c : Nat} {l : List Ex} (h : Exs d s A m c l) (hn : U32 n) (hl : nm.length ≤ 1000) : ([.int .i64 k, .int .i64 o, .int .u32 n, St nm, .slice A m c] : List Value).length = 5 ∧ ExR (d + 1) s (.mk k o n nm l) [.int .i64 k, .int .i64 o, .int .u32 n, St nm, .slice A m c] := ⟨rfl, A, m, c, rfl, h, hn, show nm.length ≤ 9223372036854775807 by omega⟩
theorem small_of {s : World} {b1 b2 b3 b4 b5 b6 : Nat} (h1 : CellsAt s b1 0 [.int .i64 2, .int .i64 0, .int .u32 0, St [110], .slice none 0 0, .int .i64 1, .int .i64 0, .int .u32 2, St [], .slice none 0 0])
    (h2 : CellsAt s b2 0 [.int .i64 5, .int .i64 0, .int .u32 0, St [], .slice none 0 0, .int .i64 7, .int .i64 4, .int .u32 0, St [], .slice (some ⟨b1, 0, none⟩) 2 2])
    (h3 : CellsAt s b3 0 [.int .i64 1, St [110], .int .u32 3, .slice none 0 0]) (h4 : CellsAt s b4 0 [.int .i64 7, .int .i64 10, .int .u32 0, St [], .slice (some ⟨b2, 0, none⟩) 2 2])
    (h5 : CellsAt s b5 0 [.int .i64 7, St [], .slice (some ⟨b4, 0, none⟩) 1 1, .slice none 0 0, .slice none 0 0]) (h6 : CellsAt s b6 0 [St mainW, .slice none 0 0, .slice none 0 0, .slice (some ⟨b5, 0, none⟩) 1 1]) :
    Glos s (some ⟨b3, 0, none⟩) 1 1 smallP.globals ∧ Fncs 5 s (some ⟨b6, 0, none⟩) 1 1 smallP.funcs := by
  have z : U32 0 := ⟨by decide, by decide⟩
  have e1 : Exs 2 s (some ⟨b1, 0, none⟩) 2 2 [nX, .mk 1 0 2 [] []] := Sl.lit [[_, _, _, _, _], [_, _, _, _, _]] h1 rfl (.cons (ex_row (exs_nil 1 s) z (by decide)) (.cons (ex_row (exs_nil 1 s) ⟨by decide, by decide⟩ (by decide)) .nil)) 2 rfl O
  have e2 : Exs 3 s (some ⟨b2, 0, none⟩) 2 2 [getX, mulX] := Sl.lit [[_, _, _, _, _], [_, _, _, _, _]] h2 rfl (.cons (ex_row (exs_nil 2 s) z (by decide)) (.cons (ex_row e1 z (by decide)) .nil)) 2 rfl O
  have e3 : Exs 4 s (some ⟨b4, 0, none⟩) 1 1 [sumX] := Sl.lit [[_, _, _, _, _]] h4 rfl (.cons (ex_row e2 z (by decide)) .nil) 1 rfl O
  have e4 : Stms 5 s (some ⟨b5, 0, none⟩) 1 1 [.mk 7 [] [sumX] [] []] := Sl.lit [[_, _, _, _, _]] h5 rfl (.cons ⟨rfl, _, _, _, _, _, _, _, _, _, rfl, e3, stms_nil 4 s, stms_nil 4 s, by decide⟩ .nil) 1 rfl O
  exact ⟨Sl.lit [[_, _, _, _]] h3 rfl (.cons ⟨rfl, _, _, _, rfl, wds_nil s, ⟨by decide, by decide⟩, by decide⟩ .nil) 1 rfl O,
    Sl.lit [[_, _, _, _]] h6 rfl (.cons ⟨rfl, _, _, _, _, _, _, _, _, _, rfl, strs_nil s, strs_nil s, e4, by decide⟩ .nil) 1 rfl O⟩
theorem sumD_of {s : World} {b1 b2 : Nat} (h1 : CellsAt s b1 0 [.int .i64 5, .int .i64 0, .int .u32 0, St [], .slice none 0 0, .int .i64 1, .int .i64 0, .int .u32 6, St [], .slice none 0 0]) (h2 : CellsAt s b2 0 [.int .i64 7, .int .i64 10, .int .u32 0, St [], .slice (some ⟨b1, 0, none⟩) 2 2]) : Exs 3 s (some ⟨b2, 0, none⟩) 1 1 [sumD] := by
  have e1 : Exs 2 s (some ⟨b1, 0, none⟩) 2 2 [getX, .mk 1 0 6 [] []] := Sl.lit [[_, _, _, _, _], [_, _, _, _, _]] h1 rfl (.cons (ex_row (exs_nil 1 s) ⟨by decide, by decide⟩ (by decide)) (.cons (ex_row (exs_nil 1 s) ⟨by decide, by decide⟩ (by decide)) .nil)) 2 rfl O
  exact Sl.lit [[_, _, _, _, _]] h2 rfl (.cons (ex_row e1 ⟨by decide, by decide⟩ (by decide)) .nil) 1 rfl O
theorem smallQ_of {s : World} {g c : Nat} {A1 A2 A3 : Option Addr} {n1 c1 n2 c2 n3 c3 : Nat} (h : CellsAt s g 0 [St mainW, .slice A1 n1 c1, .slice A2 n2 c2, .slice A3 n3 c3, St [102], .slice none 0 0, .slice none 0 0, .slice none 0 0]) (h1 : Strs s A1 n1 c1 []) (h2 : Strs s A2 n2 c2 []) (h3 : Stms 5 s A3 n3 c3 smallM.body) (hc : 2 ≤ c) (hc2 : c ≤ 9223372036854775807) : Fncs 5 s (some ⟨g, 0, none⟩) 2 c smallQ.funcs := by
  have := (Sl.lit (sz := 4) (R := FnR 5) (l := smallQ.funcs) [[_, _, _, _], [_, _, _, _]] h rfl (.cons ⟨rfl, _, _, _, _, _, _, _, _, _, rfl, h1, h2, h3, by decide⟩ (.cons ⟨rfl, _, _, _, _, _, _, _, _, _, rfl, strs_nil s, strs_nil s, stms_nil 5 s, by decide⟩ .nil)) 2 rfl O)
  exact ⟨this.1, hc, hc2, this.2.2.2⟩
theorem sm_K : chkF smallP = (0, 0) := by decide +kernel
theorem sm_KQ : chkF smallQ = (0, 0) := by decide +kernel
theorem sm_R : resP smallP 0 [110] = ((3, 0), (0, 0)) := by decide +kernel
theorem sm_C : callsP smallP = [smallM] := if_neg (by rw [sm_K]; decide)
theorem sm_M4 : msP smallP smallM 4 = [] := by
  refine List.eq_nil_iff_forall_not_mem.2 fun i hi => ?_
  obtain ⟨nd, h1, h2⟩ := ((msP_spec smallP smallM 4).2 i).1 hi
  have : ∀ nd ∈ ndSs smallM.body 0, mnI smallP smallM 4 nd = [] := by decide +kernel
  rw [this nd h1] at h2; cases h2
theorem sm_F : (foldR smallP).2 = (0, 0) := by decide +kernel
theorem sm_F1 : (foldR smallP).1.funcs = [⟨mainW, [], [], [.mk 7 [] [sumD] [] []]⟩] := by kernel_rfl
theorem sm_O : (oprF 11 2).1 = 0 ∧ (oprF 11 2).2 = 0 ∧ opP 11 1 2 = 4294967295 := by decide +kernel
theorem sm_Z : (oprF 6 0).1 = 26 ∧ (oprF 6 0).2 = -3 := by decide +kernel
theorem sm_T {q : Prg} (h : TrimR smallQ q) : q = smallP := by
  rcases h with ⟨h1, _⟩ | ⟨_, F, G, ⟨hF, hG, mi, hm, hmi, hj, hg⟩, rfl⟩
  · rw [sm_KQ] at h1; exact absurd rfl h1
  have h0 : mainF smallQ.funcs = 0 := by decide +kernel
  obtain rfl : 0 = mi := by omega
  obtain ⟨a, b, rfl⟩ : ∃ a b, F = [a, b] := by match F, hF with | [a, b], _ => exact ⟨a, b, rfl⟩
  obtain ⟨c, rfl⟩ : ∃ c, G = [c] := by match G, hG with | [c], _ => exact ⟨c, rfl⟩
  have ha : a = true := by simpa using (hj 0).2 (.refl 0)
  have hb : b = false := by
    cases hb : b with
    | false => rfl
    | true =>
      have := (hj 1).1 (by rw [hb]; rfl)
      cases this with
      | step hc _ =>
        obtain ⟨x, hx, hk⟩ := hc
        obtain ⟨nd, h1, h2⟩ := ((msP_spec smallQ x 4).2 _).1 hk
        obtain rfl : smallM = x := Option.some.inj hx
        have : ∀ nd ∈ ndSs smallM.body 0, mnI smallQ smallM 4 nd = [] := by decide +kernel
        rw [this nd h1] at h2; cases h2
  have hc : c = true := by
    have : ∃ nd ∈ ndSs smallM.body 0, (0 : Int) ∈ mnI smallQ smallM 3 nd := by decide +kernel
    simpa using (hg 0).2 ⟨0, by rw [ha]; rfl, smallM, rfl, ((msP_spec smallQ smallM 3).2 _).2 this⟩
  subst ha hb hc
  rfl
theorem fold_at {s : World} {A : Option Addr} {n c : Nat} (h : Fncs 5 s A n c [⟨mainW, [], [], [.mk 7 [] [sumD] [] []]⟩]) : n = 1 ∧ ∃ b off A1 n1 c1 A2 n2 c2 b2 o2 c3, A = some ⟨b, off, none⟩ ∧ CellsAt s b (off + 0 * 4) [St mainW, .slice A1 n1 c1, .slice A2 n2 c2, .slice (some ⟨b2, o2, none⟩) 1 c3] ∧
    ∃ A4 n4 c4 A5 n5 c5 A6 n6 c6, CellsAt s b2 (o2 + 0 * 5) [.int .i64 7, St [], .slice A4 n4 c4, .slice A5 n5 c5, .slice A6 n6 c6] ∧ Exs 4 s A4 n4 c4 [sumD] := by
  have hn : n = 1 := h.1
  subst hn
  obtain ⟨b, off, x, A1, n1, c1, A2, n2, c2, A3, n3, c3, rfl, hx, hc, _, _, hB, _⟩ := Fncs.at_ h (show 0 < 1 by decide)
  obtain rfl := Option.some.inj hx
  have hn3 : n3 = 1 := hB.1
  subst hn3
  obtain ⟨e, b2, o2, y, A4, n4, c4, A5, n5, c5, A6, n6, c6, he, rfl, hy, hc2, hE, _, _, _⟩ := Stms.at_ hB (show 0 < 1 by decide)
  obtain rfl := Option.some.inj hy
  obtain rfl : 4 = e := by omega
  exact ⟨rfl, b, off, A1, n1, c1, A2, n2, c2, b2, o2, c3, rfl, hc, A4, n4, c4, A5, n5, c5, A6, n6, c6, hc2, hE⟩
theorem num9_ac (D : Nat) (L : Hl) (s : World) (n : Int) : AC Tryz.prog D 27 [.int .u32 n] L s fun v L' _ => v = .agg #[.int .i64 1, .int .i64 0, .int .u32 n, St [], .slice none 0 0] ∧ L = L' := by
 refine AC_enter (TT := TT) (fn := Tryz.f27) TT_ok Tryz.func27 V Z Tryz.ntmps27 Z (rs := [.cell 2 61]) Z [(0, _)] Z <| Sr <| JO_allocZ Z [_, _, _, _, _] Z Z ?_
 intro β1 s1 h1
 refine Nt <| Sr <| Zqm Z Z <| JO_q (QE_build [(_, _), (_, _)] [_, _, _, _, _] Z Z Z Z Z Z) Z <| Wt 0 [_, _, _, _, _] Y9 <| Nt <| Zo <| ?_
 refine retQ_mk [_] L (.inr Z) (.agg (us := [_, _, _, _, _]) 0 Z Z Z Z Z (.nil)) Z h1 (fun sR hS2 => ?_)
 exact ⟨rfl, rfl⟩
theorem smallO_ac (D : Nat) (L : Hl) (s : World) : AC Tryz.prog D 25 [] L s fun v L' s' => ∃ M', L' = M' ++ L ∧ ∀ s2, Le D s' s2 → Pub M' s2 → ∃ bg bf, v = .agg #[.slice (some ⟨bg, 0, none⟩) 1 1, .slice (some ⟨bf, 0, none⟩) 1 1] ∧ Glos s2 (some ⟨bg, 0, none⟩) 1 1 smallP.globals ∧ Fncs 5 s2 (some ⟨bf, 0, none⟩) 1 1 smallP.funcs := by
 refine AC_enter (TT := TT) (fn := Tryz.f25) TT_ok Tryz.func25 V Z Tryz.ntmps25 Z (rs := [.cell 0 25]) Z [] Z <| Sr <| JO_allocZ Z [_, _] Z Z ?_
 intro β1 s1 h1
 refine Nt <| Sr <| JO_q (QE_build [(_, _), (_, _)] [_, _, _, _, _] Z Z Z Z Z Z) Z <| Jc Z Z Z (num9_ac D _ _ 2) ?_
 rintro _ _ s2 h2 ⟨rfl, rfl⟩
 refine JO_bs [(_, _), (_, _)] [_, _, _, _, _, _, _, _, _, _] Z Z Z Z Z Z Z Z Z ?_
 intro βa s3 h3 hca
 refine JO_q (QE_build [(_, _), (_, _), (_, _)] [_, _, _, _, _] Z Z Z Z Z Z) Z <| JO_allocZ Z [_, _, _, _, _] Z Z ?_
 intro β4 s4 h4
 refine Wt 0 [_, _, _, _, _] Y9 <| Nt <| Sr <| JO_q (QE_build [(_, _)] [_, _, _, _, _] Z Z Z Z Z Z) Z <| JO_q (QE_ldA 0 [_, _, _, _, _] Z Z Z Z Z) Z <| JO_bs [(_, _), (_, _)] [_, _, _, _, _, _, _, _, _, _] Z Z Z Z Z Z Z Z Z ?_
 intro βb s5 h5 hcb
 refine JO_q (QE_build [(_, _), (_, _), (_, _)] [_, _, _, _, _] Z Z Z Z Z Z) Z <| JO_allocZ Z [_, _, _, _, _] Z Z ?_
 intro β6 s6 h6
 refine Wt 0 [_, _, _, _, _] Y9 <| Nt <| Sr <| JO_q (QE_build [(_, _), (_, _), (_, _)] [_, _, _, _] Z Z Z Z Z Z) Z <| JO_bs [(_, _)] [_, _, _, _] Z Z Z Z Z Z Z Z Z ?_
 intro βc s7 h7 hcc
 refine JO_q (QE_ldA 0 [_, _, _, _, _] Z Z Z Z Z) Z <| JO_bs [(_, _)] [_, _, _, _, _] Z Z Z Z Z Z Z Z Z ?_
 intro βd s8 h8 hcd
 refine JO_q (QE_build [(_, _), (_, _)] [_, _, _, _, _] Z Z Z Z Z Z) Z <| JO_bs [(_, _)] [_, _, _, _, _] Z Z Z Z Z Z Z Z Z ?_
 intro βe s9 h9 hce
 refine JO_q (QE_build [(_, _), (_, _)] [_, _, _, _] Z Z Z Z Z Z) Z <| JO_bs [(_, _)] [_, _, _, _] Z Z Z Z Z Z Z Z Z ?_
 intro βf s10 h10 hcf
 refine JO_q (QE_build [(_, _), (_, _)] [_, _] Z Z Z Z Z Z) Z <| Wt 2 [_, _] Y9 <| Nt <| Zo <| ?_
 refine retQ_mk [_, _, _] _ (.inr Z) (.agg (us := [_, _]) 2 Z Z Z Z Z (.nil)) Z (h1.t h2|>.t h3|>.t h4|>.t h5|>.t h6|>.t h7|>.t h8|>.t h9|>.t h10) (fun sR hS2 => ?_)
 exact ⟨[], rfl, fun s2 hs2 hp => ⟨_, _, rfl, small_of (hca.le (h4.t h5|>.t h6|>.t h7|>.t h8|>.t h9|>.t h10|>.t (hS2.t hs2))) (hcb.le (h6.t h7|>.t h8|>.t h9|>.t h10|>.t (hS2.t hs2))) (hcc.le (h8.t h9|>.t h10|>.t (hS2.t hs2))) (hcd.le (h9.t h10|>.t (hS2.t hs2))) (hce.le (h10.t (hS2.t hs2))) (hcf.le ((Lr D).t (hS2.t hs2)))⟩⟩
theorem smallP_ac (D : Nat) (L : Hl) (s : World) : AC Tryz.prog D 25 [] L s fun v L' s' => L = L' ∧ ∃ bg bf, v = .agg #[.slice (some ⟨bg, 0, none⟩) 1 1, .slice (some ⟨bf, 0, none⟩) 1 1] ∧ Glos s' (some ⟨bg, 0, none⟩) 1 1 smallP.globals ∧ Fncs 5 s' (some ⟨bf, 0, none⟩) 1 1 smallP.funcs := AC.pubW (smallO_ac D L s)
theorem checked_ac (D : Nat) (L : Hl) (s : World) (hG : GP s) : AC Tryz.prog D 8 [] L s fun v L' _ => v = .bool true ∧ L = L' := by
 refine AC_enter (TT := TT) (fn := Tryz.f8) TT_ok Tryz.func8 V Z Tryz.ntmps8 Z (rs := [.tmp 0]) Z [] Z <| Sr <| At Z Z <| Sr <| Jc Z Z Z (smallP_ac D _ _) ?_
 rintro _ _ s1 h1 ⟨rfl, bg1, bf1, rfl, hg1, hf1⟩
 refine Jc Z Z Z (resolve_ac D _ _ (hG.le h1) 5 smallP _ _ _ _ _ _ (hg1.le (Lr D)) (hf1.le (Lr D)) 0 [110]) ?_
 rintro _ _ s2 h2 ⟨rfl, rfl⟩
 refine Zqm Z Z <| Zqx Z Z Z <| Zqx Z Z Z <| JO_allocZ Z [_, _] Z Z ?_
 intro β3 s3 h3
 refine JO_allocZ Z [_, _] Z Z ?_
 intro β4 s4 h4
 refine Wt 1 [_, _] Y9 <| Wt 0 [_, _] Y9 <| Nt <| Sr <| Jc Z Z Z (smallP_ac D _ _) ?_
 rintro _ _ s5 h5 ⟨rfl, bg2, bf2, rfl, hg2, hf2⟩
 refine Jc Z Z Z (calls_ac D _ _ (hG.le (h1.t h2|>.t h3|>.t h4|>.t h5)) 5 smallP _ _ _ _ _ _ (hg2.le (Lr D)) (hf2.le (Lr D))) ?_
 rintro _ _ s6 h6 ⟨rfl, Ac, nc, cc, rfl, hCl⟩
 rw [sm_C] at hCl
 have hnc : nc = 1 := hCl.1
 subst hnc
 obtain ⟨bq, oq, xq, Aq, nq, cq, rfl, hxq, hcq, hIq⟩ := ClsR.at_ hCl (show 0 < 1 by decide)
 obtain rfl := Option.some.inj hxq
 rw [sm_M4] at hIq
 have hnq : nq = 0 := hIq.1
 subst hnq
 refine Zqm Z Z <| Zqx Z Z Z <| Zqx Z Z Z <| JO_allocZ Z [_, _] Z Z ?_
 intro β7 s7 h7
 refine Zqa Z Z <| Wt 0 [_, _] Y9 <| Nt <| Sr <| Jc Z Z Z (smallP_ac D _ _) ?_
 rintro _ _ s8 h8 ⟨rfl, bg3, bf3, rfl, hg3, hf3⟩
 refine JO_q (QE_field Z Z Z Z Z Z Z Z Z) Z <| Jc Z Z Z (smallP_ac D _ _) ?_
 rintro _ _ s9 h9 ⟨rfl, bg4, bf4, rfl, hg4, hf4⟩
 obtain ⟨b4, off4, x4, B1, m1, d1, B2, m2, d2, B3, m3, d3, hA4, hx4, hc4, hp4, hl4, hb4, _⟩ := Fncs.at_ hf4 (show 0 < 1 by decide)
 cases hA4
 obtain rfl := Option.some.inj hx4
 refine JO_q (QE_field Z Z Z Z Z Z Z Z Z) Z <| JO_q (QE_build [(_, _)] [_, _, _, _] Z Z Z Z Z Z) Z <| JO_bs [(_, _)] [_, _, _, _] Z Z Z Z Z Z Z Z Z ?_
 intro βs s10 h10 hcs
 refine JO_appN (sz := 4) Z Z Z Z Z Z (hc4.le h10) Z (Row.of_cells (hcs.le (Lr D)) Z Z) (by decide) ⟨by decide +kernel, by decide⟩ Z ?_
 intro βv cv s11 h11 hcv hv1 hv2
 refine JO_q (QE_build [(_, _), (_, _)] [_, _] Z Z Z Z Z Z) Z <| Jc Z Z Z (trim_ac D _ _ (hG.le (h1.t h2|>.t h3|>.t h4|>.t h5|>.t h6|>.t h7|>.t h8|>.t h9|>.t h10|>.t h11)) 5 smallQ _ _ _ _ _ _ (hg3.le (h9.t h10|>.t h11)) (smallQ_of (hcv.le (Lr D)) (hp4.le (h10.t h11)) (hl4.le (h10.t h11)) (hb4.le (h10.t h11)) hv1 hv2)) ?_
 rintro _ _ s12 h12 ⟨rfl, qt, hTq, Dg, kg, jg, Df, kf, jf, rfl, hgt, hft⟩
 obtain rfl := sm_T hTq
 refine Zqm Z Z <| Zqx Z Z Z <| Zqx Z Z Z <| JO_allocZ Z [_, _] Z Z ?_
 intro β13 s13 h13
 refine JO_allocZ Z [_, _] Z Z ?_
 intro β14 s14 h14
 refine Wt 1 [_, _] Y9 <| Wt 0 [_, _] Y9 <| Nt <| Sr <| Jc Z Z Z (smallP_ac D _ _) ?_
 rintro _ _ s15 h15 ⟨rfl, bg5, bf5, rfl, hg5, hf5⟩
 refine Jc Z Z Z (fold_ac D _ _ (hG.le (h1.t h2|>.t h3|>.t h4|>.t h5|>.t h6|>.t h7|>.t h8|>.t h9|>.t h10|>.t h11|>.t h12|>.t h13|>.t h14|>.t h15)) 5 smallP _ _ _ _ _ _ (hg5.le (Lr D)) (hf5.le (Lr D))) ?_
 rintro _ _ s16 h16 ⟨rfl, Eg, ug, wg, Ef, uf, wf, rfl, hgo, hfo⟩
 rw [sm_F1] at hfo
 obtain ⟨rfl, bo, oo, C1, r1, e1, C2, r2, e2, bo2, oo2, e3, rfl, hco, C4, r4, e4, C5, r5, e5, C6, r6, e6, hco2, hxo⟩ := fold_at hfo
 refine Zqm Z Z <| Zqx Z Z Z <| Zqx Z Z Z <| JO_allocZ Z [_, _] Z Z ?_
 intro β17 s17 h17
 refine JO_allocZ Z [_, _] Z Z ?_
 intro β18 s18 h18
 refine Wt 1 [_, _] Y9 <| Wt 0 [_, _] Y9 <| Nt <| Sr <| Jc Z Z Z (operate_ac D _ _ 11 1 2 ⟨by decide, by decide⟩ ⟨by decide, by decide⟩) ?_
 rintro _ _ s19 h19 ⟨rfl, rfl⟩
 refine Zqm Z Z <| Zqx Z Z Z <| Zqx Z Z Z <| JO_allocZ Z [_, _] Z Z ?_
 intro β20 s20 h20
 refine Zqa Z Z <| Wt 0 [_, _] Y9 <| Nt <| Sr <| Jc Z Z Z (operate_ac D _ _ 6 1 0 ⟨by decide, by decide⟩ ⟨by decide, by decide⟩) ?_
 rintro _ _ s21 h21 ⟨rfl, rfl⟩
 refine Zqm Z Z <| Zqx Z Z Z <| Zqx Z Z Z <| JO_allocZ Z [_, _] Z Z ?_
 intro β22 s22 h22
 refine Zqa Z Z <| Wt 0 [_, _] Y9 <| Nt <| Zs <| Sr <| W0 Y5 <| JO_q (Wd 7 Y5) Z <| JO_q (QE_cast (v' := .bool false) (QE_ne Z Z) (bF (by rw [sm_R]))) Z <| Zqm Z Z <| Zg Z Z <| W0 Y5 <| Zg Z Z <| JO_q (Wd 6 Y5) Z <| Zg Z Z <| JO_q (QE_cast (v' := .bool false) (QE_ne Z Z) (bF (by rw [sm_K]))) Z <| ZqF Z Z Z <| Zqm Z Z <| Zg Z Z <| W0 Y5 <| Zg Z Z <| Wl 4 Y6 <| Zg Z Z <| JO_q (QE_cast (v' := .bool false) (QE_ne Z Z) (bF (by rw [sm_KQ]))) Z ?_
 refine ZqF Z Z Z <| Zqm Z Z <| Zg Z Z <| W0 Y5 <| Zg Z Z <| Wl 2 Y6 <| Zg Z Z <| JO_q (QE_cast (v' := .bool false) (QE_ne Z Z) (bF (by rw [sm_F]))) Z <| ZqF Z Z Z <| Zqm Z Z <| Zg Z Z <| W0 Y5 <| Zg Z Z <| Wl 1 Y6 <| Zg Z Z <| JO_q (QE_cast (v' := .bool false) (QE_ne Z Z) (bF (by exact sm_O.1))) Z <| ZqF Z Z Z <| Zqm Z Z <| Zg Z Z <| Zqm Z Z <| Zg Z Z <| Ws Y4 <| Zg Z Z <| JO_q (QE_cast (v' := .bool false) (QE_ne Z Z) (bF (by rfl))) Z ?_
 refine ZqF Z Z Z <| Zqm Z Z <| Zg Z Z <| Wb Y5 <| Zg Z Z <| Wl 3 Y6 <| Zg Z Z <| Ws Y4 <| Zg Z Z <| JO_q (QE_cast (v' := .bool false) (QE_ne Z Z) (bF (by rfl))) Z <| ZqF Z Z Z <| Zqm Z Z <| Zg Z Z <| Wb Y5 <| Zg Z Z <| Wl 3 Y6 <| Zg Z Z <| JO_q (QE_iaN (j := 0) Z Z Z Z Z Z (by decide)) Z <| Zg Z Z <| JO_q (QE_fa Z Z Z Z) Z <| Zg Z Z <| JO_q (QE_ldsR 3 Z Z Z (hco.le (h17.t h18|>.t h19|>.t h20|>.t h21|>.t h22)) Z) Z <| Zg Z Z <| Ws Y4 <| Zg Z Z <| JO_q (QE_cast (v' := .bool false) (QE_ne Z Z) (bF (by rfl))) Z ?_
 refine ZqF Z Z Z <| Nt <| Zz Z <| Zk <| Zt <| Sr <| JO_q (QE_build [(_, _)] [_, _, _, _, _] Z Z Z Z Z Z) Z <| Jc Z Z Z (num9_ac D _ _ 6) ?_
 rintro _ _ s23 h23 ⟨rfl, rfl⟩
 refine JO_bs [(_, _), (_, _)] [_, _, _, _, _, _, _, _, _, _] Z Z Z Z Z Z Z Z Z ?_
 intro βg s24 h24 hcg
 refine JO_q (QE_build [(_, _), (_, _), (_, _)] [_, _, _, _, _] Z Z Z Z Z Z) Z <| JO_allocZ Z [_, _, _, _, _] Z Z ?_
 intro β25 s25 h25
 refine Wt 0 [_, _, _, _, _] Y9 <| Nt <| Zs <| JC_draw drawsMixed 44 Z _ (fun _ h => h) ?_
 intro s26 h26
 refine JA_1 0 V <| Jb Z trivial Z Z Z (smallP_ac D _ _) ?_
 rintro _ _ s27 h27 ⟨rfl, bg6, bf6, rfl, hg6, hf6⟩
 refine ⟨fun _ _ h => h, ?_⟩
 refine JA_1 1 V <| Jb Z trivial Z Z Z (program_ac D _ _ (hG.le (h1.t h2|>.t h3|>.t h4|>.t h5|>.t h6|>.t h7|>.t h8|>.t h9|>.t h10|>.t h11|>.t h12|>.t h13|>.t h14|>.t h15|>.t h16|>.t h17|>.t h18|>.t h19|>.t h20|>.t h21|>.t h22|>.t h23|>.t h24|>.t h25|>.t h26|>.t h27)) 5 smallP _ _ _ _ _ _ (hg6.le (Lr D)) (hf6.le (Lr D))) ?_
 rintro _ _ s28 h28 ⟨rfl, rfl⟩
 refine ⟨fun _ _ h => h, ?_⟩
 refine za 2 Z (QE_field Z Z Z Z Z Z Z Z Z) Z <| za 3 Z (QE_cast (v' := .bool true) (QE_eq Z Z) (bT (by rw [sm_K]))) Z <| za 4 Z (QE_mv Z) Z <| zg 5 Z ⟨_, Z, Z⟩ (QE_ldA 9 [_, _] Z Z Z Z Z) Z <| zg 6 Z ⟨_, Z, Z⟩ (QE_build [(_, _)] [_, _] Z Z Z Z Z Z) Z <| zg 7 Z ⟨_, Z, Z⟩ (QE_cast (v' := .bool true) (QE_aeq Z Z (eqMean _ _ _ _)) (bT ⟨by rw [sm_R], by rw [sm_R]⟩)) Z <| za 8 Z (QE_pickT Z Z) Z <| za 9 Z (QE_mv Z) Z <| zg 10 Z ⟨_, Z, Z⟩ (QE_mv Z) Z <| zg 11 Z ⟨_, Z, Z⟩ (QE_iaN (j := 0) Z Z Z Z Z Z (by decide)) Z ?_
 refine zg 12 Z ⟨_, Z, Z⟩ (QE_ldsR0 Z Z Z (hcq.le (h7.t h8|>.t h9|>.t h10|>.t h11|>.t h12|>.t h13|>.t h14|>.t h15|>.t h16|>.t h17|>.t h18|>.t h19|>.t h20|>.t h21|>.t h22|>.t h23|>.t h24|>.t h25|>.t h26)) Z) Z <| zg 13 Z ⟨_, Z, Z⟩ (QE_lenS Z Z Z) Z <| zg 14 Z ⟨_, Z, Z⟩ (QE_cast (v' := .bool true) (QE_eq Z Z) (bT (by rfl))) Z <| za 15 Z (QE_pickT Z Z) Z <| za 16 Z (QE_mv Z) Z <| zg 17 Z ⟨_, Z, Z⟩ (QE_ldA 6 [_, _] Z Z Z Z Z) Z <| JA_1 18 V <| Jb Z ⟨_, Z, Z⟩ Z Z Z (smallP_ac D _ _) ?_
 rintro _ _ s29 h29 ⟨rfl, bg7, bf7, rfl, hg7, hf7⟩
 refine ⟨fun _ _ h => h, ?_⟩
 refine JA_1 19 V <| Jb Z ⟨_, Z, Z⟩ Z Z Z (sameP_ac D _ _ 5 smallP _ _ _ _ _ _ (hgt.le (h13.t h14|>.t h15|>.t h16|>.t h17|>.t h18|>.t h19|>.t h20|>.t h21|>.t h22|>.t h23|>.t h24|>.t h25|>.t h26|>.t h27|>.t h28|>.t h29)) (hft.le (h13.t h14|>.t h15|>.t h16|>.t h17|>.t h18|>.t h19|>.t h20|>.t h21|>.t h22|>.t h23|>.t h24|>.t h25|>.t h26|>.t h27|>.t h28|>.t h29)) 5 _ _ _ _ _ _ (hg7.le (Lr D)) (hf7.le (Lr D))) ?_
 rintro _ _ s30 h30 ⟨rfl, rfl⟩
 refine ⟨fun _ _ h => h, ?_⟩
 refine za 20 Z (QE_pickT Z Z) Z <| za 21 Z (QE_mv Z) Z <| zg 22 Z ⟨_, Z, Z⟩ (We Y4) Z <| zg 23 Z ⟨_, Z, Z⟩ (Wd 4 Y5) Z <| zg 24 Z ⟨_, Z, Z⟩ (QE_iaN (j := 0) Z Z Z Z Z Z (by decide)) Z <| zg 25 Z ⟨_, Z, Z⟩ (QE_fa Z Z Z Z) Z <| zg 26 Z ⟨_, Z, Z⟩ (QE_ldsR 3 Z Z Z (hco.le (h17.t h18|>.t h19|>.t h20|>.t h21|>.t h22|>.t h23|>.t h24|>.t h25|>.t h26)) Z) Z <| zg 27 Z ⟨_, Z, Z⟩ (QE_iaN (j := 0) Z Z Z Z Z Z (by decide)) Z <| zg 28 Z ⟨_, Z, Z⟩ (QE_fa Z Z Z Z) Z ?_
 refine zg 29 Z ⟨_, Z, Z⟩ (QE_ldsR 2 Z Z Z (hco2.le (h17.t h18|>.t h19|>.t h20|>.t h21|>.t h22|>.t h23|>.t h24|>.t h25|>.t h26)) Z) Z <| zg 30 Z ⟨_, Z, Z⟩ (QE_ldA 0 [_, _, _, _, _] Z Z Z Z Z) Z <| JA_1 31 V <| JB_bs Z ⟨_, Z, Z⟩ [(_, _)] [_, _, _, _, _] Z Z Z Z Z Z Z Z Z ?_
 intro βh s31 h31 hch
 refine JA_1 32 V <| Jb Z ⟨_, Z, Z⟩ Z Z Z (sameX_ac D 4 _ _ 3 _ _ _ _ _ _ [sumD] (hxo.le (h17.t h18|>.t h19|>.t h20|>.t h21|>.t h22|>.t h23|>.t h24|>.t h25|>.t h26|>.t h27|>.t h28|>.t h29|>.t h30|>.t h31)) (sumD_of (hcg.le (h25.t h26|>.t h27|>.t h28|>.t h29|>.t h30|>.t h31)) (hch.le (Lr D)))) ?_
 rintro _ _ s32 h32 ⟨rfl, rfl⟩
 refine ⟨fun _ _ h => h, ?_⟩
 refine za 33 Z (QE_pickT Z Z) Z <| za 34 Z (QE_mv Z) Z <| zg 35 Z ⟨_, Z, Z⟩ (QE_mv Z) Z <| zg 36 Z ⟨_, Z, Z⟩ (QE_cast (v' := .bool true) (QE_eq Z Z) (bT (by rw [if_pos sm_O.1]; exact sm_O.2.2))) Z <| za 37 Z (QE_pickT Z Z) Z <| za 38 Z (QE_mv Z) Z <| zg 39 Z ⟨_, Z, Z⟩ (QE_ldA 1 [_, _] Z Z Z Z Z) Z <| JA_1 40 V <| Jb Z ⟨_, Z, Z⟩ Z Z Z (at_ac D _ _ _ _) ?_
 rintro _ _ s33 h33 ⟨rfl, rfl⟩
 refine ⟨fun _ _ h => h, ?_⟩
 refine zg 41 Z ⟨_, Z, Z⟩ (QE_cast (v' := .bool true) (QE_aeq Z Z (eqFault _ _ _ _)) (bT sm_Z)) Z <| za 42 Z (QE_pickT Z Z) Z <| za 43 Z (QE_as Z) Z <| JA_done V <| Zt <| Zo <| ?_
 refine retQ_mk [_, _, _, _, _, _, _, _, _, _] L (.inr Z) (.tmp Z (.nil)) Z (h1.t h2|>.t h3|>.t h4|>.t h5|>.t h6|>.t h7|>.t h8|>.t h9|>.t h10|>.t h11|>.t h12|>.t h13|>.t h14|>.t h15|>.t h16|>.t h17|>.t h18|>.t h19|>.t h20|>.t h21|>.t h22|>.t h23|>.t h24|>.t h25|>.t h26|>.t h27|>.t h28|>.t h29|>.t h30|>.t h31|>.t h32|>.t h33) (fun sR hS2 => ?_)
 exact ⟨rfl, rfl⟩
def nOf (p : Prg) (kd : Int) : Nat := if kd = 4 then p.funcs.length else p.globals.length
theorem mean_idx {p : Prg} {x : Fnc} {nm : Str} {kd : Int} (hk : kd = 3 ∨ kd = 4) (h : (meanP p x nm).1.1 = kd) : ∃ j : Nat, (meanP p x nm).1.2 = (j : Int) ∧ j < nOf p kd := by
  cases h2 : (meanP p x nm).2 with
  | false => rw [mean_zero h2] at h; simp only at h; omega
  | true =>
    rcases mean_kind h2 with h3 | ⟨h3, k, h4, h5⟩ | ⟨h3, k, h4, h5⟩
    · omega
    · exact ⟨k, h4, by rw [nOf, if_neg O]; exact h5⟩
    · exact ⟨k, h4, by rw [nOf, if_pos O]; exact h5⟩
theorem kd_at {j : Nat} (h : 4 ≤ j) (h2 : j < 14) : ∃ kd, ([Value.int .i64 0, .int .i64 0, .int .i64 0, .int .i64 0, .int .i64 3, .int .i64 4, .int .i64 5, .int .i64 9, .int .i64 10, .int .i64 6, .int .i64 1, .int .i64 2, .int .i64 7, .int .i64 8] : List Value)[j]? = some (.int .i64 kd) ∧ (kd = 4 ∨ kd = 5 → (j : Int) = 5 ∨ (j : Int) = 6) ∧ ∀ x y, comp kd x y = opP (j : Int) x y := by
  have h3 : j = 4 ∨ j = 5 ∨ j = 6 ∨ j = 7 ∨ j = 8 ∨ j = 9 ∨ j = 10 ∨ j = 11 ∨ j = 12 ∨ j = 13 := by omega
  rcases h3 with rfl | rfl | rfl | rfl | rfl | rfl | rfl | rfl | rfl | rfl <;> exact ⟨_, rfl, by decide, fun x y => by simp [comp, opP]⟩
theorem hold_at {j : Nat} (h : j < 8) {x y : Int} (hx : 0 ≤ x) (hy : 0 ≤ y) {a0 a1 a2 a3 a4 a5 a6 a7 : Bool} (h0 : a0 = decide (x = y)) (h1 : a1 = !decide (x = y)) (h2 : a2 = decide (x < y)) (h3 : a3 = decide (x ≤ y)) (h4 : a4 = decide (y < x)) (h5 : a5 = decide (y ≤ x)) (h6 : a6 = (!decide (x = 0) && !decide (y = 0))) (h7 : a7 = (!decide (x = 0) || !decide (y = 0))) :
    ([Value.bool a0, .bool a1, .bool a2, .bool a3, .bool a4, .bool a5, .bool a6, .bool a7] : List Value)[j]? = some (.bool (holdB ((j + 14 : Nat) : Int) x y)) := by
  subst h0 h1 h2 h3 h4 h5 h6 h7
  have hj : j = 0 ∨ j = 1 ∨ j = 2 ∨ j = 3 ∨ j = 4 ∨ j = 5 ∨ j = 6 ∨ j = 7 := by omega
  rcases hj with rfl | rfl | rfl | rfl | rfl | rfl | rfl | rfl <;> rfl
theorem operR_ac (D : Nat) (L : Hl) (s : World) (k : Int) (x y : Int) (hx : U32 x) (hy : U32 y) (hk : 1 ≤ k ∧ k ≤ 21) : AC Tryz.prog D 93 [.int .i64 k, .int .u32 x, .int .u32 y] L s fun v L' _ => v = .tuple #[.int .u32 (if (oprF k y).1 = 0 then opP k x y else 0), .bool (decide ((oprF k y).1 = 0))] ∧ L = L' := by
 have g8 : ¬ (k < 1 ∨ 21 < k) := by omega
 have hx0 := hx.1
 have hy0 := hy.1
 have hx1 := hx.2
 have hy1 := hy.2
 refine AC_enter (TT := TT) (fn := Tryz.f93) TT_ok Tryz.func93 V Z Tryz.ntmps93 Z (rs := [.tmp 6, .tmp 7]) Z [(0, _), (1, _), (2, _)] Z <| Sr <| Zqa Z Z <| At Z Z <| Zs <| ?_
 refine JC_cutB 19 ((k = 5 ∨ k = 6) ∧ y = 0) ?_ ?_
 ·
  refine Zr <| Zqm Z Z <| Zqeq Z Z Z <| Zqm Z Z <| ?_
  refine JO_caseD (t := 12) Z (fun c2 => ?_) (fun c2 => ?_)
  ·
   refine Wf Y4 <| Wf Y4 <| ZqT Z Z Z <| Zqm Z Z <| Zg Z Z <| Zqm Z Z <| Zg Z Z <| Zqeq Z Z Z <| ZqT Z Z Z <| Zn <| ?_
   refine thenQ_n (MidB.mk (Lr D) Sb Z (decide_eq_decide.2 O))
  refine Zg Z Z <| Zqm Z Z <| Zg Z Z <| Zqeq Z Z Z <| ZqF Z Z Z <| Zqm Z Z <| ?_
  refine JO_caseD (t := 16) Z (fun c3 => ?_) (fun c3 => ?_)
  ·
   refine Zg Z Z <| Zqm Z Z <| Zg Z Z <| Zqeq Z Z Z <| ZqT Z Z Z <| Zn <| ?_
   refine thenQ_n (MidB.mk (Lr D) Sb Z (decide_eq_decide.2 O))
  refine Wf Y4 <| Wf Y4 <| ZqF Z Z Z <| Zn <| ?_
  refine thenQ_n (MidB.mk (Lr D) Sb Z ((decide_eq_false O).symm))
 intro s1 h1
 refine JC_ifD Z (fun c4 => ?_) (fun c4 => ?_)
 ·
  have hE : oprF k y = (26, -3) := (if_neg g8).trans (if_pos c4)
  refine Sr <| Zqa Z Z <| At Z Z <| Zo <| Zu <| ?_
  refine retQ_mk [] L (.inr Z) (.tmp Z (.tmp Z (.nil))) Z h1 (fun sR hS2 => ?_)
  refine ⟨?_, Z⟩
  first
    | (rw [hE, if_neg (by decide)]; rfl)
    | (rw [hE]; show Value.tuple #[.int .u32 _, .bool true] = .tuple #[.int .u32 (opP _ x y), .bool true]; rw [← hO])
    | (rw [hE]; show Value.tuple #[.int .u32 _, .bool true] = .tuple #[.int .u32 (opP _ x y), .bool true]; rw [← hO]; rfl)
 have g16 := c4
 have hE : oprF k y = (0, 0) := (if_neg g8).trans (if_neg g16)
 refine Zk <| Zt <| Sr <| JO_bs [(_, _), (_, _), (_, _), (_, _), (_, _), (_, _), (_, _), (_, _), (_, _), (_, _), (_, _), (_, _), (_, _), (_, _)] [_, _, _, _, _, _, _, _, _, _, _, _, _, _] Z Z Z Z Z Z Z Z Z ?_
 intro βt s5 h5 hct
 refine At Z Z <| Zs <| Sr <| Zqm Z Z <| Zqeq Z Z Z <| Nt <| ?_
 refine JC_ifD Z (fun c6 => ?_) (fun c6 => ?_)
 ·
  have g1 := c6
  have hO : (if decide (x = 0) = true then 1 else 0 : Int) = opP k x y := by rw [g1]; simp [opP, holdB]
  refine Sr <| Zqm Z Z <| Zqeq Z Z Z <| Jc Z Z Z (truth_ac D _ _ _) ?_
  rintro _ _ s7 h7 ⟨rfl, rfl⟩
  refine Zqa Z Z <| At Z Z <| Zo <| Zu <| ?_
  refine retQ_mk [] L (.inr Z) (.tmp Z (.tmp Z (.nil))) Z (h1.t h5|>.t h7) (fun sR hS2 => ?_)
  refine ⟨?_, Z⟩
  first
    | (rw [hE, if_neg (by decide)]; rfl)
    | (rw [hE]; show Value.tuple #[.int .u32 _, .bool true] = .tuple #[.int .u32 (opP _ x y), .bool true]; rw [← hO])
    | (rw [hE]; show Value.tuple #[.int .u32 _, .bool true] = .tuple #[.int .u32 (opP _ x y), .bool true]; rw [← hO]; rfl)
 refine Zk <| Zt <| Zs <| Sr <| Zqm Z Z <| Zqeq Z Z Z <| Nt <| ?_
 refine JC_ifD Z (fun c8 => ?_) (fun c8 => ?_)
 ·
  have g2 := c8
  have hO : w32 (0 - x) = opP k x y := by rw [g2]; rfl
  refine Sr <| Zqm Z Z <| JO_q (QE_cast (QE_sub Z Z) (show Value.int .u32 (IntKind.u32.wrap (0 - x)) = .int .u32 (w32 (0 - x)) by rw [wrapW])) Z <| Zqa Z Z <| At Z Z <| Zo <| Zu <| ?_
  refine retQ_mk [] L (.inr Z) (.tmp Z (.tmp Z (.nil))) Z (h1.t h5) (fun sR hS2 => ?_)
  refine ⟨?_, Z⟩
  first
    | (rw [hE, if_neg (by decide)]; rfl)
    | (rw [hE]; show Value.tuple #[.int .u32 _, .bool true] = .tuple #[.int .u32 (opP _ x y), .bool true]; rw [← hO])
    | (rw [hE]; show Value.tuple #[.int .u32 _, .bool true] = .tuple #[.int .u32 (opP _ x y), .bool true]; rw [← hO]; rfl)
 refine Zk <| Zt <| Zs <| Sr <| Zqm Z Z <| Zqeq Z Z Z <| Nt <| ?_
 refine JC_ifD Z (fun c9 => ?_) (fun c9 => ?_)
 ·
  have g3 := c9
  have hO : 4294967295 - x = opP k x y := by rw [g3]; rfl
  refine Sr <| Zqm Z Z <| JO_q (QE_sub' (c := 4294967295 - x) Z Z (by rw [wrapW, w32]; omega)) Z <| Zqa Z Z <| At Z Z <| Zo <| Zu <| ?_
  refine retQ_mk [] L (.inr Z) (.tmp Z (.tmp Z (.nil))) Z (h1.t h5) (fun sR hS2 => ?_)
  refine ⟨?_, Z⟩
  first
    | (rw [hE, if_neg (by decide)]; rfl)
    | (rw [hE]; show Value.tuple #[.int .u32 _, .bool true] = .tuple #[.int .u32 (opP _ x y), .bool true]; rw [← hO])
    | (rw [hE]; show Value.tuple #[.int .u32 _, .bool true] = .tuple #[.int .u32 (opP _ x y), .bool true]; rw [← hO]; rfl)
 refine Zk <| Zt <| Zs <| Sr <| Zqm Z Z <| Zqlt Z Z Z <| Nt <| ?_
 refine JC_ifD Z (fun c10 => ?_) (fun c10 => ?_)
 ·
  obtain ⟨j, rfl⟩ := Int.eq_ofNat_of_zero_le (show 0 ≤ k by omega)
  obtain ⟨kd, hkd, hkz, hkc⟩ := kd_at (j := j) O O
  have hO := hkc x y
  refine Sr <| Zqm Z Z <| Zqm Z Z <| JO_q (QE_ia1 Z Z Z Z Z Z (show j < 14 by omega)) Z <| JO_q (QE_ldsR0 Z Z Z (CellsAt.nth (hct.le (Lr D)) hkd) Z) Z <| Zqm Z Z <| Zqm Z Z <| Jc Z Z Z (computed_ac D _ _ kd x y hx hy (fun h h0 => g16 ⟨hkz h, h0⟩)) ?_
  rintro _ _ s11 h11 ⟨rfl, rfl⟩
  refine Zqa Z Z <| At Z Z <| Zo <| Zu <| ?_
  refine retQ_mk [] L (.inr Z) (.tmp Z (.tmp Z (.nil))) Z (h1.t h5|>.t h11) (fun sR hS2 => ?_)
  refine ⟨?_, Z⟩
  first
    | (rw [hE, if_neg (by decide)]; rfl)
    | (rw [hE]; show Value.tuple #[.int .u32 _, .bool true] = .tuple #[.int .u32 (opP _ x y), .bool true]; rw [← hO])
    | (rw [hE]; show Value.tuple #[.int .u32 _, .bool true] = .tuple #[.int .u32 (opP _ x y), .bool true]; rw [← hO]; rfl)
 obtain ⟨j, rfl⟩ : ∃ j : Nat, k = ((j + 14 : Nat) : Int) := ⟨(k - 14).toNat, by omega⟩
 have hj : j < 8 := by omega
 have hO : (if holdB ((j + 14 : Nat) : Int) x y = true then 1 else 0 : Int) = opP ((j + 14 : Nat) : Int) x y := by rw [opP, if_pos (c := 14 ≤ ((j + 14 : Nat) : Int) ∨ ((j + 14 : Nat) : Int) = 1) (.inl O)]
 refine Zk <| Zt <| Zs <| ?_
 rcases (by omega : (x < y ∧ x = 0) ∨ (x < y ∧ 0 < x) ∨ (x = y ∧ x = 0) ∨ (x = y ∧ 0 < x) ∨ (y < x ∧ y = 0) ∨ (y < x ∧ 0 < y)) with g12 | g12 | g12 | g12 | g12 | g12
 ·
  refine Zr <| Zqm Z Z <| Zqm Z Z <| JO_q (QE_cast (v' := .bool false) (QE_eq Z Z) (bZ O)) Z <| Zqm Z Z <| Zqm Z Z <| JO_q (QE_cast (v' := .bool true) (QE_ne Z Z) (bN O)) Z <| Zqm Z Z <| Zqm Z Z <| JO_q (QE_cast (v' := .bool true) (QE_lt Z Z) (bT O)) Z <| Zqm Z Z <| Zqm Z Z <| JO_q (QE_cast (v' := .bool true) (QE_lt Z Z) (bT O)) Z <| Zqm Z Z <| Wf Y4 <| Wf Y4 <| Wf Y4 <| ZqT Z Z Z <| Zqm Z Z <| Zqm Z Z <| JO_q (QE_cast (v' := .bool false) (QE_lt Z Z) (bZ O)) Z <| Zqm Z Z <| Zqm Z Z <| JO_q (QE_cast (v' := .bool false) (QE_lt Z Z) (bZ O)) Z ?_
  refine Zqm Z Z <| Zg Z Z <| Zqm Z Z <| Zg Z Z <| Zqm Z Z <| Zg Z Z <| JO_q (QE_cast (v' := .bool false) (QE_eq Z Z) (bZ O)) Z <| ZqF Z Z Z <| Zqm Z Z <| JO_q (QE_cast (v' := .bool false) (QE_gt Z Z) (bZ O)) Z <| Zqm Z Z <| Wf Y4 <| Wf Y4 <| ZqF Z Z Z <| Zqm Z Z <| JO_q (QE_cast (v' := .bool false) (QE_gt Z Z) (bZ O)) Z <| Zqm Z Z <| Zg Z Z <| Zqm Z Z <| Zg Z Z <| JO_q (QE_cast (v' := .bool true) (QE_gt Z Z) (bT O)) Z <| ZqF Z Z Z <| JO_bs [(_, _), (_, _), (_, _), (_, _), (_, _), (_, _), (_, _), (_, _)] [_, _, _, _, _, _, _, _] Z Z Z Z Z Z Z Z Z ?_
  intro βu s12 h12 hcu
  have hcv := CellsAt.nth hcu (hold_at (j := j) (x := x) (y := y) hj hx0 hy0 (by first | rfl | grind | (rw [Bool.eq_iff_iff]; simp; omega)) (by first | rfl | grind | (rw [Bool.eq_iff_iff]; simp; omega)) (by first | rfl | grind | (rw [Bool.eq_iff_iff]; simp; omega)) (by first | rfl | grind | (rw [Bool.eq_iff_iff]; simp; omega)) (by first | rfl | grind | (rw [Bool.eq_iff_iff]; simp; omega)) (by first | rfl | grind | (rw [Bool.eq_iff_iff]; simp; omega)) (by first | rfl | grind | (rw [Bool.eq_iff_iff]; simp; omega)) (by first | rfl | grind | (rw [Bool.eq_iff_iff]; simp; omega)))
  refine At Z Z <| Sr <| Zqm Z Z <| Zqm Z Z <| JO_q (QE_sub' (c := (j : Int)) Z Z (by rw [w64 O O]; omega)) Z <| JO_q (QE_ia1 Z Z Z Z Z Z hj) Z <| JO_q (QE_ldsR0 Z Z Z (hcv.le (Lr D)) Z) Z <| Jc Z Z Z (truth_ac D _ _ _) ?_
  rintro _ _ s13 h13 ⟨rfl, rfl⟩
  refine Zqa Z Z <| At Z Z <| Zo <| ?_
  refine retQ_mk [] L (.inr Z) (.tmp Z (.tmp Z (.nil))) Z (h1.t h5|>.t h12|>.t h13) (fun sR hS2 => ?_)
  refine ⟨?_, Z⟩
  first
    | (rw [hE, if_neg (by decide)]; rfl)
    | (rw [hE]; show Value.tuple #[.int .u32 _, .bool true] = .tuple #[.int .u32 (opP _ x y), .bool true]; rw [← hO])
    | (rw [hE]; show Value.tuple #[.int .u32 _, .bool true] = .tuple #[.int .u32 (opP _ x y), .bool true]; rw [← hO]; rfl)
 ·
  refine Zr <| Zqm Z Z <| Zqm Z Z <| JO_q (QE_cast (v' := .bool false) (QE_eq Z Z) (bZ O)) Z <| Zqm Z Z <| Zqm Z Z <| JO_q (QE_cast (v' := .bool true) (QE_ne Z Z) (bN O)) Z <| Zqm Z Z <| Zqm Z Z <| JO_q (QE_cast (v' := .bool true) (QE_lt Z Z) (bT O)) Z <| Zqm Z Z <| Zqm Z Z <| JO_q (QE_cast (v' := .bool true) (QE_lt Z Z) (bT O)) Z <| Zqm Z Z <| Wf Y4 <| Wf Y4 <| Wf Y4 <| ZqT Z Z Z <| Zqm Z Z <| Zqm Z Z <| JO_q (QE_cast (v' := .bool false) (QE_lt Z Z) (bZ O)) Z <| Zqm Z Z <| Zqm Z Z <| JO_q (QE_cast (v' := .bool false) (QE_lt Z Z) (bZ O)) Z ?_
  refine Zqm Z Z <| Zg Z Z <| Zqm Z Z <| Zg Z Z <| Zqm Z Z <| Zg Z Z <| JO_q (QE_cast (v' := .bool false) (QE_eq Z Z) (bZ O)) Z <| ZqF Z Z Z <| Zqm Z Z <| JO_q (QE_cast (v' := .bool true) (QE_gt Z Z) (bT O)) Z <| Zqm Z Z <| Zg Z Z <| Zqm Z Z <| Zg Z Z <| JO_q (QE_cast (v' := .bool true) (QE_gt Z Z) (bT O)) Z <| ZqT Z Z Z <| Zqm Z Z <| JO_q (QE_cast (v' := .bool true) (QE_gt Z Z) (bT O)) Z <| Zqm Z Z <| Wf Y4 <| Wf Y4 <| ZqT Z Z Z <| JO_bs [(_, _), (_, _), (_, _), (_, _), (_, _), (_, _), (_, _), (_, _)] [_, _, _, _, _, _, _, _] Z Z Z Z Z Z Z Z Z ?_
  intro βu s14 h14 hcu
  have hcv := CellsAt.nth hcu (hold_at (j := j) (x := x) (y := y) hj hx0 hy0 (by first | rfl | grind | (rw [Bool.eq_iff_iff]; simp; omega)) (by first | rfl | grind | (rw [Bool.eq_iff_iff]; simp; omega)) (by first | rfl | grind | (rw [Bool.eq_iff_iff]; simp; omega)) (by first | rfl | grind | (rw [Bool.eq_iff_iff]; simp; omega)) (by first | rfl | grind | (rw [Bool.eq_iff_iff]; simp; omega)) (by first | rfl | grind | (rw [Bool.eq_iff_iff]; simp; omega)) (by first | rfl | grind | (rw [Bool.eq_iff_iff]; simp; omega)) (by first | rfl | grind | (rw [Bool.eq_iff_iff]; simp; omega)))
  refine At Z Z <| Sr <| Zqm Z Z <| Zqm Z Z <| JO_q (QE_sub' (c := (j : Int)) Z Z (by rw [w64 O O]; omega)) Z <| JO_q (QE_ia1 Z Z Z Z Z Z hj) Z <| JO_q (QE_ldsR0 Z Z Z (hcv.le (Lr D)) Z) Z <| Jc Z Z Z (truth_ac D _ _ _) ?_
  rintro _ _ s15 h15 ⟨rfl, rfl⟩
  refine Zqa Z Z <| At Z Z <| Zo <| ?_
  refine retQ_mk [] L (.inr Z) (.tmp Z (.tmp Z (.nil))) Z (h1.t h5|>.t h14|>.t h15) (fun sR hS2 => ?_)
  refine ⟨?_, Z⟩
  first
    | (rw [hE, if_neg (by decide)]; rfl)
    | (rw [hE]; show Value.tuple #[.int .u32 _, .bool true] = .tuple #[.int .u32 (opP _ x y), .bool true]; rw [← hO])
    | (rw [hE]; show Value.tuple #[.int .u32 _, .bool true] = .tuple #[.int .u32 (opP _ x y), .bool true]; rw [← hO]; rfl)
 ·
  refine Zr <| Zqm Z Z <| Zqm Z Z <| JO_q (QE_cast (v' := .bool true) (QE_eq Z Z) (bT O)) Z <| Zqm Z Z <| Zqm Z Z <| JO_q (QE_cast (v' := .bool false) (QE_ne Z Z) (bF O)) Z <| Zqm Z Z <| Zqm Z Z <| JO_q (QE_cast (v' := .bool false) (QE_lt Z Z) (bZ O)) Z <| Zqm Z Z <| Zqm Z Z <| JO_q (QE_cast (v' := .bool false) (QE_lt Z Z) (bZ O)) Z <| Zqm Z Z <| Zg Z Z <| Zqm Z Z <| Zg Z Z <| Zqm Z Z <| Zg Z Z <| JO_q (QE_cast (v' := .bool true) (QE_eq Z Z) (bT O)) Z <| ZqF Z Z Z <| Zqm Z Z <| Zqm Z Z <| JO_q (QE_cast (v' := .bool false) (QE_lt Z Z) (bZ O)) Z <| Zqm Z Z <| Zqm Z Z <| ?_
  refine JO_q (QE_cast (v' := .bool false) (QE_lt Z Z) (bZ O)) Z <| Zqm Z Z <| Zg Z Z <| Zqm Z Z <| Zg Z Z <| Zqm Z Z <| Zg Z Z <| JO_q (QE_cast (v' := .bool true) (QE_eq Z Z) (bT O)) Z <| ZqF Z Z Z <| Zqm Z Z <| JO_q (QE_cast (v' := .bool false) (QE_gt Z Z) (bZ O)) Z <| Zqm Z Z <| Wf Y4 <| Wf Y4 <| ZqF Z Z Z <| Zqm Z Z <| JO_q (QE_cast (v' := .bool false) (QE_gt Z Z) (bZ O)) Z <| Zqm Z Z <| Zg Z Z <| Zqm Z Z <| Zg Z Z <| JO_q (QE_cast (v' := .bool false) (QE_gt Z Z) (bZ O)) Z <| ZqF Z Z Z ?_
  refine JO_bs [(_, _), (_, _), (_, _), (_, _), (_, _), (_, _), (_, _), (_, _)] [_, _, _, _, _, _, _, _] Z Z Z Z Z Z Z Z Z ?_
  intro βu s16 h16 hcu
  have hcv := CellsAt.nth hcu (hold_at (j := j) (x := x) (y := y) hj hx0 hy0 (by first | rfl | grind | (rw [Bool.eq_iff_iff]; simp; omega)) (by first | rfl | grind | (rw [Bool.eq_iff_iff]; simp; omega)) (by first | rfl | grind | (rw [Bool.eq_iff_iff]; simp; omega)) (by first | rfl | grind | (rw [Bool.eq_iff_iff]; simp; omega)) (by first | rfl | grind | (rw [Bool.eq_iff_iff]; simp; omega)) (by first | rfl | grind | (rw [Bool.eq_iff_iff]; simp; omega)) (by first | rfl | grind | (rw [Bool.eq_iff_iff]; simp; omega)) (by first | rfl | grind | (rw [Bool.eq_iff_iff]; simp; omega)))
  refine At Z Z <| Sr <| Zqm Z Z <| Zqm Z Z <| JO_q (QE_sub' (c := (j : Int)) Z Z (by rw [w64 O O]; omega)) Z <| JO_q (QE_ia1 Z Z Z Z Z Z hj) Z <| JO_q (QE_ldsR0 Z Z Z (hcv.le (Lr D)) Z) Z <| Jc Z Z Z (truth_ac D _ _ _) ?_
  rintro _ _ s17 h17 ⟨rfl, rfl⟩
  refine Zqa Z Z <| At Z Z <| Zo <| ?_
  refine retQ_mk [] L (.inr Z) (.tmp Z (.tmp Z (.nil))) Z (h1.t h5|>.t h16|>.t h17) (fun sR hS2 => ?_)
  refine ⟨?_, Z⟩
  first
    | (rw [hE, if_neg (by decide)]; rfl)
    | (rw [hE]; show Value.tuple #[.int .u32 _, .bool true] = .tuple #[.int .u32 (opP _ x y), .bool true]; rw [← hO])
    | (rw [hE]; show Value.tuple #[.int .u32 _, .bool true] = .tuple #[.int .u32 (opP _ x y), .bool true]; rw [← hO]; rfl)
 ·
  refine Zr <| Zqm Z Z <| Zqm Z Z <| JO_q (QE_cast (v' := .bool true) (QE_eq Z Z) (bT O)) Z <| Zqm Z Z <| Zqm Z Z <| JO_q (QE_cast (v' := .bool false) (QE_ne Z Z) (bF O)) Z <| Zqm Z Z <| Zqm Z Z <| JO_q (QE_cast (v' := .bool false) (QE_lt Z Z) (bZ O)) Z <| Zqm Z Z <| Zqm Z Z <| JO_q (QE_cast (v' := .bool false) (QE_lt Z Z) (bZ O)) Z <| Zqm Z Z <| Zg Z Z <| Zqm Z Z <| Zg Z Z <| Zqm Z Z <| Zg Z Z <| JO_q (QE_cast (v' := .bool true) (QE_eq Z Z) (bT O)) Z <| ZqF Z Z Z <| Zqm Z Z <| Zqm Z Z <| JO_q (QE_cast (v' := .bool false) (QE_lt Z Z) (bZ O)) Z <| Zqm Z Z <| Zqm Z Z <| ?_
  refine JO_q (QE_cast (v' := .bool false) (QE_lt Z Z) (bZ O)) Z <| Zqm Z Z <| Zg Z Z <| Zqm Z Z <| Zg Z Z <| Zqm Z Z <| Zg Z Z <| JO_q (QE_cast (v' := .bool true) (QE_eq Z Z) (bT O)) Z <| ZqF Z Z Z <| Zqm Z Z <| JO_q (QE_cast (v' := .bool true) (QE_gt Z Z) (bT O)) Z <| Zqm Z Z <| Zg Z Z <| Zqm Z Z <| Zg Z Z <| JO_q (QE_cast (v' := .bool true) (QE_gt Z Z) (bT O)) Z <| ZqT Z Z Z <| Zqm Z Z <| JO_q (QE_cast (v' := .bool true) (QE_gt Z Z) (bT O)) Z <| Zqm Z Z <| Wf Y4 <| Wf Y4 <| ZqT Z Z Z <| ?_
  refine JO_bs [(_, _), (_, _), (_, _), (_, _), (_, _), (_, _), (_, _), (_, _)] [_, _, _, _, _, _, _, _] Z Z Z Z Z Z Z Z Z ?_
  intro βu s18 h18 hcu
  have hcv := CellsAt.nth hcu (hold_at (j := j) (x := x) (y := y) hj hx0 hy0 (by first | rfl | grind | (rw [Bool.eq_iff_iff]; simp; omega)) (by first | rfl | grind | (rw [Bool.eq_iff_iff]; simp; omega)) (by first | rfl | grind | (rw [Bool.eq_iff_iff]; simp; omega)) (by first | rfl | grind | (rw [Bool.eq_iff_iff]; simp; omega)) (by first | rfl | grind | (rw [Bool.eq_iff_iff]; simp; omega)) (by first | rfl | grind | (rw [Bool.eq_iff_iff]; simp; omega)) (by first | rfl | grind | (rw [Bool.eq_iff_iff]; simp; omega)) (by first | rfl | grind | (rw [Bool.eq_iff_iff]; simp; omega)))
  refine At Z Z <| Sr <| Zqm Z Z <| Zqm Z Z <| JO_q (QE_sub' (c := (j : Int)) Z Z (by rw [w64 O O]; omega)) Z <| JO_q (QE_ia1 Z Z Z Z Z Z hj) Z <| JO_q (QE_ldsR0 Z Z Z (hcv.le (Lr D)) Z) Z <| Jc Z Z Z (truth_ac D _ _ _) ?_
  rintro _ _ s19 h19 ⟨rfl, rfl⟩
  refine Zqa Z Z <| At Z Z <| Zo <| ?_
  refine retQ_mk [] L (.inr Z) (.tmp Z (.tmp Z (.nil))) Z (h1.t h5|>.t h18|>.t h19) (fun sR hS2 => ?_)
  refine ⟨?_, Z⟩
  first
    | (rw [hE, if_neg (by decide)]; rfl)
    | (rw [hE]; show Value.tuple #[.int .u32 _, .bool true] = .tuple #[.int .u32 (opP _ x y), .bool true]; rw [← hO])
    | (rw [hE]; show Value.tuple #[.int .u32 _, .bool true] = .tuple #[.int .u32 (opP _ x y), .bool true]; rw [← hO]; rfl)
 ·
  refine Zr <| Zqm Z Z <| Zqm Z Z <| JO_q (QE_cast (v' := .bool false) (QE_eq Z Z) (bZ O)) Z <| Zqm Z Z <| Zqm Z Z <| JO_q (QE_cast (v' := .bool true) (QE_ne Z Z) (bN O)) Z <| Zqm Z Z <| Zqm Z Z <| JO_q (QE_cast (v' := .bool false) (QE_lt Z Z) (bZ O)) Z <| Zqm Z Z <| Zqm Z Z <| JO_q (QE_cast (v' := .bool false) (QE_lt Z Z) (bZ O)) Z <| Zqm Z Z <| Zg Z Z <| Zqm Z Z <| Zg Z Z <| Zqm Z Z <| Zg Z Z <| JO_q (QE_cast (v' := .bool false) (QE_eq Z Z) (bZ O)) Z <| ZqF Z Z Z <| Zqm Z Z <| Zqm Z Z <| JO_q (QE_cast (v' := .bool true) (QE_lt Z Z) (bT O)) Z <| Zqm Z Z <| Zqm Z Z <| ?_
  refine JO_q (QE_cast (v' := .bool true) (QE_lt Z Z) (bT O)) Z <| Zqm Z Z <| Wf Y4 <| Wf Y4 <| Wf Y4 <| ZqT Z Z Z <| Zqm Z Z <| JO_q (QE_cast (v' := .bool true) (QE_gt Z Z) (bT O)) Z <| Zqm Z Z <| Zg Z Z <| Zqm Z Z <| Zg Z Z <| JO_q (QE_cast (v' := .bool false) (QE_gt Z Z) (bZ O)) Z <| ZqT Z Z Z <| Zqm Z Z <| JO_q (QE_cast (v' := .bool true) (QE_gt Z Z) (bT O)) Z <| Zqm Z Z <| Wf Y4 <| Wf Y4 <| ZqT Z Z Z <| JO_bs [(_, _), (_, _), (_, _), (_, _), (_, _), (_, _), (_, _), (_, _)] [_, _, _, _, _, _, _, _] Z Z Z Z Z Z Z Z Z ?_
  intro βu s20 h20 hcu
  have hcv := CellsAt.nth hcu (hold_at (j := j) (x := x) (y := y) hj hx0 hy0 (by first | rfl | grind | (rw [Bool.eq_iff_iff]; simp; omega)) (by first | rfl | grind | (rw [Bool.eq_iff_iff]; simp; omega)) (by first | rfl | grind | (rw [Bool.eq_iff_iff]; simp; omega)) (by first | rfl | grind | (rw [Bool.eq_iff_iff]; simp; omega)) (by first | rfl | grind | (rw [Bool.eq_iff_iff]; simp; omega)) (by first | rfl | grind | (rw [Bool.eq_iff_iff]; simp; omega)) (by first | rfl | grind | (rw [Bool.eq_iff_iff]; simp; omega)) (by first | rfl | grind | (rw [Bool.eq_iff_iff]; simp; omega)))
  refine At Z Z <| Sr <| Zqm Z Z <| Zqm Z Z <| JO_q (QE_sub' (c := (j : Int)) Z Z (by rw [w64 O O]; omega)) Z <| JO_q (QE_ia1 Z Z Z Z Z Z hj) Z <| JO_q (QE_ldsR0 Z Z Z (hcv.le (Lr D)) Z) Z <| Jc Z Z Z (truth_ac D _ _ _) ?_
  rintro _ _ s21 h21 ⟨rfl, rfl⟩
  refine Zqa Z Z <| At Z Z <| Zo <| ?_
  refine retQ_mk [] L (.inr Z) (.tmp Z (.tmp Z (.nil))) Z (h1.t h5|>.t h20|>.t h21) (fun sR hS2 => ?_)
  refine ⟨?_, Z⟩
  first
    | (rw [hE, if_neg (by decide)]; rfl)
    | (rw [hE]; show Value.tuple #[.int .u32 _, .bool true] = .tuple #[.int .u32 (opP _ x y), .bool true]; rw [← hO])
    | (rw [hE]; show Value.tuple #[.int .u32 _, .bool true] = .tuple #[.int .u32 (opP _ x y), .bool true]; rw [← hO]; rfl)
 refine Zr <| Zqm Z Z <| Zqm Z Z <| JO_q (QE_cast (v' := .bool false) (QE_eq Z Z) (bZ O)) Z <| Zqm Z Z <| Zqm Z Z <| JO_q (QE_cast (v' := .bool true) (QE_ne Z Z) (bN O)) Z <| Zqm Z Z <| Zqm Z Z <| JO_q (QE_cast (v' := .bool false) (QE_lt Z Z) (bZ O)) Z <| Zqm Z Z <| Zqm Z Z <| JO_q (QE_cast (v' := .bool false) (QE_lt Z Z) (bZ O)) Z <| Zqm Z Z <| Zg Z Z <| Zqm Z Z <| Zg Z Z <| Zqm Z Z <| Zg Z Z <| JO_q (QE_cast (v' := .bool false) (QE_eq Z Z) (bZ O)) Z <| ZqF Z Z Z <| Zqm Z Z <| Zqm Z Z <| JO_q (QE_cast (v' := .bool true) (QE_lt Z Z) (bT O)) Z <| Zqm Z Z <| Zqm Z Z <| ?_
 refine JO_q (QE_cast (v' := .bool true) (QE_lt Z Z) (bT O)) Z <| Zqm Z Z <| Wf Y4 <| Wf Y4 <| Wf Y4 <| ZqT Z Z Z <| Zqm Z Z <| JO_q (QE_cast (v' := .bool true) (QE_gt Z Z) (bT O)) Z <| Zqm Z Z <| Zg Z Z <| Zqm Z Z <| Zg Z Z <| JO_q (QE_cast (v' := .bool true) (QE_gt Z Z) (bT O)) Z <| ZqT Z Z Z <| Zqm Z Z <| JO_q (QE_cast (v' := .bool true) (QE_gt Z Z) (bT O)) Z <| Zqm Z Z <| Wf Y4 <| Wf Y4 <| ZqT Z Z Z <| JO_bs [(_, _), (_, _), (_, _), (_, _), (_, _), (_, _), (_, _), (_, _)] [_, _, _, _, _, _, _, _] Z Z Z Z Z Z Z Z Z ?_
 intro βu s22 h22 hcu
 have hcv := CellsAt.nth hcu (hold_at (j := j) (x := x) (y := y) hj hx0 hy0 (by first | rfl | grind | (rw [Bool.eq_iff_iff]; simp; omega)) (by first | rfl | grind | (rw [Bool.eq_iff_iff]; simp; omega)) (by first | rfl | grind | (rw [Bool.eq_iff_iff]; simp; omega)) (by first | rfl | grind | (rw [Bool.eq_iff_iff]; simp; omega)) (by first | rfl | grind | (rw [Bool.eq_iff_iff]; simp; omega)) (by first | rfl | grind | (rw [Bool.eq_iff_iff]; simp; omega)) (by first | rfl | grind | (rw [Bool.eq_iff_iff]; simp; omega)) (by first | rfl | grind | (rw [Bool.eq_iff_iff]; simp; omega)))
 refine At Z Z <| Sr <| Zqm Z Z <| Zqm Z Z <| JO_q (QE_sub' (c := (j : Int)) Z Z (by rw [w64 O O]; omega)) Z <| JO_q (QE_ia1 Z Z Z Z Z Z hj) Z <| JO_q (QE_ldsR0 Z Z Z (hcv.le (Lr D)) Z) Z <| Jc Z Z Z (truth_ac D _ _ _) ?_
 rintro _ _ s23 h23 ⟨rfl, rfl⟩
 refine Zqa Z Z <| At Z Z <| Zo <| ?_
 refine retQ_mk [] L (.inr Z) (.tmp Z (.tmp Z (.nil))) Z (h1.t h5|>.t h22|>.t h23) (fun sR hS2 => ?_)
 refine ⟨?_, Z⟩
 first
   | (rw [hE, if_neg (by decide)]; rfl)
   | (rw [hE]; show Value.tuple #[.int .u32 _, .bool true] = .tuple #[.int .u32 (opP _ x y), .bool true]; rw [← hO])
   | (rw [hE]; show Value.tuple #[.int .u32 _, .bool true] = .tuple #[.int .u32 (opP _ x y), .bool true]; rw [← hO]; rfl)
def kdA (l : List Ex) (i : Nat) : Int := match l[i]? with
  | some a => a.kind
  | none => 0
def nvA (l : List Ex) (i : Nat) : Int := match l[i]? with
  | some a => a.num
  | none => 0
theorem kdA_at {l : List Ex} {i : Nat} {a : Ex} (h : l[i]? = some a) : kdA l i = a.kind := by rw [kdA, h]
theorem nvA_at {l : List Ex} {i : Nat} {a : Ex} (h : l[i]? = some a) : nvA l i = a.num := by rw [nvA, h]
theorem kdA_nil {l : List Ex} {i : Nat} (h : l.length ≤ i) : kdA l i = 0 := by rw [kdA, List.getElem?_eq_none h]
theorem kdA_lt {l : List Ex} {i : Nat} (h : kdA l i = 1) : i < l.length := by
  rcases Nat.lt_or_ge i l.length with h1 | h1
  · exact h1
  · rw [kdA_nil h1] at h; cases h
theorem two_of {l : List Ex} (h : l.length = 2) : ∃ a b, l = [a, b] := by match l, h with | [a, b], _ => exact ⟨a, b, rfl⟩
theorem one_of {l : List Ex} (h : l.length = 1) : ∃ a, l = [a] := by match l, h with | [a], _ => exact ⟨a, rfl⟩
section
variable {p : Prg} {f : Fnc} {x : Ex} {ys : List Ex}
theorem nq_2 (h : x.kind = 2) (h2 : (meanP p f x.name).1.1 = 3 ∧ gkOf p (meanP p f x.name).1.2 = 1) : numP p f (x.withA ys) = some (gnumOf p (meanP p f x.name).1.2) := by
  show (if x.kind = 2 then (if (meanP p f x.name).1.1 = 3 ∧ gkOf p (meanP p f x.name).1.2 = 1 then some (gnumOf p (meanP p f x.name).1.2) else none) else _) = _
  rw [if_pos h, if_pos h2]
theorem nq_2n (h : x.kind = 2) (h2 : ¬ ((meanP p f x.name).1.1 = 3 ∧ gkOf p (meanP p f x.name).1.2 = 1)) : numP p f (x.withA ys) = none := by
  show (if x.kind = 2 then (if (meanP p f x.name).1.1 = 3 ∧ gkOf p (meanP p f x.name).1.2 = 1 then some (gnumOf p (meanP p f x.name).1.2) else none) else _) = _
  rw [if_pos h, if_neg h2]
theorem nq_6 {a : Ex} (h : x.kind = 6) (ha : ys[0]? = some a) : numP p f (x.withA ys) = if a.kind = 1 ∧ (oprF x.op 0).1 = 0 then some (opP x.op a.num 0) else none := num_6 (x := x.withA ys) (show ¬ x.kind = 2 by omega) h ha
theorem nq_7 {a b : Ex} (h : x.kind = 7) (ha : ys[0]? = some a) (hb : ys[1]? = some b) : numP p f (x.withA ys) = if a.kind = 1 then (if b.kind = 1 then (if (oprF x.op b.num).1 = 0 then some (opP x.op a.num b.num) else none) else if x.op = 20 ∧ a.num = 0 then some 0 else if x.op = 21 ∧ a.num ≠ 0 then some 1 else none) else none := num_7 (x := x.withA ys) (show ¬ x.kind = 2 by omega) (show ¬ x.kind = 6 by omega) h ha hb
theorem nq_20 (h : x.kind = 7 ∧ kdA ys 0 = 1 ∧ x.op = 20 ∧ nvA ys 0 = 0) (hl : ys.length = 2) : numP p f (x.withA ys) = some 0 := by
  obtain ⟨a, b, rfl⟩ := two_of hl
  obtain ⟨h1, h2, h3, h4⟩ := h
  have h2 : a.kind = 1 := h2
  have h4 : a.num = 0 := h4
  rw [nq_7 h1 rfl rfl, if_pos h2, h3, h4]
  by_cases hb : b.kind = 1
  · rw [if_pos hb]; simp [oprF, opP, holdB]
  · rw [if_neg hb, if_pos ⟨rfl, rfl⟩]
theorem nq_21 (h : x.kind = 7 ∧ kdA ys 0 = 1 ∧ x.op = 21 ∧ nvA ys 0 ≠ 0) (hl : ys.length = 2) : numP p f (x.withA ys) = some 1 := by
  obtain ⟨a, b, rfl⟩ := two_of hl
  obtain ⟨h1, h2, h3, h4⟩ := h
  have h2 : a.kind = 1 := h2
  have h4 : a.num ≠ 0 := h4
  rw [nq_7 h1 rfl rfl, if_pos h2, h3]
  by_cases hb : b.kind = 1
  · rw [if_pos hb]; simp [oprF, opP, holdB, h4]
  · rw [if_neg hb, if_neg (by simp), if_pos ⟨rfl, h4⟩]
theorem nq_no (h2 : x.kind ≠ 2) (h20 : ¬ (x.kind = 7 ∧ kdA ys 0 = 1 ∧ x.op = 20 ∧ nvA ys 0 = 0)) (h21 : ¬ (x.kind = 7 ∧ kdA ys 0 = 1 ∧ x.op = 21 ∧ nvA ys 0 ≠ 0)) (ha : ¬ (6 ≤ x.kind ∧ kdA ys 0 = 1 ∧ (ys.length < 2 ∨ kdA ys 1 = 1))) (h6 : x.kind = 6 → ys.length = 1) (h7 : x.kind = 7 → ys.length = 2) : numP p f (x.withA ys) = none := by
  by_cases g6 : x.kind = 6
  · obtain ⟨a, rfl⟩ := one_of (h6 g6)
    rw [nq_6 g6 rfl, if_neg]
    rintro ⟨h1, _⟩
    exact ha ⟨by omega, h1, .inl (by simp)⟩
  by_cases g7 : x.kind = 7
  · obtain ⟨a, b, rfl⟩ := two_of (h7 g7)
    rw [nq_7 g7 rfl rfl]
    by_cases h1 : a.kind = 1
    · rw [if_pos h1]
      by_cases hb : b.kind = 1
      · exact absurd ⟨by omega, h1, .inr hb⟩ ha
      · rw [if_neg hb, if_neg (fun h => h20 ⟨g7, h1, h.1, h.2⟩), if_neg (fun h => h21 ⟨g7, h1, h.1, h.2⟩)]
    · rw [if_neg h1]
  show (if x.kind = 2 then _ else if x.kind = 6 then _ else if x.kind = 7 then _ else none) = none
  rw [if_neg h2, if_neg g6, if_neg g7]
end
theorem memK3 {x a b c : Nat × Obj} {R R' : Hl} (hx : x ∈ (a :: b :: c :: R).take 3) : x ∈ a :: b :: c :: R' := List.mem_append_left R' (show x ∈ [a, b, c] from hx)
def FEX (D d : Nat) : Prop := ∀ (L : Hl) (s : World) (d0 : Nat) (p : Prg) (Ag Af : Option Addr) (ng cg nf cf : Nat) (hGl : Glos s Ag ng cg p.globals) (hFn : Fncs d0 s Af nf cf p.funcs) (i : Nat) (f : Fnc) (hf : p.funcs[i]? = some f) (x : Ex) (A : Option Addr) (n c : Nat) (hA : Exs d s A n c x.args) (hun : U32 x.num) (hnl : x.name.length ≤ 9223372036854775807) (hv : exV x = true), AC Tryz.prog D 72 [.agg #[.slice Ag ng cg, .slice Af nf cf], .int .i64 (i : Int), .agg #[.int .i64 x.kind, .int .i64 x.op, .int .u32 x.num, St x.name, .slice A n c]] L s fun v L' s' => L = L' ∧ ∃ A' n' c', v = .agg #[.int .i64 (fdX p f x).kind, .int .i64 (fdX p f x).op, .int .u32 (fdX p f x).num, St (fdX p f x).name, .slice A' n' c'] ∧ Exs d s' A' n' c' (fdX p f x).args ∧ U32 (fdX p f x).num ∧ (fdX p f x).name.length ≤ 9223372036854775807
theorem fex_step (D d : Nat) (ih : ∀ e, d = e + 1 → FEX D e) (L : Hl) (s : World) (d0 : Nat) (p : Prg) (Ag Af : Option Addr) (ng cg nf cf : Nat) (hGl : Glos s Ag ng cg p.globals) (hFn : Fncs d0 s Af nf cf p.funcs) (i : Nat) (f : Fnc) (hf : p.funcs[i]? = some f) (x : Ex) (A : Option Addr) (n c : Nat) (hA : Exs d s A n c x.args) (hun : U32 x.num) (hnl : x.name.length ≤ 9223372036854775807) (hv : exV x = true) : AC Tryz.prog D 72 [.agg #[.slice Ag ng cg, .slice Af nf cf], .int .i64 (i : Int), .agg #[.int .i64 x.kind, .int .i64 x.op, .int .u32 x.num, St x.name, .slice A n c]] L s fun v L' s' => ∃ M', L' = M' ++ L ∧ ∀ s2, Le D s' s2 → Pub M' s2 → ∃ A' n' c', v = .agg #[.int .i64 (fdX p f x).kind, .int .i64 (fdX p f x).op, .int .u32 (fdX p f x).num, St (fdX p f x).name, .slice A' n' c'] ∧ Exs d s2 A' n' c' (fdX p f x).args ∧ U32 (fdX p f x).num ∧ (fdX p f x).name.length ≤ 9223372036854775807 := by
 have hn1 := hGl.1
 have hn9 := hA.1
 have hc1 := hA.2.1
 have hc2 := hA.2.2.1
 obtain ⟨hv1, hv2⟩ := exV_eq hv
 obtain ⟨hk1, hk7, hl1, hl2, ho6, ho7⟩ := exC_args hv1
 have hn6 : x.kind = 6 → n = 1 := fun h => by simp [leastE, mostE, h] at hl1 hl2; omega
 have hn7 : x.kind = 7 → n = 2 := fun h => by simp [leastE, mostE, h] at hl1 hl2; omega
 have hn8 : n ≤ 6 := by unfold mostE at hl2; (repeat' split at hl2) <;> omega
 obtain ⟨ys, hys⟩ : ∃ ys, ys = fdXs p f x.args := ⟨_, rfl⟩
 have hyl : ys.length = n := by rw [hys, fdXs_len, hn9]
 refine AC_enter (TT := TT) (fn := Tryz.f72) TT_ok Tryz.func72 V Z Tryz.ntmps72 Z (rs := [.cell 6 61]) Z [(0, _), (1, _), (2, _)] Z <| Sr <| JO_boxA Z Z ?_
 intro β1 s1 h1
 refine JO_boxA Z Z ?_
 intro β2 s2 h2
 refine JO_allocZ Z [_, _, _, _, _] Z Z ?_
 intro β3 s3 h3
 refine Nt <| Sr <| At Z Z <| Zs <| Sr <| At Z Z <| Zp <| ?_
 refine JC_loop (γ := Nat × Value × Hl) (fun g => [(1, _), (3, _), (5, _), (6, _), (7, g.2.1), (8, .int .i64 (g.1 : Int))]) (fun g => _ :: _ :: _ :: (g.2.2 ++ L)) (fun g tw => Le D s3 tw ∧ (g.1 ≤ n ∧ ∃ css, FL.Own 61 5 g.2.2 g.2.1 g.1 (List.flatten css) ∧ All2 (fun x cs => cs.length = 5 ∧ ExR d tw x cs) ((x.args.take g.1).map (fdX p f)) css)) (fun g => n - g.1) (fun _ _ _ h hl => ⟨h.1.trans hl, ⟨h.2.1, by obtain ⟨css, q1, q2⟩ := h.2.2; exact ⟨css, q1, q2.mono fun _ _ k => ⟨k.1, k.2.le hl⟩⟩⟩⟩) (0, .slice none 0 0, []) (.cons Z (.cons Z (.cons Z (.cons Z (.cons Z (.cons Z (.nil _))))))) Z ⟨Le.refl _, ⟨Nat.zero_le _, [], FL.Own.nil, .nil⟩⟩ ?_
 intro g s4 I4
 obtain ⟨k, vo, Mo⟩ := g
 obtain ⟨hk0, css, hO, hA2⟩ := I4.2
 simp only at hk0 hO hA2
 dsimp only
 obtain ⟨Ao, co, rfl, _, _⟩ := Own.slice hO
 refine Zs <| Sr <| Zqm Z Z <| Wb Y5 <| Wl 1 Y6 <| Ws Y4 <| Zqlt Z Z Z <| Nt <| ?_
 refine JC_ifD Z (fun c5 => ?_) (fun c5 => ?_)
 ·
  have hk : k < n := by omega
  obtain ⟨e, b, off, y, A1, n1, c1, hd, rfl, hy, hcy, hay, huy, hny⟩ := Exs.at_ (hA.le (h1.t h2|>.t h3|>.t I4.1)) hk
  obtain ⟨hvy, _⟩ := exV_at hv2 hy
  refine Zk <| Zt <| Zs <| Zp <| JC_drawT drawsMixed 12 Z 3 ?_
  intro s6 h6
  refine za 0 Z (QE_mv Z) Z <| za 1 Z (QE_ldA 2 [_, _] Z Z Z Z Z) Z <| za 2 Z (QE_mv Z) Z <| za 3 Z (We Y4) Z <| za 4 Z (Wd 1 Y5) Z <| za 5 Z (QE_mv Z) Z <| za 6 Z (QE_iaN Z Z Z Z Z Z hk) Z <| za 7 Z (QE_ldsA Z Z Z (hcy.le h6) Z) Z <| JA_1 8 V <| Jb Z trivial Z Z Z (ih e hd _ _ d0 p Ag Af ng cg nf cf (hGl.le (h1.t h2|>.t h3|>.t I4.1|>.t h6)) (hFn.le (h1.t h2|>.t h3|>.t I4.1|>.t h6)) i f hf y A1 n1 c1 (hay.le h6) huy hny hvy) ?_
  rintro _ _ s7 h7 ⟨rfl, Ar, nr, cr, rfl, hRr, hur, hlr⟩
  refine ⟨fun _ _ h => h, ?_⟩
  refine JA_1 9 V <| JB_bs Z trivial [(_, _)] [_, _, _, _, _] Z Z Z Z Z Z Z Z Z ?_
  intro βn s8 h8 hcb
  refine JA_1 10 V <| JB_app (sz := 5) Z (by exact trivial) [_, _, _] Mo L Z Z Z Z Z Z Z hO (Row.of_cells (hcb.le (Lr D)) Z Z) ⟨by simp [ti61]; omega, by omega⟩ Z (fun A2 x hx _ => memK3 hx) ?_
  intro vq Mq s9 h9 oq
  obtain ⟨Avq, cvq, rfl, _, _⟩ := Own.slice oq
  simp only [c9, n9]
  refine za 11 Z (QE_as Z) Z <| JA_done V <| Zb <| Zt <| Zr <| Zqm Z Z <| Zqadd Z Z Z (w64 O O) <| Zqa Z Z <| Zn <| ?_
  refine thenQ_n ⟨(k + 1, .slice Avq (k + 1) cvq, Mq), [], kp, Z, ⟨(I4.1.t h6|>.t h7|>.t h8|>.t h9), ⟨by simp only; omega, css ++ [[.int .i64 (fdX p f y).kind, .int .i64 (fdX p f y).op, .int .u32 (fdX p f y).num, St (fdX p f y).name, .slice Ar nr cr]], by simp only [List.flatten_append, List.flatten_cons, List.flatten_nil, List.append_nil]; exact oq, by simp only; rw [take_snocE hy, List.map_append]; exact all2_snoc' (hA2.mono fun _ _ k => ⟨k.1, k.2.le (h6.t h7|>.t h8|>.t h9)⟩) ⟨Z, hd ▸ ⟨Ar, nr, cr, Z, hRr.le (h8.t h9), hur, hlr⟩⟩⟩⟩, (by simp only; omega)⟩
 obtain rfl : n = k := by omega
 rw [List.take_of_length_le O] at hA2
 refine Zl <| Zv <| Zv <| Zd <| Zt <| Zs <| JC_pubX [_, _, _] Mo _ ?_
 intro s10 h10 hpub10
 simp only [c9, n9]
 have hE9 : Exs d s10 Ao n co ys := by
   rw [hys, fdXs_map]
   exact Own.rows hO hpub10 (hA2.mono fun _ _ k => ⟨k.1, k.2.le h10⟩) (by rw [List.length_map, hn9])
 refine Zr <| Zqm Z Z <| Wb Y5 <| Wt 1 [_, _, _, _, _] Y9 <| Nt <| ?_
 refine JC_cutB 9 (kdA ys 0 = 1) ?_ ?_
 ·
  refine Zr <| Zqm Z Z <| Ws Y4 <| Zqgt Z Z Z <| Zqm Z Z <| ?_
  refine JO_caseD (t := 38) Z (fun c12 => ?_) (fun c12 => ?_)
  ·
   refine Zg Z Z <| Zqm Z Z <| Zg Z Z <| ?_
   have h0n : 0 < n := by omega
   obtain ⟨eu, bu, ou, u, Au, nu, cu, hdu, rfl, hu, hcu, _, huu, _⟩ := Exs.at_ (hE9.le (Lr D)) h0n
   have hku := kdA_at hu
   have hwu := nvA_at hu
   refine JO_q (QE_iaN (j := 0) Z Z Z Z Z Z (show 0 < n by omega)) Z <| Zg Z Z <| W0 Y5 <| Zg Z Z <| JO_q (QE_ldsR0 Z Z Z (hcu.le (Lr D)) Z) Z <| Zg Z Z <| Zqeq Z Z Z <| ZqT Z Z Z <| Zqa Z Z <| Zn <| ?_
   refine thenQ_n (MidB.mk (Lr D) Sb Z (decide_eq_decide.2 O))
  refine Wf Y4 <| Wf Y4 <| Wf Y4 <| Wf Y4 <| Wf Y4 <| ZqF Z Z Z <| Zqa Z Z <| Zn <| ?_
  refine thenQ_n (MidB.mk (Lr D) Sb Z ((decide_eq_false ((by first | omega | (rw [kdA_nil O]; decide)))).symm))
 intro s11 h11
 refine JC_cutB 10 (kdA ys 0 = 1 ∧ (n < 2 ∨ kdA ys 1 = 1)) ?_ ?_
 ·
  refine Zr <| Zqm Z Z <| Zqm Z Z <| ?_
  refine JO_caseD (t := 46) Z (fun c14 => ?_) (fun c14 => ?_)
  ·
   refine Zg Z Z <| Zqm Z Z <| Zg Z Z <| Ws Y4 <| Zg Z Z <| Zqlt Z Z Z <| Zg Z Z <| Zqm Z Z <| ?_
   refine JO_caseD (t := 50) Z (fun c15 => ?_) (fun c15 => ?_)
   ·
    refine Wf Y4 <| Wf Y4 <| Wf Y4 <| Wf Y4 <| Wf Y4 <| Zg Z Z <| ZqT Z Z Z <| ZqT Z Z Z <| Zqa Z Z <| Zn <| ?_
    refine thenQ_n (MidB.mk (Lr D) Sb Z ((decide_eq_true O).symm))
   refine Zg Z Z ?_
   have h1n : 1 < n := by omega
   obtain ⟨ew, bw, ow, w, Aw, nw, cw, hdw, rfl, hw, hcw, _, huw, _⟩ := Exs.at_ (hE9.le h11) h1n
   have hkw := kdA_at hw
   have hww := nvA_at hw
   refine Zqm Z Z <| Zg Z Z <| JO_q (QE_iaN (j := 1) Z Z Z Z Z Z (show 1 < n by omega)) Z <| Zg Z Z <| W0 Y5 <| Zg Z Z <| JO_q (QE_ldsR0 Z Z Z (hcw.le (Lr D)) Z) Z <| Zg Z Z <| Zqeq Z Z Z <| Zg Z Z <| ZqF Z Z Z <| ZqT Z Z Z <| Zqa Z Z <| Zn <| ?_
   refine thenQ_n (MidB.mk (Lr D) Sb Z (decide_eq_decide.2 O))
  refine Wf Y4 <| Wf Y4 <| Wf Y4 <| Wf Y4 <| Zh Z Z Z <| Zh Z Z Z <| Zh Z Z Z <| Zh Z Z Z <| Zh Z Z Z <| Wf Y4 <| ZqF Z Z Z <| Zqa Z Z <| Zn ?_
  refine thenQ_n (MidB.mk (Lr D) Sb Z ((decide_eq_false O).symm))
 intro s13 h13
 refine Zs <| Sr <| W0 Y5 <| Wl 1 Y6 <| Zqeq Z Z Z <| Nt <| ?_
 refine JC_ifD Z (fun c16 => ?_) (fun c16 => ?_)
 ·
  have g60 := c16
  refine Sr <| JO_q (QE_ldA 2 [_, _] Z Z Z Z Z) Z <| Zqm Z Z <| Wb Y5 <| Wl 1 Y6 <| Jc Z Z Z (meanOf_ac D _ _ d0 p Ag Af ng cg nf cf (hGl.le (h1.t h2|>.t h3|>.t I4.1|>.t h10|>.t h11|>.t h13)) (hFn.le (h1.t h2|>.t h3|>.t I4.1|>.t h10|>.t h11|>.t h13)) i f hf x.name) ?_
  rintro _ _ s17 h17 ⟨rfl, rfl⟩
  refine JO_allocZ Z [_, _] Z Z ?_
  intro β18 s18 h18
  refine Wt 0 [_, _] Y9 <| Nt <| ?_
  refine JC_cutB 78 ((meanP p f x.name).1.1 = 3 ∧ gkOf p (meanP p f x.name).1.2 = 1) ?_ ?_
  ·
   refine Zr <| W0 Y5 <| Wl 0 Y6 <| Zqeq Z Z Z <| Zqm Z Z <| ?_
   refine JO_caseD (t := 69) Z (fun c20 => ?_) (fun c20 => ?_)
   ·
    refine Zg Z Z ?_
    obtain ⟨gi, hgi, hgl⟩ := mean_idx (.inl rfl) As
    rw [nOf, if_neg (by decide)] at hgl
    have hgn : gi < ng := by omega
    obtain ⟨bz, oz, z, Ai, ni, ci, rfl, hz, hcz, hiz, huz, hnz⟩ := Glos.at_ (hGl.le (h1.t h2|>.t h3|>.t I4.1|>.t h10|>.t h11|>.t h13|>.t h17|>.t h18)) hgn
    have hgk := gkOf_at hz
    refine W0 Y5 <| Zg Z Z <| Wl 3 Y6 <| Zg Z Z <| Wb Y5 <| Zg Z Z <| Wl 0 Y6 <| Zg Z Z <| JO_q (QE_iaN (j := gi) Z (show lk _ _ = some (.int .i64 (gi : Int)) from by rw [← hgi]; rfl) Z Z Z Z hgn) Z <| Zg Z Z <| W0 Y5 <| Zg Z Z <| JO_q (QE_ldsR0 Z Z Z (hcz.le (Lr D)) Z) Z <| Zg Z Z <| Zqeq Z Z Z <| ZqT Z Z Z <| Zn <| ?_
    refine thenQ_n (MidB.mk (Lr D) Sb Z (decide_eq_decide.2 (by rw [hgi, hgk]; omega)))
   refine Wf Y4 <| Wf Y4 <| Wf Y4 <| Wf Y4 <| Wf Y4 <| Wf Y4 <| Wf Y4 <| Wf Y4 <| ZqF Z Z Z <| Zn <| ?_
   refine thenQ_n (MidB.mk (Lr D) Sb Z ((decide_eq_false O).symm))
  intro s19 h19
  refine JC_ifD Z (fun c21 => ?_) (fun c21 => ?_)
  ·
   have g78 := c21
   obtain ⟨gi, hgi, hgl⟩ := mean_idx (.inl rfl) g78.1
   rw [nOf, if_neg (by decide)] at hgl
   have hgn : gi < ng := by omega
   obtain ⟨bz, oz, z, Ai, ni, ci, rfl, hz, hcz, hiz, huz, hnz⟩ := Glos.at_ (hGl.le (h1.t h2|>.t h3|>.t I4.1|>.t h10|>.t h11|>.t h13|>.t h17|>.t h18|>.t h19)) hgn
   have hgk := gkOf_at hz
   have hE := fdX_some (p := p) (f := f) (v := z.num) (by rw [← hys, nq_2 g60 g78, hgi, gnumOf_at hz])
   have hvu := huz
   refine Sr <| W0 Y5 <| Wl 3 Y6 <| Wb Y5 <| Wl 0 Y6 <| JO_q (QE_iaN (j := gi) Z (show lk _ _ = some (.int .i64 (gi : Int)) from by rw [← hgi]; rfl) Z Z Z Z hgn) Z <| JO_q (QE_fa Z Z Z Z) Z <| JO_q (QE_ldsR 2 Z Z Z (hcz.le (Lr D)) Z) Z <| JO_q (QE_build [(_, _), (_, _)] [_, _, _, _, _] Z Z Z Z Z Z) Z <| Wt 1 [_, _, _, _, _] Y9 <| Nt <| Zo <| Zu <| ?_
   refine retQ_mk [_, _, _, _] _ (.inr Z) (.agg (us := [_, _, _, _, _]) 1 Z Z Z Z Z (.nil)) Z (h1.t h2|>.t h3|>.t I4.1|>.t h10|>.t h11|>.t h13|>.t h17|>.t h18|>.t h19) (fun sR hS2 => ?_)
   first
     | exact ⟨[], rfl, fun s2 hs2 hp => ⟨none, 0, 0, by rw [hE]; rfl, by rw [hE]; exact exs_nil _ _, by rw [hE]; exact hvu, by rw [hE]; exact Nat.zero_le _⟩⟩
     | exact ⟨[], rfl, fun s2 hs2 hp => ⟨_, _, _, by rw [hE]; rfl, by rw [hE]; exact hE9.le (h11.t h13|>.t h17|>.t h18|>.t h19|>.t (hS2.t hs2)), by rw [hE]; exact hun, by rw [hE]; exact hnl⟩⟩
  have g78 := c21
  refine Zk <| Zt <| Zs <| ?_
  refine JC_cutB 104 (x.kind = 7 ∧ kdA ys 0 = 1 ∧ x.op = 20 ∧ nvA ys 0 = 0) ?_ ?_
  ·
   refine Zr <| W0 Y5 <| Wl 2 Y6 <| JO_q (QE_cast (v' := .bool false) (QE_eq Z Z) (bZ O)) Z <| Zqm Z Z <| Wf Y4 <| ZqF Z Z Z <| Zqm Z Z <| Wf Y4 <| Wf Y4 <| Wf Y4 <| ZqF Z Z Z <| Zqm Z Z <| Wf Y4 <| Wf Y4 <| Wf Y4 <| Wf Y4 <| Wf Y4 <| ZqF Z Z Z <| Zn <| ?_
   refine thenQ_n (MidB.mk (Lr D) Sb Z ((decide_eq_false O).symm))
  intro s22 h22
  refine JC_ifD Z (fun c23 => ?_) (fun c23 => ?_)
  ·
   exfalso; omega --end
  have g104 := c23
  refine Zk <| Zt <| Zs <| ?_
  refine JC_cutB 123 (x.kind = 7 ∧ kdA ys 0 = 1 ∧ x.op = 21 ∧ nvA ys 0 ≠ 0) ?_ ?_
  ·
   refine Zr <| W0 Y5 <| Wl 2 Y6 <| JO_q (QE_cast (v' := .bool false) (QE_eq Z Z) (bZ O)) Z <| Zqm Z Z <| Wf Y4 <| ZqF Z Z Z <| Zqm Z Z <| Wf Y4 <| Wf Y4 <| Wf Y4 <| ZqF Z Z Z <| Zqm Z Z <| Wf Y4 <| Wf Y4 <| Wf Y4 <| Wf Y4 <| Wf Y4 <| ZqF Z Z Z <| Zn <| ?_
   refine thenQ_n (MidB.mk (Lr D) Sb Z ((decide_eq_false O).symm))
  intro s24 h24
  refine JC_ifD Z (fun c25 => ?_) (fun c25 => ?_)
  ·
   exfalso; omega --end
  have g123 := c25
  refine Zk <| Zt <| Zs <| ?_
  refine JC_cutB 130 (6 ≤ x.kind ∧ kdA ys 0 = 1 ∧ (n < 2 ∨ kdA ys 1 = 1)) ?_ ?_
  ·
   refine Zr <| W0 Y5 <| Wl 2 Y6 <| JO_q (QE_cast (v' := .bool false) (QE_ge Z Z) (bZ O)) Z <| Zqm Z Z <| Wf Y4 <| ZqF Z Z Z <| Zn <| ?_
   refine thenQ_n (MidB.mk (Lr D) Sb Z ((decide_eq_false O).symm))
  intro s26 h26
  refine JC_ifD Z (fun c27 => ?_) (fun c27 => ?_)
  ·
   exfalso; omega --end
  have g130 := c27
  have hE := fdX_none (p := p) (f := f) (x := x) (by rw [← hys]; exact nq_2n g60 g78)
  rw [← hys] at hE
  refine Zk <| Zt <| Sr <| JO_q (QE_ldA 2 [_, _, _, _, _] Z Z Z Z Z) Z <| Wt 1 [_, _, _, _, _] Y9 <| Nt <| Zo <| ?_
  refine retQ_mk [_, _, _, _] _ (.inr Z) (.agg (us := [_, _, _, _, _]) 1 Z Z Z Z Z (.nil)) Z (h1.t h2|>.t h3|>.t I4.1|>.t h10|>.t h11|>.t h13|>.t h17|>.t h18|>.t h19|>.t h22|>.t h24|>.t h26) (fun sR hS2 => ?_)
  first
    | exact ⟨[], rfl, fun s2 hs2 hp => ⟨none, 0, 0, by rw [hE]; rfl, by rw [hE]; exact exs_nil _ _, by rw [hE]; exact hvu, by rw [hE]; exact Nat.zero_le _⟩⟩
    | exact ⟨[], rfl, fun s2 hs2 hp => ⟨_, _, _, by rw [hE]; rfl, by rw [hE]; exact hE9.le (h11.t h13|>.t h17|>.t h18|>.t h19|>.t h22|>.t h24|>.t h26|>.t (hS2.t hs2)), by rw [hE]; exact hun, by rw [hE]; exact hnl⟩⟩
 have g60 := c16
 refine Zk <| Zt <| Zs <| ?_
 refine JC_cutB 104 (x.kind = 7 ∧ kdA ys 0 = 1 ∧ x.op = 20 ∧ nvA ys 0 = 0) ?_ ?_
 ·
  refine Zr <| W0 Y5 <| Wl 1 Y6 <| Zqeq Z Z Z <| Zqm Z Z <| ?_
  refine JO_caseD (t := 90) Z (fun c29 => ?_) (fun c29 => ?_)
  ·
   refine Zg Z Z <| Zqm Z Z <| ZqT Z Z Z <| Zqm Z Z <| ?_
   refine JO_caseD (t := 93) Z (fun c30 => ?_) (fun c30 => ?_)
   ·
    refine Zg Z Z <| Wb Y5 <| Zg Z Z <| Wl 1 Y6 <| Zg Z Z <| Zqeq Z Z Z <| ZqT Z Z Z <| Zqm Z Z <| ?_
    refine JO_caseD (t := 98) Z (fun c31 => ?_) (fun c31 => ?_)
    ·
     refine Zg Z Z ?_
     have h0n : 0 < n := by have := kdA_lt (by assumption : kdA ys 0 = 1); omega
     obtain ⟨eu, bu, ou, u, Au, nu, cu, hdu, rfl, hu, hcu, _, huu, _⟩ := Exs.at_ (hE9.le (h11.t h13)) h0n
     have hku := kdA_at hu
     have hwu := nvA_at hu
     refine Zqm Z Z <| Zg Z Z <| JO_q (QE_iaN (j := 0) Z Z Z Z Z Z (show 0 < n by omega)) Z <| Zg Z Z <| JO_q (QE_fa Z Z Z Z) Z <| Zg Z Z <| JO_q (QE_ldsR 2 Z Z Z (hcu.le (Lr D)) Z) Z <| Zg Z Z <| Zqeq Z Z Z <| ZqT Z Z Z <| Zn <| ?_
     refine thenQ_n (MidB.mk (Lr D) Sb Z (decide_eq_decide.2 O))
    refine Wf Y4 <| Wf Y4 <| Wf Y4 <| Wf Y4 <| Wf Y4 <| ZqF Z Z Z <| Zn <| ?_
    refine thenQ_n (MidB.mk (Lr D) Sb Z ((decide_eq_false O).symm))
   refine Wf Y4 <| Wf Y4 <| Wf Y4 <| ZqF Z Z Z <| Zqm Z Z <| Wf Y4 <| Wf Y4 <| Wf Y4 <| Wf Y4 <| Wf Y4 <| ZqF Z Z Z <| Zn <| ?_
   refine thenQ_n (MidB.mk (Lr D) Sb Z ((decide_eq_false O).symm))
  refine Wf Y4 <| ZqF Z Z Z <| Zqm Z Z <| Wf Y4 <| Wf Y4 <| Wf Y4 <| ZqF Z Z Z <| Zqm Z Z <| Wf Y4 <| Wf Y4 <| Wf Y4 <| Wf Y4 <| Wf Y4 <| ZqF Z Z Z <| Zn <| ?_
  refine thenQ_n (MidB.mk (Lr D) Sb Z ((decide_eq_false O).symm))
 intro s28 h28
 refine JC_ifD Z (fun c32 => ?_) (fun c32 => ?_)
 ·
  have g104 := c32
  have hE := fdX_some (p := p) (f := f) (v := 0) (by rw [← hys]; exact nq_20 g104 (by rw [hyl]; exact hn7 g104.1))
  have hvu : U32 0 := ⟨by decide, by decide⟩
  refine Sr <| JO_q (QE_build [(_, _)] [_, _, _, _, _] Z Z Z Z Z Z) Z <| Wt 0 [_, _, _, _, _] Y9 <| Nt <| Zo <| Zu <| ?_
  refine retQ_mk [_, _, _] _ (.inr Z) (.agg (us := [_, _, _, _, _]) 0 Z Z Z Z Z (.nil)) Z (h1.t h2|>.t h3|>.t I4.1|>.t h10|>.t h11|>.t h13|>.t h28) (fun sR hS2 => ?_)
  first
    | exact ⟨[], rfl, fun s2 hs2 hp => ⟨none, 0, 0, by rw [hE]; rfl, by rw [hE]; exact exs_nil _ _, by rw [hE]; exact hvu, by rw [hE]; exact Nat.zero_le _⟩⟩
    | exact ⟨[], rfl, fun s2 hs2 hp => ⟨_, _, _, by rw [hE]; rfl, by rw [hE]; exact hE9.le (h11.t h13|>.t h28|>.t (hS2.t hs2)), by rw [hE]; exact hun, by rw [hE]; exact hnl⟩⟩
 have g104 := c32
 refine Zk <| Zt <| Zs <| ?_
 refine JC_cutB 123 (x.kind = 7 ∧ kdA ys 0 = 1 ∧ x.op = 21 ∧ nvA ys 0 ≠ 0) ?_ ?_
 ·
  refine Zr <| W0 Y5 <| Wl 1 Y6 <| Zqeq Z Z Z <| Zqm Z Z <| ?_
  refine JO_caseD (t := 109) Z (fun c34 => ?_) (fun c34 => ?_)
  ·
   refine Zg Z Z <| Zqm Z Z <| ZqT Z Z Z <| Zqm Z Z <| ?_
   refine JO_caseD (t := 112) Z (fun c35 => ?_) (fun c35 => ?_)
   ·
    refine Zg Z Z <| Wb Y5 <| Zg Z Z <| Wl 1 Y6 <| Zg Z Z <| Zqeq Z Z Z <| ZqT Z Z Z <| Zqm Z Z <| ?_
    refine JO_caseD (t := 117) Z (fun c36 => ?_) (fun c36 => ?_)
    ·
     refine Zg Z Z ?_
     have h0n : 0 < n := by have := kdA_lt (by assumption : kdA ys 0 = 1); omega
     obtain ⟨eu, bu, ou, u, Au, nu, cu, hdu, rfl, hu, hcu, _, huu, _⟩ := Exs.at_ (hE9.le (h11.t h13|>.t h28)) h0n
     have hku := kdA_at hu
     have hwu := nvA_at hu
     refine Zqm Z Z <| Zg Z Z <| JO_q (QE_iaN (j := 0) Z Z Z Z Z Z (show 0 < n by omega)) Z <| Zg Z Z <| JO_q (QE_fa Z Z Z Z) Z <| Zg Z Z <| JO_q (QE_ldsR 2 Z Z Z (hcu.le (Lr D)) Z) Z <| Zg Z Z <| Zqne Z Z Z <| ZqT Z Z Z <| Zn <| ?_
     refine thenQ_n (MidB.mk (Lr D) Sb Z (ndec_eq O))
    refine Wf Y4 <| Wf Y4 <| Wf Y4 <| Wf Y4 <| Wf Y4 <| ZqF Z Z Z <| Zn <| ?_
    refine thenQ_n (MidB.mk (Lr D) Sb Z ((decide_eq_false O).symm))
   refine Wf Y4 <| Wf Y4 <| Wf Y4 <| ZqF Z Z Z <| Zqm Z Z <| Wf Y4 <| Wf Y4 <| Wf Y4 <| Wf Y4 <| Wf Y4 <| ZqF Z Z Z <| Zn <| ?_
   refine thenQ_n (MidB.mk (Lr D) Sb Z ((decide_eq_false O).symm))
  refine Wf Y4 <| ZqF Z Z Z <| Zqm Z Z <| Wf Y4 <| Wf Y4 <| Wf Y4 <| ZqF Z Z Z <| Zqm Z Z <| Wf Y4 <| Wf Y4 <| Wf Y4 <| Wf Y4 <| Wf Y4 <| ZqF Z Z Z <| Zn <| ?_
  refine thenQ_n (MidB.mk (Lr D) Sb Z ((decide_eq_false O).symm))
 intro s33 h33
 refine JC_ifD Z (fun c37 => ?_) (fun c37 => ?_)
 ·
  have g123 := c37
  have hE := fdX_some (p := p) (f := f) (v := 1) (by rw [← hys]; exact nq_21 g123 (by rw [hyl]; exact hn7 g123.1))
  have hvu : U32 1 := ⟨by decide, by decide⟩
  refine Sr <| JO_q (QE_build [(_, _), (_, _)] [_, _, _, _, _] Z Z Z Z Z Z) Z <| Wt 0 [_, _, _, _, _] Y9 <| Nt <| Zo <| Zu <| ?_
  refine retQ_mk [_, _, _] _ (.inr Z) (.agg (us := [_, _, _, _, _]) 0 Z Z Z Z Z (.nil)) Z (h1.t h2|>.t h3|>.t I4.1|>.t h10|>.t h11|>.t h13|>.t h28|>.t h33) (fun sR hS2 => ?_)
  first
    | exact ⟨[], rfl, fun s2 hs2 hp => ⟨none, 0, 0, by rw [hE]; rfl, by rw [hE]; exact exs_nil _ _, by rw [hE]; exact hvu, by rw [hE]; exact Nat.zero_le _⟩⟩
    | exact ⟨[], rfl, fun s2 hs2 hp => ⟨_, _, _, by rw [hE]; rfl, by rw [hE]; exact hE9.le (h11.t h13|>.t h28|>.t h33|>.t (hS2.t hs2)), by rw [hE]; exact hun, by rw [hE]; exact hnl⟩⟩
 have g123 := c37
 refine Zk <| Zt <| Zs <| ?_
 refine JC_cutB 130 (6 ≤ x.kind ∧ kdA ys 0 = 1 ∧ (n < 2 ∨ kdA ys 1 = 1)) ?_ ?_
 ·
  refine Zr <| W0 Y5 <| Wl 1 Y6 <| Zqge Z Z Z <| Zqm Z Z <| ?_
  refine JO_caseD (t := 128) Z (fun c39 => ?_) (fun c39 => ?_)
  ·
   refine Zg Z Z <| Zqm Z Z <| ZqT Z Z Z <| Zn <| ?_
   refine thenQ_n (MidB.mk (Lr D) Sb Z (decide_eq_decide.2 O))
  refine Wf Y4 <| ZqF Z Z Z <| Zn <| ?_
  refine thenQ_n (MidB.mk (Lr D) Sb Z ((decide_eq_false O).symm))
 intro s38 h38
 refine JC_ifD Z (fun c40 => ?_) (fun c40 => ?_)
 ·
  have g130 := c40
  have h0n : 0 < n := by have := kdA_lt g130.2.1; omega
  obtain ⟨ey, by1, oy, y0, Ay, ny, cy, hdy, hAy, hy0, hcy, _, huy, _⟩ := Exs.at_ (hE9.le (h11.t h13|>.t h28|>.t h33|>.t h38)) h0n
  have hky := kdA_at hy0
  refine Sr <| At Z Z <| Zs <| Sr <| Zqm Z Z <| Ws Y4 <| Zqeq Z Z Z <| Nt ?_
  refine JC_ifD Z (fun c41 => ?_) (fun c41 => ?_)
  ·
   have g133 := c41
   have h1n : 1 < n := by omega
   have hK7 : x.kind = 7 := by omega
   have hop := ho7 hK7
   obtain ⟨ex, bx1, ox, y1, Ax, nx, cx, hdx, hAx, hy1, hcx, _, hux, _⟩ := Exs.at_ (hE9.le (h11.t h13|>.t h28|>.t h33|>.t h38)) h1n
   have hkx := kdA_at hy1
   subst hAy
   injection hAx with hAx
   injection hAx with hAx1 hAx2
   subst hAx1; subst hAx2
   have hN := nq_7 (p := p) (f := f) hK7 hy0 hy1
   rw [if_pos O, if_pos O] at hN
   refine Zr <| Zqm Z Z <| JO_q (QE_iaN (j := 1) Z Z Z Z Z Z h1n) Z <| JO_q (QE_fa Z Z Z Z) Z <| JO_q (QE_ldsR 2 Z Z Z (hcx.le (Lr D)) Z) Z <| At Z Z <| Zs <| JC_draw drawsMixed 13 Z _ (fun _ h => h) ?_
   intro s42 h42
   refine za 0 Z (We Y4) Z <| za 1 Z (Wd 1 Y5) Z <| za 2 Z (QE_mv Z) Z <| za 3 Z (QE_iaN (j := 0) Z Z Z Z Z Z h0n) Z <| za 4 Z (QE_fa Z Z Z Z) Z <| za 5 Z (QE_ldsR 2 Z Z Z (hcy.le h42) Z) Z <| za 6 Z (QE_mv Z) Z <| JA_1 7 V <| Jb Z trivial Z Z Z (operR_ac D _ _ x.op y0.num y1.num huy hux O) ?_
   rintro _ _ s43 h43 ⟨rfl, rfl⟩
   refine ⟨fun _ _ h => h, ?_⟩
   refine za 8 Z (QE_mv Z) Z <| za 9 Z (QE_ext Z Z) Z <| za 10 Z (QE_ext Z Z) Z <| za 11 Z (QE_as Z) Z <| za 12 Z (QE_as Z) Z <| JA_done V <| Zt <| Sr <| Zqm Z Z <| Nt <| ?_
   refine JC_ifD Z (fun c44 => ?_) (fun c44 => ?_)
   ·
    have g149 := c44
    rw [if_pos g149] at hN
    have hE := fdX_some (p := p) (f := f) (x := x) (by rw [← hys]; exact hN)
    have hvu : U32 (opP x.op y0.num y1.num) := opP_u huy hux
    rw [if_pos g149]
    refine Sr <| Zqm Z Z <| JO_q (QE_build [(_, _), (_, _)] [_, _, _, _, _] Z Z Z Z Z Z) Z <| Wt 0 [_, _, _, _, _] Y9 <| Nt <| Zo <| Zu <| ?_
    refine retQ_mk [_, _, _] _ (.inr Z) (.agg (us := [_, _, _, _, _]) 0 Z Z Z Z Z (.nil)) Z (h1.t h2|>.t h3|>.t I4.1|>.t h10|>.t h11|>.t h13|>.t h28|>.t h33|>.t h38|>.t h42|>.t h43) (fun sR hS2 => ?_)
    first
      | exact ⟨[], rfl, fun s2 hs2 hp => ⟨none, 0, 0, by rw [hE]; rfl, by rw [hE]; exact exs_nil _ _, by rw [hE]; exact hvu, by rw [hE]; exact Nat.zero_le _⟩⟩
      | exact ⟨[], rfl, fun s2 hs2 hp => ⟨_, _, _, by rw [hE]; rfl, by rw [hE]; exact hE9.le (h11.t h13|>.t h28|>.t h33|>.t h38|>.t h42|>.t h43|>.t (hS2.t hs2)), by rw [hE]; exact hun, by rw [hE]; exact hnl⟩⟩
   have g149 := c44
   rw [if_neg g149] at hN
   have hE := fdX_none (p := p) (f := f) (x := x) (by rw [← hys]; exact hN)
   rw [← hys] at hE
   refine Zk <| Zt <| Sr <| JO_q (QE_ldA 1 [_, _, _, _, _] Z Z Z Z Z) Z <| Wt 0 [_, _, _, _, _] Y9 <| Nt <| Zo <| ?_
   refine retQ_mk [_, _, _] _ (.inr Z) (.agg (us := [_, _, _, _, _]) 0 Z Z Z Z Z (.nil)) Z (h1.t h2|>.t h3|>.t I4.1|>.t h10|>.t h11|>.t h13|>.t h28|>.t h33|>.t h38|>.t h42|>.t h43) (fun sR hS2 => ?_)
   first
     | exact ⟨[], rfl, fun s2 hs2 hp => ⟨none, 0, 0, by rw [hE]; rfl, by rw [hE]; exact exs_nil _ _, by rw [hE]; exact hvu, by rw [hE]; exact Nat.zero_le _⟩⟩
     | exact ⟨[], rfl, fun s2 hs2 hp => ⟨_, _, _, by rw [hE]; rfl, by rw [hE]; exact hE9.le (h11.t h13|>.t h28|>.t h33|>.t h38|>.t h42|>.t h43|>.t (hS2.t hs2)), by rw [hE]; exact hun, by rw [hE]; exact hnl⟩⟩
  have g133 := c41
  subst hAy
  have hK6 : x.kind = 6 := by omega
  have hop := ho6 hK6
  have hN0 := nq_6 (p := p) (f := f) hK6 hy0
  have hN : numP p f (x.withA ys) = if (oprF x.op 0).1 = 0 then some (opP x.op y0.num 0) else none := by
    rw [hN0]
    by_cases h : (oprF x.op 0).1 = 0
    · rw [if_pos ⟨by omega, h⟩, if_pos h]
    · rw [if_neg (fun k => h k.2), if_neg h]
  refine Zk <| Zt <| Zs <| JC_draw drawsMixed 13 Z _ (fun _ h => h) ?_
  intro s45 h45
  refine za 0 Z (We Y4) Z <| za 1 Z (Wd 1 Y5) Z <| za 2 Z (QE_mv Z) Z <| za 3 Z (QE_iaN (j := 0) Z Z Z Z Z Z h0n) Z <| za 4 Z (QE_fa Z Z Z Z) Z <| za 5 Z (QE_ldsR 2 Z Z Z (hcy.le h45) Z) Z <| za 6 Z (QE_mv Z) Z <| JA_1 7 V <| Jb Z trivial Z Z Z (operR_ac D _ _ x.op y0.num 0 huy ⟨by decide, by decide⟩ O) ?_
  rintro _ _ s46 h46 ⟨rfl, rfl⟩
  refine ⟨fun _ _ h => h, ?_⟩
  refine za 8 Z (QE_mv Z) Z <| za 9 Z (QE_ext Z Z) Z <| za 10 Z (QE_ext Z Z) Z <| za 11 Z (QE_as Z) Z <| za 12 Z (QE_as Z) Z <| JA_done V <| Zt <| Sr <| Zqm Z Z <| Nt <| ?_
  refine JC_ifD Z (fun c47 => ?_) (fun c47 => ?_)
  ·
   have g149 := c47
   rw [if_pos g149] at hN
   have hE := fdX_some (p := p) (f := f) (x := x) (by rw [← hys]; exact hN)
   have hvu : U32 (opP x.op y0.num 0) := opP_u huy ⟨by decide, by decide⟩
   rw [if_pos g149]
   refine Sr <| Zqm Z Z <| JO_q (QE_build [(_, _), (_, _)] [_, _, _, _, _] Z Z Z Z Z Z) Z <| Wt 0 [_, _, _, _, _] Y9 <| Nt <| Zo <| Zu <| ?_
   refine retQ_mk [_, _, _] _ (.inr Z) (.agg (us := [_, _, _, _, _]) 0 Z Z Z Z Z (.nil)) Z (h1.t h2|>.t h3|>.t I4.1|>.t h10|>.t h11|>.t h13|>.t h28|>.t h33|>.t h38|>.t h45|>.t h46) (fun sR hS2 => ?_)
   first
     | exact ⟨[], rfl, fun s2 hs2 hp => ⟨none, 0, 0, by rw [hE]; rfl, by rw [hE]; exact exs_nil _ _, by rw [hE]; exact hvu, by rw [hE]; exact Nat.zero_le _⟩⟩
     | exact ⟨[], rfl, fun s2 hs2 hp => ⟨_, _, _, by rw [hE]; rfl, by rw [hE]; exact hE9.le (h11.t h13|>.t h28|>.t h33|>.t h38|>.t h45|>.t h46|>.t (hS2.t hs2)), by rw [hE]; exact hun, by rw [hE]; exact hnl⟩⟩
  have g149 := c47
  rw [if_neg g149] at hN
  have hE := fdX_none (p := p) (f := f) (x := x) (by rw [← hys]; exact hN)
  rw [← hys] at hE
  refine Zk <| Zt <| Sr <| JO_q (QE_ldA 1 [_, _, _, _, _] Z Z Z Z Z) Z <| Wt 0 [_, _, _, _, _] Y9 <| Nt <| Zo <| ?_
  refine retQ_mk [_, _, _] _ (.inr Z) (.agg (us := [_, _, _, _, _]) 0 Z Z Z Z Z (.nil)) Z (h1.t h2|>.t h3|>.t I4.1|>.t h10|>.t h11|>.t h13|>.t h28|>.t h33|>.t h38|>.t h45|>.t h46) (fun sR hS2 => ?_)
  first
    | exact ⟨[], rfl, fun s2 hs2 hp => ⟨none, 0, 0, by rw [hE]; rfl, by rw [hE]; exact exs_nil _ _, by rw [hE]; exact hvu, by rw [hE]; exact Nat.zero_le _⟩⟩
    | exact ⟨[], rfl, fun s2 hs2 hp => ⟨_, _, _, by rw [hE]; rfl, by rw [hE]; exact hE9.le (h11.t h13|>.t h28|>.t h33|>.t h38|>.t h45|>.t h46|>.t (hS2.t hs2)), by rw [hE]; exact hun, by rw [hE]; exact hnl⟩⟩
 have g130 := c40
 have hE := fdX_none (p := p) (f := f) (x := x) (by rw [← hys]; exact nq_no g60 g104 g123 (by rw [hyl]; exact g130) (fun h => by rw [hyl]; exact hn6 h) (fun h => by rw [hyl]; exact hn7 h))
 rw [← hys] at hE
 refine Zk <| Zt <| Sr <| JO_q (QE_ldA 1 [_, _, _, _, _] Z Z Z Z Z) Z <| Wt 0 [_, _, _, _, _] Y9 <| Nt <| Zo <| ?_
 refine retQ_mk [_, _, _] _ (.inr Z) (.agg (us := [_, _, _, _, _]) 0 Z Z Z Z Z (.nil)) Z (h1.t h2|>.t h3|>.t I4.1|>.t h10|>.t h11|>.t h13|>.t h28|>.t h33|>.t h38) (fun sR hS2 => ?_)
 first
   | exact ⟨[], rfl, fun s2 hs2 hp => ⟨none, 0, 0, by rw [hE]; rfl, by rw [hE]; exact exs_nil _ _, by rw [hE]; exact hvu, by rw [hE]; exact Nat.zero_le _⟩⟩
   | exact ⟨[], rfl, fun s2 hs2 hp => ⟨_, _, _, by rw [hE]; rfl, by rw [hE]; exact hE9.le (h11.t h13|>.t h28|>.t h33|>.t h38|>.t (hS2.t hs2)), by rw [hE]; exact hun, by rw [hE]; exact hnl⟩⟩
theorem fex_of {D d : Nat} (h : ∀ (L : Hl) (s : World) (d0 : Nat) (p : Prg) (Ag Af : Option Addr) (ng cg nf cf : Nat) (hGl : Glos s Ag ng cg p.globals) (hFn : Fncs d0 s Af nf cf p.funcs) (i : Nat) (f : Fnc) (hf : p.funcs[i]? = some f) (x : Ex) (A : Option Addr) (n c : Nat) (hA : Exs d s A n c x.args) (hun : U32 x.num) (hnl : x.name.length ≤ 9223372036854775807) (hv : exV x = true), AC Tryz.prog D 72 [.agg #[.slice Ag ng cg, .slice Af nf cf], .int .i64 (i : Int), .agg #[.int .i64 x.kind, .int .i64 x.op, .int .u32 x.num, St x.name, .slice A n c]] L s fun v L' s' => ∃ M', L' = M' ++ L ∧ ∀ s2, Le D s' s2 → Pub M' s2 → ∃ A' n' c', v = .agg #[.int .i64 (fdX p f x).kind, .int .i64 (fdX p f x).op, .int .u32 (fdX p f x).num, St (fdX p f x).name, .slice A' n' c'] ∧ Exs d s2 A' n' c' (fdX p f x).args ∧ U32 (fdX p f x).num ∧ (fdX p f x).name.length ≤ 9223372036854775807) : FEX D d := fun L s d0 p Ag Af ng cg nf cf hGl hFn i f hf x A n c hA hun hnl hv => AC.pubW (h L s d0 p Ag Af ng cg nf cf hGl hFn i f hf x A n c hA hun hnl hv)
theorem fex (D : Nat) : ∀ d, FEX D d
  | 0 => fex_of (fex_step D 0 (fun e h => by omega))
  | d + 1 => fex_of (fex_step D (d + 1) (fun e h => (show d = e by omega) ▸ fex D d))
def FSS (D d : Nat) : Prop := ∀ (L : Hl) (s : World) (d0 : Nat) (p : Prg) (Ag Af : Option Addr) (ng cg nf cf : Nat) (hGl : Glos s Ag ng cg p.globals) (hFn : Fncs d0 s Af nf cf p.funcs) (i : Nat) (f : Fnc) (hf : p.funcs[i]? = some f) (A : Option Addr) (n c : Nat) (l : List Stm) (lv : Nat) (hA : Stms d s A n c l) (hv : stVs l lv = true) (hx9 : stNs l ≤ 4000000), AC Tryz.prog D 47 [.agg #[.slice Ag ng cg, .slice Af nf cf], .int .i64 (i : Int), .slice A n c] L s fun v L' s' => L = L' ∧ ∃ A' n' c', v = .slice A' n' c' ∧ Stms d s' A' n' c' (fdSs p f l)
theorem fss_step (D d : Nat) (ih : ∀ e, d = e + 1 → FSS D e) (L : Hl) (s : World) (d0 : Nat) (p : Prg) (Ag Af : Option Addr) (ng cg nf cf : Nat) (hGl : Glos s Ag ng cg p.globals) (hFn : Fncs d0 s Af nf cf p.funcs) (i : Nat) (f : Fnc) (hf : p.funcs[i]? = some f) (A : Option Addr) (n c : Nat) (l : List Stm) (lv : Nat) (hA : Stms d s A n c l) (hv : stVs l lv = true) (hx9 : stNs l ≤ 4000000) : AC Tryz.prog D 47 [.agg #[.slice Ag ng cg, .slice Af nf cf], .int .i64 (i : Int), .slice A n c] L s fun v L' s' => ∃ M', L' = M' ++ L ∧ ∀ s2, Le D s' s2 → Pub M' s2 → ∃ A' n' c', v = .slice A' n' c' ∧ Stms d s2 A' n' c' (fdSs p f l) := by
 have hn9 := hA.1
 have hc1 := hA.2.1
 have hc2 := hA.2.2.1
 refine AC_enter (TT := TT) (fn := Tryz.f47) TT_ok Tryz.func47 V Z Tryz.ntmps47 Z (rs := [.tmp 6]) Z [(0, _), (1, _), (2, _)] Z <| Sr <| JO_boxA Z Z ?_
 intro β1 s1 h1
 refine At Z Z <| Sr <| At Z Z <| Zs <| Sr <| At Z Z <| Zp <| ?_
 refine JC_loop (γ := Nat × Value × Hl) (fun g => [(1, _), (2, _), (3, _), (6, _), (7, g.2.1), (8, .int .i64 (g.1 : Int))]) (fun g => _ :: (g.2.2 ++ L)) (fun g tw => Le D s1 tw ∧ (g.1 ≤ n ∧ ∃ css, FL.Own 65 5 g.2.2 g.2.1 g.1 (List.flatten css) ∧ All2 (fun x cs => cs.length = 5 ∧ StR d tw x cs) ((l.take g.1).map (fdS p f)) css)) (fun g => n - g.1) (fun _ _ _ h hl => ⟨h.1.trans hl, ⟨h.2.1, by obtain ⟨css, q1, q2⟩ := h.2.2; exact ⟨css, q1, q2.mono fun _ _ k => ⟨k.1, k.2.le hl⟩⟩⟩⟩) (0, .slice none 0 0, []) (.cons Z (.cons Z (.cons Z (.cons Z (.cons Z (.cons Z (.nil _))))))) Z ⟨Le.refl _, ⟨Nat.zero_le _, [], FL.Own.nil, .nil⟩⟩ ?_
 intro g s2 I2
 obtain ⟨k, vo, Mo⟩ := g
 obtain ⟨hk0, css, hO, hA2⟩ := I2.2
 simp only at hk0 hO hA2
 dsimp only
 obtain ⟨Ao, co, rfl, _, _⟩ := Own.slice hO
 refine Zs <| Sr <| Zqm Z Z <| Zqm Z Z <| Ws Y4 <| Zqlt Z Z Z <| Nt <| ?_
 refine JC_ifD Z (fun c3 => ?_) (fun c3 => ?_)
 ·
  have hk : k < n := by omega
  obtain ⟨e, b, off, x, A1, n1, p1, A2, n2, p2, A3, n3, p3, hd, rfl, hx, hcx, hax, hbx, hex, hnl⟩ := Stms.at_ (hA.le (h1.t I2.1)) hk
  have hx8 := stNs_mem hx
  obtain ⟨hvx, _⟩ := stV_at hv hx
  obtain ⟨hlv, _, hvE, hvB, hvL⟩ := stV_eq hvx
  have hn1 := hax.1
  have hq1 := hax.2.1
  have hq2 := hax.2.2.1
  refine Zk <| Zt <| Zs <| Zp <| Sr <| Zqm Z Z <| Zqm Z Z <| JO_q (QE_iaN Z Z Z Z Z Z hk) Z <| JO_q (QE_ldsA Z Z Z (hcx.le (Lr D)) Z) Z <| JO_allocZ Z [_, _, _, _, _] Z Z ?_
  intro β4 s4 h4
  refine Wt 0 [_, _, _, _, _] Y9 <| Nt <| Sr <| At Z Z <| Zs <| Sr <| At Z Z <| Zp <| ?_
  refine JC_loop (γ := Nat × Value × Hl) (fun g => [(1, _), (2, _), (3, _), (6, _), (7, _), (8, _), (9, _), (10, g.2.1), (11, .int .i64 (g.1 : Int))]) (fun g => _ :: _ :: (g.2.2 ++ (Mo ++ L))) (fun g tw => Le D s4 tw ∧ (g.1 ≤ n1 ∧ ∃ css, FL.Own 61 5 g.2.2 g.2.1 g.1 (List.flatten css) ∧ All2 (fun x cs => cs.length = 5 ∧ ExR e tw x cs) ((x.exprs.take g.1).map (fdX p f)) css)) (fun g => n1 - g.1) (fun _ _ _ h hl => ⟨h.1.trans hl, ⟨h.2.1, by obtain ⟨css, q1, q2⟩ := h.2.2; exact ⟨css, q1, q2.mono fun _ _ k => ⟨k.1, k.2.le hl⟩⟩⟩⟩) (0, .slice none 0 0, []) (.cons Z (.cons Z (.cons Z (.cons Z (.cons Z (.cons Z (.cons Z (.cons Z (.cons Z (.nil _)))))))))) Z ⟨Le.refl _, ⟨Nat.zero_le _, [], FL.Own.nil, .nil⟩⟩ ?_
  intro g s5 I5
  obtain ⟨j, vi, Mi⟩ := g
  obtain ⟨hj0, csi, hOi, hAi⟩ := I5.2
  simp only at hj0 hOi hAi
  dsimp only
  obtain ⟨Ai, ci, rfl, _, _⟩ := Own.slice hOi
  refine Zs <| Sr <| Zqm Z Z <| Wb Y5 <| Wl 0 Y6 <| Ws Y4 <| Zqlt Z Z Z <| Nt <| ?_
  refine JC_ifD Z (fun c6 => ?_) (fun c6 => ?_)
  ·
   have hj : j < n1 := by omega
   obtain ⟨e2, b2, off2, y, A4, n4, c4, hde, rfl, hy, hcy, hay, huy, hny⟩ := Exs.at_ (hax.le (h4.t I5.1)) hj
   obtain ⟨hvy, _⟩ := exV_at hvE hy
   have hy8 := exNs_mem hy
   refine Zk <| Zt <| Zs <| Zp <| JC_drawT drawsMixed 12 Z 2 ?_
   intro s7 h7
   refine za 0 Z (QE_mv Z) Z <| za 1 Z (QE_ldA 1 [_, _] Z Z Z Z Z) Z <| za 2 Z (QE_mv Z) Z <| za 3 Z (We Y4) Z <| za 4 Z (Wd 0 Y5) Z <| za 5 Z (QE_mv Z) Z <| za 6 Z (QE_iaN Z Z Z Z Z Z hj) Z <| za 7 Z (QE_ldsA Z Z Z (hcy.le h7) Z) Z <| JA_1 8 V <| Jb Z trivial Z Z Z (fex D e2 _ _ d0 p Ag Af ng cg nf cf (hGl.le (h1.t I2.1|>.t h4|>.t I5.1|>.t h7)) (hFn.le (h1.t I2.1|>.t h4|>.t I5.1|>.t h7)) i f hf y A4 n4 c4 (hay.le h7) huy hny hvy) ?_
   rintro _ _ s8 h8 ⟨rfl, Ar, nr, cr, rfl, hRr, hur, hlr⟩
   refine ⟨fun _ _ h => h, ?_⟩
   refine JA_1 9 V <| JB_bs Z trivial [(_, _)] [_, _, _, _, _] Z Z Z Z Z Z Z Z Z ?_
   intro βn s9 h9 hcb
   refine JA_1 10 V <| JB_app (sz := 5) Z (by exact trivial) [_, _] Mi (Mo ++ L) Z Z Z Z Z Z Z hOi (Row.of_cells (hcb.le (Lr D)) Z Z) ⟨by simp [ti61]; omega, by omega⟩ Z (fun A2 x hx _ => memK2 hx) ?_
   intro vw Mw s10 h10 ow
   obtain ⟨Avw, cvw, rfl, _, _⟩ := Own.slice ow
   simp only [c9, n9]
   refine za 11 Z (QE_as Z) Z <| JA_done V <| Zb <| Zt <| Zr <| Zqm Z Z <| Zqadd Z Z Z (w64 O O) <| Zqa Z Z <| Zn <| ?_
   refine thenQ_n ⟨(j + 1, .slice Avw (j + 1) cvw, Mw), [], kp, Z, ⟨(I5.1.t h7|>.t h8|>.t h9|>.t h10), ⟨by simp only; omega, csi ++ [[.int .i64 (fdX p f y).kind, .int .i64 (fdX p f y).op, .int .u32 (fdX p f y).num, St (fdX p f y).name, .slice Ar nr cr]], by simp only [List.flatten_append, List.flatten_cons, List.flatten_nil, List.append_nil]; exact ow, by simp only; rw [take_snocE hy, List.map_append]; exact all2_snoc' (hAi.mono fun _ _ k => ⟨k.1, k.2.le (h7.t h8|>.t h9|>.t h10)⟩) ⟨Z, hde ▸ ⟨Ar, nr, cr, Z, hRr.le (h9.t h10), hur, hlr⟩⟩⟩⟩, (by simp only; omega)⟩
  obtain rfl : n1 = j := by omega
  rw [List.take_of_length_le O] at hAi
  refine Zl <| Zv <| Zv <| Zd <| Zt <| Zs <| JC_pubX [_, _] Mi _ ?_
  intro s11 h11 hpub11
  simp only [c9, n9]
  have hE9 : Exs e s11 Ai n1 ci (fdXs p f x.exprs) := by
    rw [fdXs_map]
    exact Own.rows hOi hpub11 (hAi.mono fun _ _ k => ⟨k.1, k.2.le h11⟩) (by rw [List.length_map, hn1])
  refine Zr <| Zqm Z Z <| Wb Y5 <| Wt 0 [_, _, _, _, _] Y9 <| Nt <| Sr <| JO_q (QE_ldA 1 [_, _] Z Z Z Z Z) Z <| Zqm Z Z <| Wb Y5 <| Wl 0 Y6 <| Jc Z Z Z (ih e hd _ _ d0 p Ag Af ng cg nf cf (hGl.le (h1.t I2.1|>.t h4|>.t I5.1|>.t h11)) (hFn.le (h1.t I2.1|>.t h4|>.t I5.1|>.t h11)) i f hf A2 n2 p2 x.body (lv + 1) (hbx.le (h4.t I5.1|>.t h11)) hvB O) ?_
  rintro _ _ s12 h12 ⟨rfl, Ab, nb, cb9, rfl, hRb⟩
  refine Wb Y5 <| Wt 0 [_, _, _, _, _] Y9 <| Nt <| Sr <| JO_q (QE_ldA 1 [_, _] Z Z Z Z Z) Z <| Zqm Z Z <| Wb Y5 <| Wl 0 Y6 <| Jc Z Z Z (ih e hd _ _ d0 p Ag Af ng cg nf cf (hGl.le (h1.t I2.1|>.t h4|>.t I5.1|>.t h11|>.t h12)) (hFn.le (h1.t I2.1|>.t h4|>.t I5.1|>.t h11|>.t h12)) i f hf A3 n3 p3 x.els (lv + 1) (hex.le (h4.t I5.1|>.t h11|>.t h12)) hvL O) ?_
  rintro _ _ s13 h13 ⟨rfl, Ae, ne, ce, rfl, hRe⟩
  refine Wb Y5 <| Wt 0 [_, _, _, _, _] Y9 <| Nt <| Zr <| Zqm Z Z <| JO_q (QE_ldA 0 [_, _, _, _, _] Z Z Z Z Z) Z <| JO_bs [(_, _)] [_, _, _, _, _] Z Z Z Z Z Z Z Z Z ?_
  intro βn s14 h14 hcb
  refine JO_app (sz := 5) [_, _] Mo L Z Z Z Z Z Z Z hO (Row.of_cells (hcb.le (Lr D)) Z Z) ⟨by simp [ti65]; omega, by omega⟩ Z ?_
  intro vq Mq s15 h15 oq
  obtain ⟨Avq, cvq, rfl, _, _⟩ := Own.slice oq
  simp only [c9, n9]
  refine Zqa Z Z <| Zn <| Zb <| Zt <| Zr <| Zqm Z Z <| Zqadd Z Z Z (w64 O O) <| Zqa Z Z <| Zn <| ?_
  refine thenQ_n ⟨(k + 1, .slice Avq (k + 1) cvq, Mq), [_], kp, Z, ⟨(I2.1.t h4|>.t I5.1|>.t h11|>.t h12|>.t h13|>.t h14|>.t h15), ⟨by simp only; omega, css ++ [[.int .i64 x.kind, St x.name, .slice Ai n1 ci, .slice Ab nb cb9, .slice Ae ne ce]], by simp only [List.flatten_append, List.flatten_cons, List.flatten_nil, List.append_nil]; exact oq, by simp only; rw [take_snocE hx, List.map_append]; exact all2_snoc' (hA2.mono fun _ _ k => ⟨k.1, k.2.le (h4.t I5.1|>.t h11|>.t h12|>.t h13|>.t h14|>.t h15)⟩) ⟨Z, hd ▸ (fdS_eq p f x).symm ▸ ⟨Ai, n1, ci, Ab, nb, cb9, Ae, ne, ce, Z, hE9.le (h12.t h13|>.t h14|>.t h15), hRb.le (h13.t h14|>.t h15), hRe.le (h14.t h15), hnl⟩⟩⟩⟩, (by simp only; omega)⟩
 obtain rfl : n = k := by omega
 rw [List.take_of_length_le O] at hA2
 refine Zl <| Zv <| Zv <| Zd <| Zt <| Sr <| Zqm Z Z <| At Z Z <| Zo <| ?_
 refine retQ_mk [_] _ (.inr Z) (.tmp Z (.nil)) Z (h1.t I2.1) (fun sR hS2 => ?_)
 exact ⟨Mo, rfl, fun s2 hs2 hp => ⟨_, _, _, rfl, by rw [fdSs_map]; exact Own.rows hO hp (hA2.mono fun _ _ k => ⟨k.1, k.2.le ((Lr D).t (hS2.t hs2))⟩) (by rw [List.length_map, hn9])⟩⟩
theorem fss_of {D d : Nat} (h : ∀ (L : Hl) (s : World) (d0 : Nat) (p : Prg) (Ag Af : Option Addr) (ng cg nf cf : Nat) (hGl : Glos s Ag ng cg p.globals) (hFn : Fncs d0 s Af nf cf p.funcs) (i : Nat) (f : Fnc) (hf : p.funcs[i]? = some f) (A : Option Addr) (n c : Nat) (l : List Stm) (lv : Nat) (hA : Stms d s A n c l) (hv : stVs l lv = true) (hx9 : stNs l ≤ 4000000), AC Tryz.prog D 47 [.agg #[.slice Ag ng cg, .slice Af nf cf], .int .i64 (i : Int), .slice A n c] L s fun v L' s' => ∃ M', L' = M' ++ L ∧ ∀ s2, Le D s' s2 → Pub M' s2 → ∃ A' n' c', v = .slice A' n' c' ∧ Stms d s2 A' n' c' (fdSs p f l)) : FSS D d := fun L s d0 p Ag Af ng cg nf cf hGl hFn i f hf A n c l lv hA hv hx9 => AC.pubW (h L s d0 p Ag Af ng cg nf cf hGl hFn i f hf A n c l lv hA hv hx9)
theorem fss (D : Nat) : ∀ d, FSS D d
  | 0 => fss_of (fss_step D 0 (fun e h => by omega))
  | d + 1 => fss_of (fss_step D (d + 1) (fun e h => (show d = e by omega) ▸ fss D d))
theorem foldedO_ac (D : Nat) (L : Hl) (s : World) (d : Nat) (p : Prg) (Ag Af : Option Addr) (ng cg nf cf : Nat) (hGl : Glos s Ag ng cg p.globals) (hFn : Fncs d s Af nf cf p.funcs) (hV : PV p) : AC Tryz.prog D 23 [.agg #[.slice Ag ng cg, .slice Af nf cf]] L s fun v L' s' => ∃ M', L' = M' ++ L ∧ ∀ s2, Le D s' s2 → Pub M' s2 → ∃ Bf mf ef, v = .agg #[.slice Ag ng cg, .slice Bf mf ef] ∧ Fncs d s2 Bf mf ef (foldP p).funcs := by
 have hn1 := hGl.1
 have hn2 := hFn.1
 have hU : prU p := ⟨hGl.u, hFn.u⟩
 have hV1 := hV.1
 have hV2 := hV.2.1
 refine AC_enter (TT := TT) (fn := Tryz.f23) TT_ok Tryz.func23 V Z Tryz.ntmps23 Z (rs := [.cell 2 25]) Z [(0, _)] Z <| Sr <| JO_boxA Z Z ?_
 intro β1 s1 h1
 refine JO_allocZ Z [_, _] Z Z ?_
 intro β2 s2 h2
 refine Nt <| Sr <| W0 Y5 <| Wl 1 Y6 <| JO_q (QE_build [(_, _)] [_, _] Z Z Z Z Z Z) Z <| JO_allocZ Z [_, _] Z Z ?_
 intro β3 s3 h3
 refine Wt 0 [_, _] Y9 <| Nt <| Zs <| Sr <| At Z Z <| Zp <| ?_
 refine JC_loop (γ := Nat × Value × Hl) (fun g => [(1, _), (2, _), (3, _), (4, .int .i64 (g.1 : Int))]) (fun g => (β3, cb [.slice Ag ng cg, g.2.1] 25) :: _ :: _ :: (g.2.2 ++ L)) (fun g tw => Le D s3 tw ∧ (g.1 ≤ nf ∧ ∃ css, FL.Own 55 4 g.2.2 g.2.1 g.1 (List.flatten css) ∧ All2 (fun x cs => cs.length = 4 ∧ FnR d tw x cs) ((p.funcs.take g.1).map (fdF p)) css)) (fun g => nf - g.1) (fun _ _ _ h hl => ⟨h.1.trans hl, ⟨h.2.1, by obtain ⟨css, q1, q2⟩ := h.2.2; exact ⟨css, q1, q2.mono fun _ _ k => ⟨k.1, k.2.le hl⟩⟩⟩⟩) (0, .slice none 0 0, []) (.cons Z (.cons Z (.cons Z (.cons Z (.nil _))))) Z ⟨Le.refl _, ⟨Nat.zero_le _, [], FL.Own.nil, .nil⟩⟩ ?_
 intro g s4 I4
 obtain ⟨k, vo, Mo⟩ := g
 obtain ⟨hk0, css, hO, hA2⟩ := I4.2
 simp only at hk0 hO hA2
 dsimp only
 obtain ⟨Ao, co, rfl, _, _⟩ := Own.slice hO
 refine Zs <| Sr <| Zqm Z Z <| Wb Y5 <| Wl 2 Y6 <| Ws Y4 <| Zqlt Z Z Z <| Nt <| ?_
 refine JC_ifD Z (fun c5 => ?_) (fun c5 => ?_)
 ·
  have hk : k < nf := by omega
  obtain ⟨b, off, x, B1, m1, d1, B2, m2, d2, B3, m3, d3, rfl, hx, hcx, hpx, hlx, hbx, hnl⟩ := Fncs.at_ (hFn.le (h1.t h2|>.t h3|>.t I4.1)) hk
  obtain ⟨hi1, hi2, hi3, hi4, hi5, hi6⟩ := hV.2.2.2.1 x (List.mem_of_getElem? hx)
  refine Zk <| Zt <| Zs <| Zp <| Sr <| Wb Y5 <| Wl 2 Y6 <| Zqm Z Z <| JO_q (QE_iaN Z Z Z Z Z Z hk) Z <| JO_q (QE_ldsA Z Z Z (hcx.le (Lr D)) Z) Z <| JO_allocZ Z [_, _, _, _] Z Z ?_
  intro β6 s6 h6
  refine Wt 0 [_, _, _, _] Y9 <| Nt <| Sr <| JO_q (QE_ldA 3 [_, _] Z Z Z Z Z) Z <| Zqm Z Z <| Wb Y5 <| Wl 0 Y6 <| Jc Z Z Z (fss D d _ _ d p Ag _ ng cg nf cf (hGl.le (h1.t h2|>.t h3|>.t I4.1|>.t h6)) (hFn.le (h1.t h2|>.t h3|>.t I4.1|>.t h6)) k x hx B3 m3 d3 x.body 1 (hbx.le h6) hi5 O) ?_
  rintro _ _ s7 h7 ⟨rfl, Ab, nb, cb9, rfl, hRb⟩
  refine Wb Y5 <| Wt 0 [_, _, _, _] Y9 <| Nt <| Zr <| Wb Y5 <| Wl 1 Y6 <| JO_q (QE_ldA 0 [_, _, _, _] Z Z Z Z Z) Z <| JO_bs [(_, _)] [_, _, _, _] Z Z Z Z Z Z Z Z Z ?_
  intro βn s8 h8 hcb
  refine JO_app (sz := 4) [_, _, _, _] Mo L Z Z Z Z Z Z Z hO (Row.of_cells (hcb.le (Lr D)) Z Z) ⟨by simp [ti55]; omega, by omega⟩ Z ?_
  intro vq Mq s9 h9 oq
  obtain ⟨Avq, cvq, rfl, _, _⟩ := Own.slice oq
  simp only [c9, n9]
  refine Wb Y5 <| Wt 1 [_, _] Y9 <| Zn <| Zb <| Zt <| Zr <| Zqm Z Z <| Zqadd Z Z Z (w64 O O) <| Zqa Z Z <| Zn <| ?_
  refine thenQ_n ⟨(k + 1, .slice Avq (k + 1) cvq, Mq), [_], kp, Z, ⟨(I4.1.t h6|>.t h7|>.t h8|>.t h9), ⟨by simp only; omega, css ++ [[St x.name, .slice B1 m1 d1, .slice B2 m2 d2, .slice Ab nb cb9]], by simp only [List.flatten_append, List.flatten_cons, List.flatten_nil, List.append_nil]; exact oq, by simp only; rw [take_snocE hx, List.map_append]; exact all2_snoc' (hA2.mono fun _ _ k => ⟨k.1, k.2.le (h6.t h7|>.t h8|>.t h9)⟩) ⟨Z, B1, m1, d1, B2, m2, d2, Ab, nb, cb9, Z, hpx.le (h6.t h7|>.t h8|>.t h9), hlx.le (h6.t h7|>.t h8|>.t h9), hRb.le (h8.t h9), hnl⟩⟩⟩, (by simp only; omega)⟩
 obtain rfl : nf = k := by omega
 rw [List.take_of_length_le O] at hA2
 refine Zl <| Zv <| Zv <| Zd <| Zt <| Sr <| JO_q (QE_ldA 0 [_, _] Z Z Z Z Z) Z <| Wt 1 [_, _] Y9 <| Nt <| Zo <| ?_
 refine retQ_mk [_, _, _] _ (.inr Z) (.agg (us := [_, _]) 1 Z Z Z Z Z (.nil)) Z (h1.t h2|>.t h3|>.t I4.1) (fun sR hS2 => ?_)
 exact ⟨Mo, rfl, fun s2 hs2 hp => ⟨_, _, _, rfl, Own.rows hO hp (hA2.mono fun _ _ k => ⟨k.1, k.2.le ((Lr D).t (hS2.t hs2))⟩) (show nf = (p.funcs.map (fdF p)).length by rw [List.length_map, hn2])⟩⟩
theorem folded_ac (D : Nat) (L : Hl) (s : World) (d : Nat) (p : Prg) (Ag Af : Option Addr) (ng cg nf cf : Nat) (hGl : Glos s Ag ng cg p.globals) (hFn : Fncs d s Af nf cf p.funcs) (hV : PV p) : AC Tryz.prog D 23 [.agg #[.slice Ag ng cg, .slice Af nf cf]] L s fun v L' s' => L = L' ∧ ∃ Bf mf ef, v = .agg #[.slice Ag ng cg, .slice Bf mf ef] ∧ Fncs d s' Bf mf ef (foldP p).funcs := AC.pubW (foldedO_ac D L s d p Ag Af ng cg nf cf hGl hFn hV)
theorem lawFold_ac (D : Nat) (L : Hl) (s : World) (hG : GP s) (d : Nat) (p : Prg) (Ag Af : Option Addr) (ng cg nf cf : Nat) (hGl : Glos s Ag ng cg p.globals) (hFn : Fncs d s Af nf cf p.funcs) : AC Tryz.prog D 7 [.agg #[.slice Ag ng cg, .slice Af nf cf]] L s fun v L' _ => v = .bool true ∧ L = L' := by
 have hn1 := hGl.1
 have hn2 := hFn.1
 have hU : prU p := ⟨hGl.u, hFn.u⟩
 refine AC_enter (TT := TT) (fn := Tryz.f7) TT_ok Tryz.func7 V Z Tryz.ntmps7 Z (rs := [.tmp 2]) Z [(0, _)] Z <| Sr <| JO_boxA Z Z ?_
 intro β1 s1 h1
 refine At Z Z <| Sr <| JO_q (QE_ldA 0 [_, _] Z Z Z Z Z) Z <| Jc Z Z Z (fold_ac D _ _ (hG.le h1) d p Ag Af ng cg nf cf (hGl.le h1) (hFn.le h1)) ?_
 rintro _ _ s2 h2 ⟨rfl, Xg, kXg, jXg, Xf, kXf, jXf, rfl, hXg, hXf⟩
 refine Zqm Z Z <| Zqx Z Z Z <| Zqx Z Z Z <| JO_allocZ Z [_, _] Z Z ?_
 intro β3 s3 h3
 refine JO_allocZ Z [_, _] Z Z ?_
 intro β4 s4 h4
 refine Wt 1 [_, _] Y9 <| Wt 0 [_, _] Y9 <| Nt <| Sr <| JO_q (QE_ldA 2 [_, _] Z Z Z Z Z) Z <| Jc Z Z Z (rchk_ac D _ _ d p Ag Af ng cg nf cf (hGl.le (h1.t h2|>.t h3|>.t h4)) (hFn.le (h1.t h2|>.t h3|>.t h4))) ?_
 rintro _ _ s5 h5 ⟨rfl, rfl⟩
 refine JO_allocZ Z [_, _] Z Z ?_
 intro β6 s6 h6
 refine Wt 0 [_, _] Y9 <| Nt <| Sr <| JO_q (QE_build [] [_, _] Z Z Z Z Z Z) Z <| JO_allocZ Z [_, _] Z Z ?_
 intro β7 s7 h7
 refine Wt 0 [_, _] Y9 <| Nt <| Zs <| Sr <| W0 Y5 <| Wl 1 Y6 <| Zqeq Z Z Z <| Nt <| ?_
 refine JC_ifD Z (fun c8 => ?_) (fun c8 => ?_)
 ·
  have g17 : (chkF p).1 = 0 := c8
  obtain ⟨hOK, hz0⟩ := OKP.of hU g17
  have hV := hOK.1
  refine Sr <| JO_q (QE_ldA 4 [_, _] Z Z Z Z Z) Z <| Jc Z Z Z (folded_ac D _ _ d p Ag Af ng cg nf cf (hGl.le (h1.t h2|>.t h3|>.t h4|>.t h5|>.t h6|>.t h7)) (hFn.le (h1.t h2|>.t h3|>.t h4|>.t h5|>.t h6|>.t h7)) hV) ?_
  rintro _ _ s9 h9 ⟨rfl, Ef, kEf, jEf, rfl, hEf⟩
  refine Wt 0 [_, _] Y9 <| Nt <| Sr <| JO_q (QE_ldA 0 [_, _] Z Z Z Z Z) Z <| Jc Z Z Z (rprgF_ac D _ _ d (foldP p) Ag Ef ng cg kEf jEf (hGl.le (h1.t h2|>.t h3|>.t h4|>.t h5|>.t h6|>.t h7|>.t h9)) (hEf.le (Lr D))) ?_
  rintro _ _ s10 h10 ⟨rfl, rfl⟩
  refine Wt 1 [_, _] Y9 <| Nt <| Sr <| W0 Y5 <| Wl 1 Y6 <| Zqne Z Z Z <| Nt <| ?_
  refine JC_ifN Z (fun c11 => ?_) (fun c11 => ?_)
  ·
   have hF : foldR p = (⟨[], []⟩, prgF (foldP p)) := (if_neg (fun h => h g17)).trans (if_pos c11)
   have hW : (foldR p).2.1 = (prgF (foldP p)).1 ∧ (foldR p).2.2 = (prgF (foldP p)).2 := by rw [hF]; exact ⟨rfl, rfl⟩
   rw [hF] at hXg hXf
   refine Zr <| JO_q (QE_build [] [_, _] Z Z Z Z Z Z) Z <| Wt 0 [_, _] Y9 <| Nt <| Sr <| Jc Z Z Z (checked_ac D _ _ (hG.le (h1.t h2|>.t h3|>.t h4|>.t h5|>.t h6|>.t h7|>.t h9|>.t h10))) ?_
   rintro _ _ s12 h12 ⟨rfl, rfl⟩
   refine Zqm Z Z <| Zg Z Z <| JO_q (QE_ldA 2 [_, _] Z Z Z Z Z) Z <| Zg Z Z <| JO_q (QE_ldA 1 [_, _] Z Z Z Z Z) Z <| Zg Z Z <| JO_q (QE_cast (v' := .bool true) (QE_aeq Z Z (eqFault _ _ _ _)) (bT hW)) Z <| ZqT Z Z Z <| Zqm Z Z <| Zg Z Z <| JO_q (QE_ldA 3 [_, _] Z Z Z Z Z) Z <| Zg Z Z <| JO_q (QE_ldA 0 [_, _] Z Z Z Z Z) Z <| Zg Z Z <| Jc Z Z Z (sameP_ac D _ _ d ⟨[], []⟩ _ _ _ _ _ _ (hXg.le (h3.t h4|>.t h5|>.t h6|>.t h7|>.t h9|>.t h10|>.t h12)) (hXf.le (h3.t h4|>.t h5|>.t h6|>.t h7|>.t h9|>.t h10|>.t h12)) d none none 0 0 0 0 (glos_nil _) (fncs_nil d _)) ?_
   rintro _ _ s13 h13 ⟨rfl, rfl⟩
   refine ZqT Z Z Z <| At Z Z <| Zo <| ?_
   refine retQ_mk [_, _, _, _, _] L (.inr Z) (.tmp Z (.nil)) Z (h1.t h2|>.t h3|>.t h4|>.t h5|>.t h6|>.t h7|>.t h9|>.t h10|>.t h12|>.t h13) (fun sR hS2 => ?_)
   exact ⟨rfl, rfl⟩
  have hz : prgF (foldP p) = (0, 0) := prgF_00 c11
  have hF : foldR p = (foldP p, (0, 0)) := (if_neg (fun h => h g17)).trans (if_neg (by rw [hz]; decide))
  have hW : (foldR p).2.1 = (prgF (foldP p)).1 ∧ (foldR p).2.2 = (prgF (foldP p)).2 := by rw [hF, hz]; exact ⟨rfl, rfl⟩
  rw [hF] at hXg hXf
  refine Zk <| Zt <| Sr <| Jc Z Z Z (checked_ac D _ _ (hG.le (h1.t h2|>.t h3|>.t h4|>.t h5|>.t h6|>.t h7|>.t h9|>.t h10))) ?_
  rintro _ _ s14 h14 ⟨rfl, rfl⟩
  refine Zqm Z Z <| Zg Z Z <| JO_q (QE_ldA 2 [_, _] Z Z Z Z Z) Z <| Zg Z Z <| JO_q (QE_ldA 1 [_, _] Z Z Z Z Z) Z <| Zg Z Z <| JO_q (QE_cast (v' := .bool true) (QE_aeq Z Z (eqFault _ _ _ _)) (bT hW)) Z <| ZqT Z Z Z <| Zqm Z Z <| Zg Z Z <| JO_q (QE_ldA 3 [_, _] Z Z Z Z Z) Z <| Zg Z Z <| JO_q (QE_ldA 0 [_, _] Z Z Z Z Z) Z <| Zg Z Z ?_
  refine Jc Z Z Z (sameP_ac D _ _ d (foldP p) _ _ _ _ _ _ (hXg.le (h3.t h4|>.t h5|>.t h6|>.t h7|>.t h9|>.t h10|>.t h14)) (hXf.le (h3.t h4|>.t h5|>.t h6|>.t h7|>.t h9|>.t h10|>.t h14)) d Ag Ef ng cg kEf jEf (hGl.le (h1.t h2|>.t h3|>.t h4|>.t h5|>.t h6|>.t h7|>.t h9|>.t h10|>.t h14)) (hEf.le (h10.t h14))) ?_
  rintro _ _ s15 h15 ⟨rfl, rfl⟩
  refine ZqT Z Z Z <| At Z Z <| Zo <| ?_
  refine retQ_mk [_, _, _, _, _] L (.inr Z) (.tmp Z (.nil)) Z (h1.t h2|>.t h3|>.t h4|>.t h5|>.t h6|>.t h7|>.t h9|>.t h10|>.t h14|>.t h15) (fun sR hS2 => ?_)
  exact ⟨rfl, rfl⟩
 have hF : foldR p = (⟨[], []⟩, chkF p) := if_pos c8
 have hW : (foldR p).2.1 = (chkF p).1 ∧ (foldR p).2.2 = (chkF p).2 := by rw [hF]; exact ⟨rfl, rfl⟩
 rw [hF] at hXg hXf
 refine Zk <| Zt <| Sr <| Jc Z Z Z (checked_ac D _ _ (hG.le (h1.t h2|>.t h3|>.t h4|>.t h5|>.t h6|>.t h7))) ?_
 rintro _ _ s16 h16 ⟨rfl, rfl⟩
 refine Zqm Z Z <| Zg Z Z <| JO_q (QE_ldA 2 [_, _] Z Z Z Z Z) Z <| Zg Z Z <| JO_q (QE_ldA 1 [_, _] Z Z Z Z Z) Z <| Zg Z Z <| JO_q (QE_cast (v' := .bool true) (QE_aeq Z Z (eqFault _ _ _ _)) (bT hW)) Z <| ZqT Z Z Z <| Zqm Z Z <| Zg Z Z <| JO_q (QE_ldA 3 [_, _] Z Z Z Z Z) Z <| Zg Z Z <| JO_q (QE_ldA 0 [_, _] Z Z Z Z Z) Z <| Zg Z Z <| Jc Z Z Z (sameP_ac D _ _ d ⟨[], []⟩ _ _ _ _ _ _ (hXg.le (h3.t h4|>.t h5|>.t h6|>.t h7|>.t h16)) (hXf.le (h3.t h4|>.t h5|>.t h6|>.t h7|>.t h16)) d none none 0 0 0 0 (glos_nil _) (fncs_nil d _)) ?_
 rintro _ _ s17 h17 ⟨rfl, rfl⟩
 refine ZqT Z Z Z <| At Z Z <| Zo <| ?_
 refine retQ_mk [_, _, _, _, _] L (.inr Z) (.tmp Z (.nil)) Z (h1.t h2|>.t h3|>.t h4|>.t h5|>.t h6|>.t h7|>.t h16|>.t h17) (fun sR hS2 => ?_)
 exact ⟨rfl, rfl⟩
end Go.Proofs.YtacajpepkfinoaaGreatDoor
namespace Go.Proofs.YtacajpepkfinoaaGreatDoor
open Go Go.FL Go.ChangeShapes Go.WideShapes Go.ChangeAt Go.RowKit Go.Deep
theorem own_knob : ownKnob Tryz.prog.godebug = none := by kernel_rfl
theorem laid_out : laidOutB Tryz.prog = true := by kernel_rfl
theorem mark_free (l : List Obj) : ∃ D, ∀ E, D ≤ E → ∀ o ∈ l, o ≠ dum E := by
  induction l with
  | nil => exact ⟨0, fun _ _ _ h => by cases h⟩
  | cons x l ih =>
    obtain ⟨D, hD⟩ := ih
    have hx : ∃ B, ∀ E, B ≤ E → x ≠ dum E := by
      cases x with
      | mapIter a n b c => exact ⟨n + 1, fun E hE h => by simp only [dum, Obj.mapIter.injEq] at h; omega⟩
      | _ => exact ⟨0, fun E _ h => by simp [dum] at h⟩
    obtain ⟨B, hB⟩ := hx
    refine ⟨max D B, fun E hE o ho => ?_⟩
    rcases List.mem_cons.1 ho with rfl | ho
    · exact hB E O
    · exact hD E O o ho
theorem mark_world (W : World) : ∃ D, ∀ k : Nat, W.heap[k]? ≠ some (dum D) := by
  obtain ⟨D, hD⟩ := mark_free W.heap.toList
  refine ⟨D, fun k hk => hD D (Nat.le_refl _) (dum D) ?_ Z⟩
  rw [← Array.getElem?_toList] at hk
  exact List.mem_of_getElem? hk
theorem below_of {D : Nat} {W W' : World} (hD : ∀ k : Nat, W.heap[k]? ≠ some (dum D)) (h : Le D W W') : Below W.heap.size W W' :=
  ⟨h.os, h.tape, h.output, h.size, fun k hk => (h.block k hk).resolve_left (hD k)⟩
theorem law_calls {P : Program} {f : FuncId} {args : List Value} {W : World} (h : ∀ D, AC P D f args [] W fun v L' _ => v = .bool true ∧ [] = L') :
    Calls P f args.toArray W fun e W' => e = .returned (.bool true) ∧ Below W.heap.size W W' := by
  obtain ⟨D, hD⟩ := mark_world W
  refine ((h D).2 ⟨by simp, fun x hx => by cases hx⟩).mono ?_
  rintro e w' ⟨v, L', s', h1, rfl, h3, h4, rfl, rfl⟩
  exact ⟨h1, below_of hD h4⟩
section
variable {H : Type} {enc : TypeId × Value → H} {P : Program}
theorem trodAll_stays {W W' : World} (hl : laidOutB P = true) (hb : Below W.heap.size W W') : ∀ {ts : List TypeId} {vs : List Value} {ds : List (DataW H)} {ps : List MemPlace}, (∀ t ∈ ts, P.readableRec t = true ∧ t < P.types.size) → (∀ x ∈ ps, x.block < W.heap.size) →
    DataW.TrodAll enc P W 0 (fun _ => true) true ts vs ds ps → DataW.TrodAll enc P W' 0 (fun b => decide (b < W.heap.size)) true ts vs ds ps
  | [], _, _, _, _, _, h => by
    obtain ⟨rfl, rfl, rfl⟩ := trodAll_nil h
    exact trodAll_mk0
  | t :: ts, _, _, _, hts, hp, h => by
    obtain ⟨v, vs, d, ds, a, b, rfl, rfl, rfl, h1, h2⟩ := trodAll_cons h
    have ht := hts t (List.mem_cons_self ..)
    exact trodAll_cons_mk (Below.trod hl ht.1 ht.2 h1 hb fun x hx => hp x (List.mem_append_left _ hx)) (trodAll_stays hl hb (fun t' h' => hts t' (List.mem_cons_of_mem _ h')) (fun x hx => hp x (List.mem_append_right _ hx)) h2)
theorem law_post {fn : Func} {s : ChangeSpec} {W W' : World} {args : Array Value} {ds gs : List (DataW H)} {before : List MemPlace} {tb : TypeId} (hl : laidOutB P = true) (hts : ∀ t ∈ fn.params.toList, P.readableRec t = true ∧ t < P.types.size) (hr : fn.resultTypes = #[tb]) (hb : P.underlying tb = some .bool)
    (hv : s.vars = []) (hW : DataW.Whole enc P fn.params.toList s.vars false W args.toList ds gs before) (hfn : s.fn H ds = { results := [.lit (.bool true)], args := ds }) (hB : Below W.heap.size W W') : s.post enc P fn false true false false W args (.bool true) W' := by
  have hlt : ∀ x ∈ before, x.block < W.heap.size := fun x hx => hW.lt x hx
  have hW' := hW
  obtain ⟨p, q, hA, hV, rfl, _, _⟩ := hW
  rw [hv] at hV
  obtain ⟨rfl, rfl⟩ := trodVars_none hV
  refine ⟨ds, [], p ++ [], [], p, [], hW', ?_, ?_, ?_, hB.frame _, fun h => by cases h⟩
  · rw [List.append_nil, hfn, hr]; exact trodAll_cons_mk (shut_bool hb _) trodAll_mk0
  · rw [List.append_nil, hfn]; exact trodAll_stays hl hB hts (fun x hx => hlt x (List.mem_append_left _ hx)) hA
  · rw [List.append_nil, hfn, hv]; rfl
end
def Rd (W : World) (t : TypeId) (cs : List Value) : Prop := ∃ (H : Type) (enc : TypeId × Value → H) (n : Nat) (x : DataW H × List MemPlace), DataW.trod enc Tryz.prog W 0 (fun _ => true) true n t cs = some x
section
variable {W : World} {t e : TypeId} {cs : List Value}
theorem rd_int {k : IntKind} (ht : Tryz.prog.underlying t = some (.int k)) (h : Rd W t cs) : ∃ n, cs = [.int k n] ∧ (Lit.int k n).wf = true := by
  obtain ⟨H, enc, n, x, h⟩ := h
  obtain ⟨i, h1, _, h2⟩ := DataW.trod_int ht h
  exact ⟨i, h1, h2⟩
theorem rd_str (ht : Tryz.prog.underlying t = some .string) (h : Rd W t cs) : ∃ l : List UInt8, cs = [St l] ∧ l.length ≤ 9223372036854775807 := by
  obtain ⟨H, enc, n, x, h⟩ := h
  obtain ⟨s, h1, _, h2⟩ := DataW.trod_string ht h
  refine ⟨s.data.toList, by rw [h1], ?_⟩
  have : s.data.toList.length = s.size := by rw [Array.length_toList]; rfl
  simp only [maxLen] at h2
  omega
theorem rd_field {fs : Array Field} (ht : Tryz.prog.underlying t = some (.struct fs)) (h : Rd W t cs) {sz : Nat} (hc : Tryz.prog.cellsOf t = sz) : cs.length = sz ∧ ∀ (i : Nat) (f : Field), fs[i]? = some f → ∀ (ty off n : Nat), f.type = ty → f.offset = off → Tryz.prog.cellsOf ty = n → Rd W ty ((cs.drop off).take n) := by
  obtain ⟨H, enc, n, x, h⟩ := h
  obtain ⟨xs, m, _, _, h1, h2, h3⟩ := DataW.trod_struct ht h
  refine ⟨h1.trans hc, fun i f hf ty off k e1 e2 e3 => ?_⟩
  have hi : i < xs.length := by rw [h2]; exact (Array.getElem?_eq_some_iff.1 hf).1
  have := h3 i f hf
  rw [List.getElem?_eq_getElem hi, e1, e2, e3] at this
  exact ⟨H, enc, m, _, this⟩
theorem rd_slice {sz : Nat} (ht : Tryz.prog.underlying t = some (.slice e)) (hc : Tryz.prog.cellsOf e = sz) (hp : 0 < sz) (h : Rd W t cs) : ∃ A n c, cs = [.slice A n c] ∧ n ≤ c ∧ c ≤ 9223372036854775807 ∧
    ∀ i, i < n → ∃ b off ds, A = some ⟨b, off, none⟩ ∧ CellsAt W b (off + i * sz) ds ∧ ds.length = sz ∧ Rd W e ds := by
  obtain ⟨H, enc, q, x, h⟩ := h
  rcases open_slice ht h with ⟨rfl, _⟩ | ⟨a, len, cap, m, k, D, Pl, rfl, _, h1, h2, h3, _, h4⟩
  · exact ⟨none, 0, 0, rfl, Nat.le_refl _, by omega, fun i hi => by omega⟩
  · simp only [maxLen] at h2
    refine ⟨some a, len, cap, Z, h1, by omega, fun i hi => ?_⟩
    obtain ⟨ds, k1, k2⟩ := h4 i (by simp at h3; omega)
    rw [hc] at k1
    obtain ⟨_, k3, k4⟩ := World.cells?_some k1
    obtain ⟨b, off, spot⟩ := a
    have hs : spot = none := by
      obtain ⟨ds0, j1, _⟩ := h4 0 (by simp at h3; omega)
      rw [hc, Nat.zero_mul] at j1
      obtain ⟨_, j3, j4⟩ := World.cells?_some j1
      have := j4 0 hp
      rw [List.getElem?_eq_getElem O] at this
      simpa [Addr.add] using World.cell?_spot this
    subst hs
    refine ⟨b, off, ds, Z, fun j v hj => ?_, k3, H, enc, k, _, k2⟩
    have hl : j < sz := by rw [← k3]; exact (List.getElem?_eq_some_iff.1 hj).1
    have := k4 j hl
    rw [hj, add_lit, add_lit] at this
    exact this
theorem sl_of {α : Type} [Inhabited α] {R : World → α → List Value → Prop} {sz : Nat} (ht : Tryz.prog.underlying t = some (.slice e)) (hc : Tryz.prog.cellsOf e = sz) (hp : 0 < sz) (h : Rd W t cs) (hel : ∀ ds, Rd W e ds → ∃ x : α, R W x ds) : ∃ A n c l, cs = [.slice A n c] ∧ Sl sz R W A n c l := by
  obtain ⟨A, n, c, h1, h2, h3, h4⟩ := rd_slice ht hc hp h
  obtain ⟨f, hf⟩ := choose_lt (α := α) (p := fun i x => ∃ b off ds, A = some ⟨b, off, none⟩ ∧ CellsAt W b (off + i * sz) ds ∧ ds.length = sz ∧ R W x ds) (n := n) (fun i hi => by
    obtain ⟨b, off, ds, k1, k2, k3, k4⟩ := h4 i hi
    obtain ⟨x, hx⟩ := hel ds k4
    exact ⟨x, b, off, ds, k1, k2, k3, hx⟩)
  refine ⟨A, n, c, (List.range n).map f, h1, by simp, h2, h3, fun i x hi => ?_⟩
  rw [List.getElem?_map] at hi
  cases hr : (List.range n)[i]? with
  | none => simp [hr] at hi
  | some j =>
    simp [hr] at hi
    obtain ⟨hi1, hi2⟩ := List.getElem?_eq_some_iff.1 hr
    simp at hi1 hi2
    subst hi2; subst hi
    exact hf i hi1
theorem len2 {l : List Value} (h : l.length = 2) : ∃ a b, l = [a, b] := by match l, h with | [a, b], _ => exact ⟨a, b, rfl⟩
theorem len4 {l : List Value} (h : l.length = 4) : ∃ a b c d, l = [a, b, c, d] := by match l, h with | [a, b, c, d], _ => exact ⟨a, b, c, d, rfl⟩
theorem one_eq {a b : Value} (h : [a] = [b]) : a = b := by injection h
theorem u32_wf {n : Int} (h : (Lit.int .u32 n).wf = true) : U32 n := by have := bounds_u32 h; exact ⟨by omega, by omega⟩
end
set_option maxRecDepth 100000
instance : Inhabited Ex := ⟨.mk 0 0 0 [] []⟩
instance : Inhabited Stm := ⟨.mk 0 [] [] [] []⟩
instance : Inhabited Fnc := ⟨⟨[], [], [], []⟩⟩
instance : Inhabited Glo := ⟨⟨0, [], 0, []⟩⟩
theorem c_int : Tryz.prog.cellsOf 3 = 1 := by kernel_rfl
theorem c_u32 : Tryz.prog.cellsOf 56 = 1 := by kernel_rfl
theorem c_str : Tryz.prog.cellsOf 9 = 1 := by kernel_rfl
theorem c_strs : Tryz.prog.cellsOf 52 = 1 := by kernel_rfl
theorem c_words : Tryz.prog.cellsOf 78 = 1 := by kernel_rfl
theorem c_ex : Tryz.prog.cellsOf 61 = 5 := by kernel_rfl
theorem c_exs : Tryz.prog.cellsOf 59 = 1 := by kernel_rfl
theorem c_st : Tryz.prog.cellsOf 65 = 5 := by kernel_rfl
theorem c_sts : Tryz.prog.cellsOf 53 = 1 := by kernel_rfl
theorem c_fn : Tryz.prog.cellsOf 55 = 4 := by kernel_rfl
theorem c_fns : Tryz.prog.cellsOf 23 = 1 := by kernel_rfl
theorem c_gl : Tryz.prog.cellsOf 80 = 4 := by kernel_rfl
theorem c_gls : Tryz.prog.cellsOf 22 = 1 := by kernel_rfl
theorem c_prg : Tryz.prog.cellsOf 25 = 2 := by kernel_rfl
theorem len5 {l : List Value} (h : l.length = 5) : ∃ a b c d e, l = [a, b, c, d, e] := by match l, h with | [a, b, c, d, e], _ => exact ⟨a, b, c, d, e, rfl⟩
def RdN (n : Nat) (W : World) (t : TypeId) (cs : List Value) : Prop := ∃ (H : Type) (enc : TypeId × Value → H) (x : DataW H × List MemPlace), DataW.trod enc Tryz.prog W 0 (fun _ => true) true n t cs = some x
section
variable {W : World} {t e : TypeId} {cs : List Value}
theorem RdN.rd {n : Nat} (h : RdN n W t cs) : Rd W t cs := by
  obtain ⟨H, enc, x, h⟩ := h
  exact ⟨H, enc, n, x, h⟩
theorem rdn_field {n : Nat} {fs : Array Field} (ht : Tryz.prog.underlying t = some (.struct fs)) (h : RdN n W t cs) {sz : Nat} (hc : Tryz.prog.cellsOf t = sz) : cs.length = sz ∧ ∃ m, n = m + 1 ∧ ∀ (i : Nat) (f : Field), fs[i]? = some f → ∀ (ty off k : Nat), f.type = ty → f.offset = off → Tryz.prog.cellsOf ty = k → RdN m W ty ((cs.drop off).take k) := by
  obtain ⟨H, enc, x, h⟩ := h
  obtain ⟨xs, m, hm, _, h1, h2, h3⟩ := DataW.trod_struct ht h
  refine ⟨h1.trans hc, m, hm, fun i f hf ty off k e1 e2 e3 => ?_⟩
  have hi : i < xs.length := by rw [h2]; exact (Array.getElem?_eq_some_iff.1 hf).1
  have := h3 i f hf
  rw [List.getElem?_eq_getElem hi, e1, e2, e3] at this
  exact ⟨H, enc, _, this⟩
theorem rdn_slice {n sz : Nat} (ht : Tryz.prog.underlying t = some (.slice e)) (hc : Tryz.prog.cellsOf e = sz) (hp : 0 < sz) (h : RdN n W t cs) : ∃ A m c, cs = [.slice A m c] ∧ m ≤ c ∧ c ≤ 9223372036854775807 ∧
    ∀ i, i < m → ∃ b off ds q, A = some ⟨b, off, none⟩ ∧ CellsAt W b (off + i * sz) ds ∧ ds.length = sz ∧ n = q + 1 ∧ RdN q W e ds := by
  obtain ⟨H, enc, x, h⟩ := h
  rcases DataW.trod_slice ht h with ⟨rfl, _⟩ | ⟨a, len, cap, elems, rest, q, hq, rfl, _, _, h1, h2, hlen, hel, _, _⟩
  · exact ⟨none, 0, 0, rfl, Nat.le_refl _, by omega, fun i hi => by omega⟩
  · simp only [maxLen] at h2
    have h4 : ∀ i, i < len → ∃ ds x, W.cells? 0 (a.add (i * sz)) sz = some ds ∧ DataW.trod enc Tryz.prog W 0 (fun _ => true) true q e ds = some x := by
      intro i hi
      have := hel i hi
      rw [List.getElem?_eq_getElem O, hc] at this
      obtain ⟨ds, k1, k2⟩ := Option.bind_eq_some_iff.1 this
      exact ⟨ds, _, k1, k2⟩
    refine ⟨some a, len, cap, Z, h1, by omega, fun i hi => ?_⟩
    obtain ⟨ds, y, k1, k2⟩ := h4 i hi
    obtain ⟨_, k3, k4⟩ := World.cells?_some k1
    obtain ⟨b, off, spot⟩ := a
    have hs : spot = none := by
      obtain ⟨ds0, _, j1, _⟩ := h4 0 O
      rw [Nat.zero_mul] at j1
      obtain ⟨_, j3, j4⟩ := World.cells?_some j1
      have := j4 0 hp
      rw [List.getElem?_eq_getElem O] at this
      simpa [Addr.add] using World.cell?_spot this
    subst hs
    refine ⟨b, off, ds, q, Z, fun j v hj => ?_, k3, hq, H, enc, _, k2⟩
    have hl : j < sz := by rw [← k3]; exact (List.getElem?_eq_some_iff.1 hj).1
    have := k4 j hl
    rw [hj, add_lit, add_lit] at this
    exact this
theorem sln_of {α : Type} [Inhabited α] {R : World → α → List Value → Prop} {n sz : Nat} (ht : Tryz.prog.underlying t = some (.slice e)) (hc : Tryz.prog.cellsOf e = sz) (hp : 0 < sz) (h : RdN n W t cs) (hel : ∀ q, n = q + 1 → ∀ ds, RdN q W e ds → ∃ x : α, R W x ds) : ∃ A m c l, cs = [.slice A m c] ∧ Sl sz R W A m c l := by
  obtain ⟨A, m, c, h1, h2, h3, h4⟩ := rdn_slice ht hc hp h
  obtain ⟨f, hf⟩ := choose_lt (α := α) (p := fun i x => ∃ b off ds, A = some ⟨b, off, none⟩ ∧ CellsAt W b (off + i * sz) ds ∧ ds.length = sz ∧ R W x ds) (n := m) (fun i hi => by
    obtain ⟨b, off, ds, q, k1, k2, k3, k5, k4⟩ := h4 i hi
    obtain ⟨x, hx⟩ := hel q k5 ds k4
    exact ⟨x, b, off, ds, k1, k2, k3, hx⟩)
  refine ⟨A, m, c, (List.range m).map f, h1, by simp, h2, h3, fun i x hi => ?_⟩
  rw [List.getElem?_map] at hi
  cases hr : (List.range m)[i]? with
  | none => simp [hr] at hi
  | some j =>
    simp [hr] at hi
    obtain ⟨hi1, hi2⟩ := List.getElem?_eq_some_iff.1 hr
    simp at hi1 hi2
    subst hi2; subst hi
    exact hf i hi1
theorem rd_words (h : Rd W 78 cs) : ∃ A n c l, cs = [.slice A n c] ∧ Wds W A n c l := sl_of Tryz.underlying78 c_u32 (by decide) h fun _ hd => by
  obtain ⟨n, h1, h2⟩ := rd_int Tryz.underlying56 hd
  exact ⟨n, h1, u32_wf h2⟩
theorem rd_strs (h : Rd W 52 cs) : ∃ A n c l, cs = [.slice A n c] ∧ Strs W A n c l :=
  sl_of (α := List UInt8) (R := fun _ x cs => cs = [St x] ∧ x.length ≤ 9223372036854775807) Tryz.underlying52 c_str (by decide) h (fun _ hd => rd_str Tryz.underlying9 hd)
theorem rd_ex (n : Nat) : ∀ cs, RdN n W 61 cs → ∃ x : Ex, ExR n W x cs := by
  refine Nat.strongRecOn n ?_
  intro n ih cs h
  obtain ⟨h1, m, rfl, h2⟩ := rdn_field Tryz.underlying61 h c_ex
  obtain ⟨a, b, c, d, e, rfl⟩ := len5 h1
  obtain ⟨k, e1, _⟩ := rd_int Tryz.underlying3 (h2 0 _ rfl _ _ _ rfl rfl c_int).rd
  obtain ⟨o, e2, _⟩ := rd_int Tryz.underlying3 (h2 1 _ rfl _ _ _ rfl rfl c_int).rd
  obtain ⟨u, e3, w3⟩ := rd_int Tryz.underlying56 (h2 2 _ rfl _ _ _ rfl rfl c_u32).rd
  obtain ⟨w, e4, w4⟩ := rd_str Tryz.underlying9 (h2 3 _ rfl _ _ _ rfl rfl c_str).rd
  obtain ⟨A, p, q, l, e5, w5⟩ := sln_of (R := ExR m) Tryz.underlying59 c_ex (by decide) (h2 4 _ rfl _ _ _ rfl rfl c_exs) fun q hq ds hd => by
    obtain ⟨x, hx⟩ := ih q O ds hd
    exact ⟨x, hx.up O⟩
  have z1 : a = .int .i64 k := one_eq e1
  have z2 : b = .int .i64 o := one_eq e2
  have z3 : c = .int .u32 u := one_eq e3
  have z4 : d = St w := one_eq e4
  have z5 : e = .slice A p q := one_eq e5
  subst z1; subst z2; subst z3; subst z4; subst z5
  exact ⟨.mk k o u w l, A, p, q, rfl, w5, u32_wf w3, w4⟩
theorem rd_exs {n : Nat} (h : RdN n W 59 cs) : ∃ A m c l, cs = [.slice A m c] ∧ Exs n W A m c l :=
  sln_of (R := ExR n) Tryz.underlying59 c_ex (by decide) h fun q hq ds hd => by
    obtain ⟨x, hx⟩ := rd_ex q ds hd
    exact ⟨x, hx.up O⟩
theorem rd_st (n : Nat) : ∀ cs, RdN n W 65 cs → ∃ x : Stm, StR n W x cs := by
  refine Nat.strongRecOn n ?_
  intro n ih cs h
  obtain ⟨h1, m, rfl, h2⟩ := rdn_field Tryz.underlying65 h c_st
  obtain ⟨a, b, c, d, e, rfl⟩ := len5 h1
  have hB : ∀ {cs}, RdN m W 53 cs → ∃ A p q l, cs = [.slice A p q] ∧ Sl 5 (StR m) W A p q l := fun h => sln_of (R := StR m) Tryz.underlying53 c_st (by decide) h fun q hq ds hd => by
    obtain ⟨x, hx⟩ := ih q O ds hd
    exact ⟨x, hx.up O⟩
  obtain ⟨k, e1, _⟩ := rd_int Tryz.underlying3 (h2 0 _ rfl _ _ _ rfl rfl c_int).rd
  obtain ⟨w, e2, w2⟩ := rd_str Tryz.underlying9 (h2 1 _ rfl _ _ _ rfl rfl c_str).rd
  obtain ⟨A1, p1, q1, l1, e3, w3⟩ := rd_exs (h2 2 _ rfl _ _ _ rfl rfl c_exs)
  obtain ⟨A2, p2, q2, l2, e4, w4⟩ := hB (h2 3 _ rfl _ _ _ rfl rfl c_sts)
  obtain ⟨A3, p3, q3, l3, e5, w5⟩ := hB (h2 4 _ rfl _ _ _ rfl rfl c_sts)
  have z1 : a = .int .i64 k := one_eq e1
  have z2 : b = St w := one_eq e2
  have z3 : c = .slice A1 p1 q1 := one_eq e3
  have z4 : d = .slice A2 p2 q2 := one_eq e4
  have z5 : e = .slice A3 p3 q3 := one_eq e5
  subst z1; subst z2; subst z3; subst z4; subst z5
  exact ⟨.mk k w l1 l2 l3, A1, p1, q1, A2, p2, q2, A3, p3, q3, rfl, w3, w4, w5, w2⟩
theorem rd_sts {n : Nat} (h : RdN n W 53 cs) : ∃ A m c l, cs = [.slice A m c] ∧ Stms n W A m c l :=
  sln_of (R := StR n) Tryz.underlying53 c_st (by decide) h fun q hq ds hd => by
    obtain ⟨x, hx⟩ := rd_st q ds hd
    exact ⟨x, hx.up O⟩
theorem FnR.up {d e : Nat} {s : World} {x : Fnc} {cs : List Value} (h : FnR d s x cs) (he : d ≤ e) : FnR e s x cs := by
  obtain ⟨A1, n1, c1, A2, n2, c2, A3, n3, c3, h1, h2, h3, h4, h5⟩ := h
  exact ⟨A1, n1, c1, A2, n2, c2, A3, n3, c3, h1, h2, h3, Stms.up h4 he, h5⟩
theorem rd_fn {n : Nat} {cs : List Value} (h : RdN n W 55 cs) : ∃ x : Fnc, FnR n W x cs := by
  obtain ⟨h1, m, rfl, h2⟩ := rdn_field Tryz.underlying55 h c_fn
  obtain ⟨a, b, c, d, rfl⟩ := len4 h1
  obtain ⟨w, e1, w1⟩ := rd_str Tryz.underlying9 (h2 0 _ rfl _ _ _ rfl rfl c_str).rd
  obtain ⟨A1, p1, q1, l1, e2, w2⟩ := rd_strs (h2 1 _ rfl _ _ _ rfl rfl c_strs).rd
  obtain ⟨A2, p2, q2, l2, e3, w3⟩ := rd_strs (h2 2 _ rfl _ _ _ rfl rfl c_strs).rd
  obtain ⟨A3, p3, q3, l3, e4, w4⟩ := rd_sts (h2 3 _ rfl _ _ _ rfl rfl c_sts)
  have z1 : a = St w := one_eq e1
  have z2 : b = .slice A1 p1 q1 := one_eq e2
  have z3 : c = .slice A2 p2 q2 := one_eq e3
  have z4 : d = .slice A3 p3 q3 := one_eq e4
  subst z1; subst z2; subst z3; subst z4
  exact ⟨⟨w, l1, l2, l3⟩, A1, p1, q1, A2, p2, q2, A3, p3, q3, rfl, w2, w3, Stms.up w4 O, w1⟩
theorem rd_gl {cs : List Value} (h : Rd W 80 cs) : ∃ x : Glo, GlR W x cs := by
  obtain ⟨h1, h2⟩ := rd_field Tryz.underlying80 h c_gl
  obtain ⟨a, b, c, d, rfl⟩ := len4 h1
  obtain ⟨k, e1, _⟩ := rd_int Tryz.underlying3 (h2 0 _ rfl _ _ _ rfl rfl c_int)
  obtain ⟨w, e2, w2⟩ := rd_str Tryz.underlying9 (h2 1 _ rfl _ _ _ rfl rfl c_str)
  obtain ⟨u, e3, w3⟩ := rd_int Tryz.underlying56 (h2 2 _ rfl _ _ _ rfl rfl c_u32)
  obtain ⟨A, p, q, l, e4, w4⟩ := rd_words (h2 3 _ rfl _ _ _ rfl rfl c_words)
  have z1 : a = .int .i64 k := one_eq e1
  have z2 : b = St w := one_eq e2
  have z3 : c = .int .u32 u := one_eq e3
  have z4 : d = .slice A p q := one_eq e4
  subst z1; subst z2; subst z3; subst z4
  exact ⟨⟨k, w, u, l⟩, A, p, q, rfl, w4, u32_wf w3, w2⟩
theorem rd_prg {n : Nat} {cs : List Value} (h : RdN n W 25 cs) : ∃ (p : Prg) (Ag Af : Option Addr) (ng cg nf cf : Nat), cs = [.slice Ag ng cg, .slice Af nf cf] ∧ Glos W Ag ng cg p.globals ∧ Fncs n W Af nf cf p.funcs := by
  obtain ⟨h1, m, rfl, h2⟩ := rdn_field Tryz.underlying25 h c_prg
  obtain ⟨a, b, rfl⟩ := len2 h1
  obtain ⟨Ag, ng, cg, lg, e1, w1⟩ := sl_of (R := GlR) Tryz.underlying22 c_gl (by decide) (h2 0 _ rfl _ _ _ rfl rfl c_gls).rd fun _ hd => rd_gl hd
  obtain ⟨Af, nf, cf, lf, e2, w2⟩ := sln_of (R := FnR (m + 1)) Tryz.underlying23 c_fn (by decide) (h2 1 _ rfl _ _ _ rfl rfl c_fns) fun q hq ds hd => by
    obtain ⟨x, hx⟩ := rd_fn hd
    exact ⟨x, hx.up O⟩
  have z1 : a = .slice Ag ng cg := one_eq e1
  have z2 : b = .slice Af nf cf := one_eq e2
  subst z1; subst z2
  exact ⟨⟨lg, lf⟩, Ag, Af, ng, cg, nf, cf, rfl, w1, w2⟩
end
section
variable {H : Type} {enc : TypeId × Value → H} {W : World} {base : Nat} {v : Value} {d : DataW H} {ps : List MemPlace}
theorem agg_of {t : TypeId} {fs : Array Field} (ht : Tryz.prog.underlying t = some (.struct fs)) (hv : Value.okWide Tryz.prog W .any base t v) : ∃ cs, v = .agg cs := by
  unfold Value.okWide at hv
  rw [ht] at hv
  obtain ⟨cs, h, _⟩ := hv
  exact ⟨cs, h⟩
theorem arg_prg (hv : Value.okWide Tryz.prog W .any base 25 v) (hd : DataW.Trod enc Tryz.prog W 0 (fun _ => true) true 25 v d ps) : ∃ (m : Nat) (p : Prg) (Ag Af : Option Addr) (ng cg nf cf : Nat), v = .agg #[.slice Ag ng cg, .slice Af nf cf] ∧ Glos W Ag ng cg p.globals ∧ Fncs m W Af nf cf p.funcs := by
  obtain ⟨cs, rfl⟩ := agg_of Tryz.underlying25 hv
  obtain ⟨n, h⟩ := hd
  obtain ⟨p, Ag, Af, ng, cg, nf, cf, h1, h2, h3⟩ := rd_prg (n := n) ⟨H, enc, _, h⟩
  refine ⟨n, p, Ag, Af, ng, cg, nf, cf, ?_, h2, h3⟩
  simp only [Value.cells] at h1
  rw [← h1]
end
theorem gw_var {W : World} {nm : String} {g : Nat} {cs : Array Value} (hg : Tryz.prog.globalNamed nm = some g) (h : W.var? Tryz.prog nm = some cs) : ∃ ty fz, W.heap[g]? = some (.cells cs ty fz) := by
  unfold World.var? at h
  rw [hg] at h
  simp only [Option.bind_some] at h
  split at h
  · rename_i c t f hb
    injection h with h
    subst h
    exact ⟨t, f, hb⟩
  · cases h
theorem gp_of {W : World} (h : laidMetH Tryz.prog Rows.checkProgramMatchesSpecRow.laid W) : GP W := by
  rw [MakeChecks.laidMetH_plain _ _ _ V] at h
  have h2 := h.tail.tail
  have hpow := Lib.tabIs_of_head (zs := Lib.pow10Tab) (k := .u64) (g := 2) V V Tryz.underlying231 Tryz.underlying168 V V h2
  have hasc := Lib.tabIs_of_head (zs := Lib.asciiSpaceTab) (k := .u8) (g := 0) V V Tryz.underlying203 Tryz.underlying5 V V h2.tail.tail
  exact ⟨⟨gw_var (g := 2) V hpow⟩, gw_var (g := 0) V hasc⟩
open Go Go.FL Go.ChangeShapes Go.WideShapes Go.ChangeAt Go.RowKit
theorem checkFoldMatchesSpec_reads : ∀ t ∈ Tryz.f7.params.toList, Tryz.prog.readableRec t = true ∧ t < Tryz.prog.types.size := by
  rw [Tryz.params7]
  intro t ht
  simp only [List.mem_cons, List.not_mem_nil, or_false] at ht
  rcases ht with rfl <;> exact ⟨by kernel_rfl, of_decide_eq_true V⟩
theorem checkFoldMatchesSpec_contract (H : Type) (enc : TypeId × Value → H) (W : World) (base : Nat) (args : Array Value) (ds gs : List (DataW H)) (before : List MemPlace)
    (hval : ∀ (j : Nat) t v, Tryz.f7.params[j]? = some t → args[j]? = some v → Value.okWide Tryz.prog W .any base t v)
    (hW : DataW.Whole enc Tryz.prog Tryz.f7.params.toList Rows.checkFoldMatchesSpecSpec.vars false W args.toList ds gs before) (hL : laidMetH Tryz.prog Rows.checkFoldMatchesSpecRow.laid W) :
    Calls Tryz.prog 7 args W fun e W' => ∃ v, e = .returned v ∧ Rows.checkFoldMatchesSpecSpec.post enc Tryz.prog Tryz.f7 false true false false W args v W' := by
  have hW' := hW
  obtain ⟨p, q, hA0, hV, rfl, hfz, hnd⟩ := hW'
  have hA : DataW.TrodAll enc Tryz.prog W 0 (fun _ => true) true Tryz.f7.params.toList args.toList ds p := hA0
  rw [Tryz.params7] at hA hval
  obtain ⟨v0, vs0, d0, ds0, p0, q0, hargs0, rfl, rfl, h0, r0⟩ := trodAll_cons hA
  obtain ⟨rfl, rfl, rfl⟩ := trodAll_nil r0
  obtain rfl : args = #[v0] := by cases args; simp_all
  obtain ⟨rfl, rfl⟩ := trodVars_none hV
  obtain ⟨m0, p0, Ag0, Af0, ng0, cg0, nf0, cf0, rfl, hGl0, hFn0⟩ := arg_prg (hval 0 25 v0 rfl rfl) h0
  refine (law_calls (args := [_]) fun D => lawFold_ac D [] W (gp_of hL) m0 p0 Ag0 Af0 ng0 cg0 nf0 cf0 hGl0 hFn0).mono fun e W' ⟨he, hg⟩ => ?_
  subst he
  exact ⟨_, rfl, law_post laid_out checkFoldMatchesSpec_reads V Tryz.underlying4 rfl hW rfl hg⟩
theorem checkFoldMatchesSpec_lifted (os : Os) (started : os.Started) (H : Type) (enc : TypeId × Value → H) :
    ReturnsInHanded {} Tryz.checked os 7 .any (fun w args => (Rows.checkFoldMatchesSpecSpec.pre enc Tryz.prog Tryz.f7 [] false w args ∧ laidMetH Tryz.prog Rows.checkFoldMatchesSpecRow.laid w) ∧ sizedMet enc Tryz.prog Tryz.f7 (OpenSpec.ofChange Rows.checkFoldMatchesSpecSpec) false w args) (Rows.checkFoldMatchesSpecSpec.post enc Tryz.prog Tryz.f7 false true false false) := by
  refine returnsInHanded_of_change_and (C := Tryz.checked) (X := fun w _ => laidMetH Tryz.prog Rows.checkFoldMatchesSpecRow.laid w) (fun _ _ _ hh h => h.of_heap hh) own_knob started V Tryz.func7
    (ChangeSpec.witness_shaped (enc := enc) (C := Tryz.checked) (os := os) (X := fun w _ => laidMetH Tryz.prog Rows.checkFoldMatchesSpecRow.laid w) false (World.laidAll Tryz.prog os Rows.checkFoldMatchesSpecRow.laid) #[.agg #[.slice none 0 0, .slice none 0 0]] 8 (World.laidAll_os _ _ _)
      (World.shaped_of_ZipB V V) V V V
      (by rw [MakeChecks.laidMetH_plain _ _ _ V]; exact laidMet_laidAll _ V V)) ?_
  intro W base args ds gs before hval hW _ _ hL _
  exact checkFoldMatchesSpec_contract H enc W base args ds gs before hval hW hL
theorem checkFoldMatchesSpec_said : Rows.CheckFoldMatchesSpecSaid :=
  OpenClaim.holds_of_wide 7 Tryz.f7 rfl rfl rfl rfl rfl rfl rfl ⟨rfl, rfl, rfl, rfl, rfl⟩ rfl rfl rfl rfl rfl V Tryz.func7 V
    (of_decide_eq_true V) (by unfold Func.isWrapper; first | (rw [if_pos (by decide +kernel)]; kernel_rfl) | (rw [if_neg (by decide +kernel)]; exact ⟨rfl, rfl⟩))
    (fun os started H enc _ => checkFoldMatchesSpec_lifted os started H enc)
theorem checkFoldMatchesSpec_plain (f : FuncId) (fn : Func) (hf : Tryz.pinned.checked.prog.funcNamed Rows.checkFoldMatchesSpecRow.func = some f) (hfn : Tryz.pinned.checked.prog.funcs[f]? = some fn) : false = Tryz.pinned.checked.prog.looks [] ∧ ∀ (j : Nat) t, fn.params[j]? = some t → Tryz.pinned.checked.prog.wantsStandIn t = false := by
  obtain rfl : f = 7 := Option.some.inj ((show Tryz.prog.funcNamed Rows.checkFoldMatchesSpecRow.func = some 7 by kernel_rfl).symm.trans hf) |>.symm
  obtain rfl : fn = Tryz.f7 := (Option.some.inj (Tryz.func7.symm.trans hfn)).symm
  exact ⟨by kernel_rfl, fun j t ht => by
    rw [Tryz.params7] at ht
    have hm : t ∈ [25] := by simpa using Array.mem_of_getElem? ht
    have hall : ([25].all fun u => !Tryz.prog.wantsStandIn u) = true := by kernel_rfl
    exact (show Tryz.prog.wantsStandIn t = false by simpa using List.all_eq_true.1 hall t hm)⟩
theorem checkFoldMatchesSpec_holds : Rows.CheckFoldMatchesSpecCardSaid :=
  Claim7.holds_tied_plain_at .later [] _ _ _ _ checkFoldMatchesSpec_said (fun _ h => by cases h) V (fun _ h => by cases h) checkFoldMatchesSpec_row_tie rfl ⟨rfl, rfl⟩ V rfl checkFoldMatchesSpec_plain V
end Go.Proofs.YtacajpepkfinoaaGreatDoor
