/- The law CheckProgramMatchesSpec: for every input it returns true, and its arguments read behind the call az they read before; what the package-level variables of the library hold is tied tgt the text of the program. Part 8 of the proof of checkProgramMatchesSpec_holds: texts FlO, C31, C32, C33, Rj, Rt, Q31. -/
import Derived.Test.YtacajpepkfinoaaGreatDoorQ31x7
import Derived.ArgAppend
import Derived.ProofKit
import Derived.OpenShut
import Derived.SizedLaws
import Derived.Deep.Slices
import Derived.Test.YtacajpepkfinoaaGreatDoorRows
import Derived.Lay
import Derived.Lib.LaidTab
import Derived.Stop.LaidErr
import Derived.SevenTiedAt
import Derived.Test.YtacajpepkfinoaaGreatDoorCards
import Derived.Test.YtacajpepkfinoaaGreatDoorTie
set_option linter.unusedVariables false
set_option linter.unusedSimpArgs false
set_option linter.unnecessarySimpa false
namespace Go.FL
open Go Go.RowKit
variable {P : Program} {TT : TyTab} {D n : Nat} {Q : APost} {fr : Fr} {L : Hl} {s : World} {ops : Array Oper} {rest : List Oper} {d ty : Nat} {pos : String} {af : Array Edge}
theorem Ev_appU {t e m c k sz b0 o0 : Nat} {x y : Operand} {ti te : TI} {A1 : Option Addr} {news xs : List Value} (hT : TabOK P TT) (hx : lk fr x = some (.slice (some ⟨b0, o0, none⟩) k k)) (hy : lk fr y = some (.slice A1 m c)) (ht : tlook TT t = some ti) (hk : ti.kind = .sl e) (he : tlook TT e = some te) (hsz : te.size = sz)
    (hC : CellsAt s b0 o0 xs) (hl : xs.length = k * sz) (hR : Row s A1 m sz news) (hm : 0 < m) (h63 : (k + m) * te.bytes ≤ 140737488355328 ∧ k + m ≤ 9223372036854775807) (ho : OKL D L s) :
    ∃ g cap ys s', Ev P TT D fr (.call { callee := .builtin .append, args := #[x, y], argTypes := #[t, t] }) ty L s (.value (.slice (some ⟨g, 0, none⟩) (k + m) cap)) ((g, cb (xs ++ news ++ ys) e) :: L) s' ∧ OKL D ((g, cb (xs ++ news ++ ys) e) :: L) s' ∧ Le D s s' ∧ k + m ≤ cap ∧ cap ≤ 9223372036854775807 := by
  have hok := hT.at_ ht
  obtain ⟨k1, k2, _⟩ := hok
  rw [hk] at k2
  simp only [TK.fits] at k2
  rw [k2] at k1
  have hte := hT.at_ he
  obtain ⟨i, i1, i2, i3, i4⟩ := info_of hte
  have hpos : 0 < te.size := hte.2.2.2.2.2.1
  have hzs : te.zero.cells.size = te.size := by rw [zero_cells hte]; simpa using hte.2.2.2.1
  have h0 : ∃ b off, A1 = some ⟨b, off, none⟩ ∧ CellsAt s b off news := by
    have hl : 0 < news.length := by rw [hR.1, ← hsz]; exact Nat.mul_pos hm hpos
    obtain ⟨b, off, h1, _⟩ := hR.2.2 0 news[0] (List.getElem?_eq_getElem hl)
    refine ⟨b, off, h1, fun j u hj => ?_⟩
    obtain ⟨b', off', h1', h2⟩ := hR.2.2 j u hj
    rw [h1] at h1'
    injection h1' with h1'; injection h1' with e1 e2; subst e1; subst e2
    exact h2
  obtain ⟨b, off, rfl, hcells⟩ := h0
  obtain ⟨v', w', hrun, hown, hgr⟩ := run_append_arg_grows (P := P) (fill L s) t ty e i te.zero sz te.bytes k1 i1 i4 (i2.trans hsz) i3 (by rw [hzs, hsz]) (by rw [← hsz]; exact hpos) ⟨b0, o0, none⟩ k k xs hl (fun j u hj => by rw [add_lit]; exact fill_cell ho (hC j u hj)) ⟨b, off, none⟩ m c news hR.1
    (fun j u hj => by rw [add_lit]; exact fill_cell ho (hcells j u hj)) O (by simpa [maxLen] using h63.2) h63.1
  obtain ⟨h1, h2⟩ := hown
  rcases h2 with ⟨_, h0⟩ | ⟨g, cap, cur, rfl, hge, hg, hnc, hcm, hcs, ht2⟩
  · omega
  rw [fill_size] at hge
  have hsize := hgr.size
  rw [fill_size] at hsize
  have hcur : cur = (xs ++ news ++ cur.toList.drop ((k + m) * sz)).toArray := by
    rw [← ht2, List.take_append_drop]
  have hlt : ∀ x ∈ L, x.1 < s.heap.size := fun x hx => ho.lt hx
  obtain ⟨r1, r2, r3⟩ := of_grown (D := D) (L' := (g, cb (xs ++ news ++ cur.toList.drop ((k + m) * sz)) e) :: L) ho (hgr.os.trans (fill_os _ _)) (hgr.tape.trans (fill_tape _ _)) (hgr.output.trans (fill_output _ _)) hsize
    (by
      rw [List.map_cons, List.nodup_cons]
      refine ⟨fun hm2 => ?_, ho.nd⟩
      obtain ⟨x, hx, hx2⟩ := List.mem_map.1 hm2
      have := hlt x hx
      simp only at hx2
      omega)
    (fun x hx => by
      rcases List.mem_cons.1 hx with rfl | hx
      · rw [hg, cb, ← hcur]
      · rw [hgr.block x.1 (by rw [fill_size]; exact hlt x hx) (by simp), fill_mem ho hx])
    (fun x hx => by
      rcases List.mem_cons.1 hx with rfl | hx
      · exact .inr hge
      · exact .inl (List.mem_map.2 ⟨x, hx, rfl⟩))
    (fun j hj hn => by rw [hgr.block j (by rw [fill_size]; exact hj) (by simp), fill_other hn])
  refine ⟨g, cap, _, _, fun hT ho dst pos af g ρ hρ => ⟨?_, r2⟩, r2, r3, hnc, by simpa [maxLen] using hcm⟩
  rw [← r1]
  simp only [execOp, resolve, invoke, builtin, Sem.run_bind, Sem.run_pure, Result.andThen_ok, List.map_toArray, List.map_cons, List.map_nil, hρ x _ hx, hρ y _ hy, hrun]
theorem CellsAt.pre {b off : Nat} {xs ys : List Value} (h : CellsAt s b off (xs ++ ys)) : CellsAt s b off xs := fun j v hj => h j v (by rw [List.getElem?_append_left (List.getElem?_eq_some_iff.1 hj).1]; exact hj)
theorem JO_appN {t e m c k sz b0 o0 : Nat} {x y : Operand} {ti te : TI} {A1 : Option Addr} {news xs : List Value} (hx : lk fr x = some (.slice (some ⟨b0, o0, none⟩) k k)) (hy : lk fr y = some (.slice A1 m c)) (ht : tlook TT t = some ti) (hk : ti.kind = .sl e) (he : tlook TT e = some te) (hsz : te.size = sz)
    (hC : CellsAt s b0 o0 xs) (hl : xs.length = k * sz) (hR : Row s A1 m sz news) (hm : 0 < m) (h63 : (k + m) * te.bytes ≤ 140737488355328 ∧ k + m ≤ 9223372036854775807) (hd : Nat.blt d n = true)
    (kk : ∀ g cap s', Le D s s' → CellsAt s' g 0 (xs ++ news) → k + m ≤ cap → cap ≤ 9223372036854775807 → JO P TT D n ops Q rest ((d, .slice (some ⟨g, 0, none⟩) (k + m) cap) :: fr) L s') :
    JO P TT D n ops Q (⟨some d, .call { callee := .builtin .append, args := #[x, y], argTypes := #[t, t] }, ty, pos, af, none⟩ :: rest) fr L s := fun hT a hr ho => by
  obtain ⟨g, cap, ys, s', h1, h2, h3, h4, h5⟩ := Ev_appU (ty := ty) hT hx hy ht hk he hsz hC hl hR hm h63 ho
  obtain ⟨d1, d2, d3⟩ := drop_own (A := [(g, cb (xs ++ news ++ ys) e)]) (B := L) h2
  refine JO_ev (L' := L) (s' := fill [(g, cb (xs ++ news ++ ys) e)] s') hd (fun hT _ dst pos af g2 ρ hρ => ⟨?_, d2⟩) (kk g cap _ (h3.trans d3) (CellsAt.pre (cells_drop h2)) h4 h5) hT a hr ho
  rw [← d1]
  exact (h1 hT ho dst pos af g2 ρ hρ).1
end Go.FL
namespace Go.Proofs.YtacajpepkfinoaaGreatDoor
open Go.FL
attribute [local irreducible] JC JO JA JB thenQ blockQ retQ AC fill CellsAt QE Ev Mid
theorem exs_nil (d : Nat) (s : World) : Exs d s none 0 0 [] := ⟨rfl, Nat.le_refl _, by omega, fun i x h => by cases h⟩
theorem stms_nil (d : Nat) (s : World) : Stms d s none 0 0 [] := ⟨rfl, Nat.le_refl _, by omega, fun i x h => by cases h⟩
theorem strs_nil (s : World) : Strs s none 0 0 [] := ⟨rfl, Nat.le_refl _, by omega, fun i x h => by cases h⟩
theorem wds_nil (s : World) : Wds s none 0 0 [] := ⟨rfl, Nat.le_refl _, by omega, fun i x h => by cases h⟩
def getX : Ex := .mk 5 0 0 [] []
def nX : Ex := .mk 2 0 0 [110] []
def mulX : Ex := .mk 7 4 0 [] [nX, .mk 1 0 2 [] []]
def sumX : Ex := .mk 7 10 0 [] [getX, mulX]
def sumD : Ex := .mk 7 10 0 [] [getX, .mk 1 0 6 [] []]
def smallQ : Prg := ⟨smallP.globals, smallP.funcs ++ [⟨[102], [], [], []⟩]⟩
def smallM : Fnc := ⟨mainW, [], [], [.mk 7 [] [sumX] [] []]⟩
theorem ex_row {d : Nat} {s : World} {k o n : Int} {nm : Str} {A : Option Addr} {m c : Nat} {l : List Ex} (h : Exs d s A m c l) (hn : U32 n) (hl : nm.length ≤ 1000) : ([.int .i64 k, .int .i64 o, .int .u32 n, St nm, .slice A m c] : List Value).length = 5 ∧ ExR (d + 1) s (.mk k o n nm l) [.int .i64 k, .int .i64 o, .int .u32 n, St nm, .slice A m c] := ⟨rfl, A, m, c, rfl, h, hn, show nm.length ≤ 9223372036854775807 by omega⟩
theorem small_of {s : World} {b1 b2 b3 b4 b5 b6 : Nat} (h1 : CellsAt s b1 0 [.int .i64 2, .int .i64 0, .int .u32 0, St [110], .slice none 0 0, .int .i64 1, .int .i64 0, .int .u32 2, St [], .slice none 0 0])
    (h2 : CellsAt s b2 0 [.int .i64 5, .int .i64 0, .int .u32 0, St [], .slice none 0 0, .int .i64 7, .int .i64 4, .int .u32 0, St [], .slice (some ⟨b1, 0, none⟩) 2 2])
    (h3 : CellsAt s b3 0 [.int .i64 1, St [110], .int .u32 3, .slice none 0 0]) (h4 : CellsAt s b4 0 [.int .i64 7, .int .i64 10, .int .u32 0, St [], .slice (some ⟨b2, 0, none⟩) 2 2])
    (h5 : CellsAt s b5 0 [.int .i64 7, St [], .slice (some ⟨b4, 0, none⟩) 1 1, .slice none 0 0, .slice none 0 0]) (h6 : CellsAt s b6 0 [St mainW, .slice none 0 0, .slice none 0 0, .slice (some ⟨b5, 0, none⟩) 1 1]) :
    Glos s (some ⟨b3, 0, none⟩) 1 1 smallP.globals ∧ Fncs 5 s (some ⟨b6, 0, none⟩) 1 1 smallP.funcs := by
  have z : U32 0 := ⟨by decide, by decide⟩
  have e1 : Exs 2 s (some ⟨b1, 0, none⟩) 2 2 [nX, .mk 1 0 2 [] []] := Sl.lit [[_, _, _, _, _], [_, _, _, _, _]] h1 rfl (.cons (ex_row (exs_nil 1 s) z (by decide)) (.cons (ex_row (exs_nil 1 s) ⟨by decide, by decide⟩ (by decide)) .nil)) 2 rfl O
  have e2 : Exs 3 s (some ⟨b2, 0, none⟩) 2 2 [getX, mulX] := Sl.lit [[_, _, _, _, _], [_, _, _, _, _]] h2 rfl (.cons (ex_row (exs_nil 2 s) z (by decide)) (.cons (ex_row e1 z (by decide)) .nil)) 2 rfl O
  have e3 : Exs 4 s (some ⟨b4, 0, none⟩) 1 1 [sumX] := Sl.lit [[_, _, _, _, _]] h4 rfl (.cons (ex_row e2 z (by decide)) .nil) 1 rfl O
  have e4 : Stms 5 s (some ⟨b5, 0, none⟩) 1 1 [.mk 7 [] [sumX] [] []] := Sl.lit [[_, _, _, _, _]] h5 rfl (.cons ⟨rfl, _, _, _, _, _, _, _, _, _, rfl, e3, stms_nil 4 s, stms_nil 4 s, by decide⟩ .nil) 1 rfl O
  exact ⟨Sl.lit [[_, _, _, _]] h3 rfl (.cons ⟨rfl, _, _, _, rfl, wds_nil s, ⟨by decide, by decide⟩, by decide⟩ .nil) 1 rfl O,
    Sl.lit [[_, _, _, _]] h6 rfl (.cons ⟨rfl, _, _, _, _, _, _, _, _, _, rfl, strs_nil s, strs_nil s, e4, by decide⟩ .nil) 1 rfl O⟩
theorem sumD_of {s : World} {b1 b2 : Nat} (h1 : CellsAt s b1 0 [.int .i64 5, .int .i64 0, .int .u32 0, St [], .slice none 0 0, .int .i64 1, .int .i64 0, .int .u32 6, St [], .slice none 0 0]) (h2 : CellsAt s b2 0 [.int .i64 7, .int .i64 10, .int .u32 0, St [], .slice (some ⟨b1, 0, none⟩) 2 2]) : Exs 3 s (some ⟨b2, 0, none⟩) 1 1 [sumD] := by
  have e1 : Exs 2 s (some ⟨b1, 0, none⟩) 2 2 [getX, .mk 1 0 6 [] []] := Sl.lit [[_, _, _, _, _], [_, _, _, _, _]] h1 rfl (.cons (ex_row (exs_nil 1 s) ⟨by decide, by decide⟩ (by decide)) (.cons (ex_row (exs_nil 1 s) ⟨by decide, by decide⟩ (by decide)) .nil)) 2 rfl O
  exact Sl.lit [[_, _, _, _, _]] h2 rfl (.cons (ex_row e1 ⟨by decide, by decide⟩ (by decide)) .nil) 1 rfl O
theorem smallQ_of {s : World} {g c : Nat} {A1 A2 A3 : Option Addr} {n1 c1 n2 c2 n3 c3 : Nat} (h : CellsAt s g 0 [St mainW, .slice A1 n1 c1, .slice A2 n2 c2, .slice A3 n3 c3, St [102], .slice none 0 0, .slice none 0 0, .slice none 0 0]) (h1 : Strs s A1 n1 c1 []) (h2 : Strs s A2 n2 c2 []) (h3 : Stms 5 s A3 n3 c3 smallM.body) (hc : 2 ≤ c) (hc2 : c ≤ 9223372036854775807) : Fncs 5 s (some ⟨g, 0, none⟩) 2 c smallQ.funcs := by
  have := (Sl.lit (sz := 4) (R := FnR 5) (l := smallQ.funcs) [[_, _, _, _], [_, _, _, _]] h rfl (.cons ⟨rfl, _, _, _, _, _, _, _, _, _, rfl, h1, h2, h3, by decide⟩ (.cons ⟨rfl, _, _, _, _, _, _, _, _, _, rfl, strs_nil s, strs_nil s, stms_nil 5 s, by decide⟩ .nil)) 2 rfl O)
  exact ⟨this.1, hc, hc2, this.2.2.2⟩
theorem sm_K : chkF smallP = (0, 0) := by decide +kernel
theorem sm_KQ : chkF smallQ = (0, 0) := by decide +kernel
theorem sm_R : resP smallP 0 [110] = ((3, 0), (0, 0)) := by decide +kernel
theorem sm_C : callsP smallP = [smallM] := if_neg (by rw [sm_K]; decide)
theorem sm_M4 : msP smallP smallM 4 = [] := by
  refine List.eq_nil_iff_forall_not_mem.2 fun i hi => ?_
  obtain ⟨nd, h1, h2⟩ := ((msP_spec smallP smallM 4).2 i).1 hi
  have : ∀ nd ∈ ndSs smallM.body 0, mnI smallP smallM 4 nd = [] := by decide +kernel
  rw [this nd h1] at h2; cases h2
theorem sm_F : (foldR smallP).2 = (0, 0) := by decide +kernel
theorem sm_F1 : (foldR smallP).1.funcs = [⟨mainW, [], [], [.mk 7 [] [sumD] [] []]⟩] := by kernel_rfl
theorem sm_O : (oprF 11 2).1 = 0 ∧ (oprF 11 2).2 = 0 ∧ opP 11 1 2 = 4294967295 := by decide +kernel
theorem sm_Z : (oprF 6 0).1 = 26 ∧ (oprF 6 0).2 = -3 := by decide +kernel
theorem sm_T {q : Prg} (h : TrimR smallQ q) : q = smallP := by
  rcases h with ⟨h1, _⟩ | ⟨_, F, G, ⟨hF, hG, mi, hm, hmi, hj, hg⟩, rfl⟩
  · rw [sm_KQ] at h1; exact absurd rfl h1
  have h0 : mainF smallQ.funcs = 0 := by decide +kernel
  obtain rfl : 0 = mi := by omega
  obtain ⟨a, b, rfl⟩ : ∃ a b, F = [a, b] := by match F, hF with | [a, b], _ => exact ⟨a, b, rfl⟩
  obtain ⟨c, rfl⟩ : ∃ c, G = [c] := by match G, hG with | [c], _ => exact ⟨c, rfl⟩
  have ha : a = true := by simpa using (hj 0).2 (.refl 0)
  have hb : b = false := by
    cases hb : b with
    | false => rfl
    | true =>
      have := (hj 1).1 (by rw [hb]; rfl)
      cases this with
      | step hc _ =>
        obtain ⟨x, hx, hk⟩ := hc
        obtain ⟨nd, h1, h2⟩ := ((msP_spec smallQ x 4).2 _).1 hk
        obtain rfl : smallM = x := Option.some.inj hx
        have : ∀ nd ∈ ndSs smallM.body 0, mnI smallQ smallM 4 nd = [] := by decide +kernel
        rw [this nd h1] at h2; cases h2
  have hc : c = true := by
    have : ∃ nd ∈ ndSs smallM.body 0, (0 : Int) ∈ mnI smallQ smallM 3 nd := by decide +kernel
    simpa using (hg 0).2 ⟨0, by rw [ha]; rfl, smallM, rfl, ((msP_spec smallQ smallM 3).2 _).2 this⟩
  subst ha hb hc
  rfl
theorem fold_at {s : World} {A : Option Addr} {n c : Nat} (h : Fncs 5 s A n c [⟨mainW, [], [], [.mk 7 [] [sumD] [] []]⟩]) : n = 1 ∧ ∃ b off A1 n1 c1 A2 n2 c2 b2 o2 c3, A = some ⟨b, off, none⟩ ∧ CellsAt s b (off + 0 * 4) [St mainW, .slice A1 n1 c1, .slice A2 n2 c2, .slice (some ⟨b2, o2, none⟩) 1 c3] ∧
    ∃ A4 n4 c4 A5 n5 c5 A6 n6 c6, CellsAt s b2 (o2 + 0 * 5) [.int .i64 7, St [], .slice A4 n4 c4, .slice A5 n5 c5, .slice A6 n6 c6] ∧ Exs 4 s A4 n4 c4 [sumD] := by
  have hn : n = 1 := h.1
  subst hn
  obtain ⟨b, off, x, A1, n1, c1, A2, n2, c2, A3, n3, c3, rfl, hx, hc, _, _, hB, _⟩ := Fncs.at_ h (show 0 < 1 by decide)
  obtain rfl := Option.some.inj hx
  have hn3 : n3 = 1 := hB.1
  subst hn3
  obtain ⟨e, b2, o2, y, A4, n4, c4, A5, n5, c5, A6, n6, c6, he, rfl, hy, hc2, hE, _, _, _⟩ := Stms.at_ hB (show 0 < 1 by decide)
  obtain rfl := Option.some.inj hy
  obtain rfl : 4 = e := by omega
  exact ⟨rfl, b, off, A1, n1, c1, A2, n2, c2, b2, o2, c3, rfl, hc, A4, n4, c4, A5, n5, c5, A6, n6, c6, hc2, hE⟩
set_option maxHeartbeats 1000000 in
set_option maxRecDepth 100000 in
theorem num9_ac (D : Nat) (L : Hl) (s : World) (n : Int) : AC Tryz.prog D 27 [.int .u32 n] L s fun v L' _ => v = .agg #[.int .i64 1, .int .i64 0, .int .u32 n, St [], .slice none 0 0] ∧ L = L' := by
 refine AC_enter (TT := TT) (fn := Tryz.f27) TT_ok Tryz.func27 V Z Tryz.ntmps27 Z (rs := [.cell 2 61]) Z [(0, _)] Z <| Zs <| Zr <| JO_allocZ Z [_, _, _, _, _] Z Z ?_
 intro β1 s1 h1
 refine Zn <| Zt <| Zs <| Zr <| Zqm Z Z <| JO_q (QE_build [(_, _), (_, _)] [_, _, _, _, _] Z Z Z Z Z Z) Z <| JO_st 0 [_, _, _, _, _] Z Z Z Z Z Z Z Z Z <| Zn <| Zt <| Zo <| ?_
 refine retQ_mk [_] L (.inr Z) (.agg (us := [_, _, _, _, _]) 0 Z Z Z Z Z (.nil)) Z h1 (fun sR hS2 => ?_)
 exact ⟨rfl, rfl⟩
set_option maxHeartbeats 2000000 in
set_option maxRecDepth 100000 in
theorem smallO_ac (D : Nat) (L : Hl) (s : World) : AC Tryz.prog D 25 [] L s fun v L' s' => ∃ M', L' = M' ++ L ∧ ∀ s2, Le D s' s2 → Pub M' s2 → ∃ bg bf, v = .agg #[.slice (some ⟨bg, 0, none⟩) 1 1, .slice (some ⟨bf, 0, none⟩) 1 1] ∧ Glos s2 (some ⟨bg, 0, none⟩) 1 1 smallP.globals ∧ Fncs 5 s2 (some ⟨bf, 0, none⟩) 1 1 smallP.funcs := by
 refine AC_enter (TT := TT) (fn := Tryz.f25) TT_ok Tryz.func25 V Z Tryz.ntmps25 Z (rs := [.cell 0 25]) Z [] Z <| Zs <| Zr <| JO_allocZ Z [_, _] Z Z ?_
 intro β1 s1 h1
 refine Zn <| Zt <| Zs <| Zr <| JO_q (QE_build [(_, _), (_, _)] [_, _, _, _, _] Z Z Z Z Z Z) Z <| Jc Z Z Z (num9_ac D _ _ 2) ?_
 rintro _ _ s2 h2 ⟨rfl, rfl⟩
 refine JO_bs [(_, _), (_, _)] [_, _, _, _, _, _, _, _, _, _] Z Z Z Z Z Z Z Z Z ?_
 intro βa s3 h3 hca
 refine JO_q (QE_build [(_, _), (_, _), (_, _)] [_, _, _, _, _] Z Z Z Z Z Z) Z <| JO_allocZ Z [_, _, _, _, _] Z Z ?_
 intro β4 s4 h4
 refine JO_st 0 [_, _, _, _, _] Z Z Z Z Z Z Z Z Z <| Zn <| Zt <| Zs <| Zr <| JO_q (QE_build [(_, _)] [_, _, _, _, _] Z Z Z Z Z Z) Z <| JO_q (QE_ldA 0 [_, _, _, _, _] Z Z Z Z Z) Z <| JO_bs [(_, _), (_, _)] [_, _, _, _, _, _, _, _, _, _] Z Z Z Z Z Z Z Z Z ?_
 intro βb s5 h5 hcb
 refine JO_q (QE_build [(_, _), (_, _), (_, _)] [_, _, _, _, _] Z Z Z Z Z Z) Z <| JO_allocZ Z [_, _, _, _, _] Z Z ?_
 intro β6 s6 h6
 refine JO_st 0 [_, _, _, _, _] Z Z Z Z Z Z Z Z Z <| Zn <| Zt <| Zs <| Zr <| JO_q (QE_build [(_, _), (_, _), (_, _)] [_, _, _, _] Z Z Z Z Z Z) Z <| JO_bs [(_, _)] [_, _, _, _] Z Z Z Z Z Z Z Z Z ?_
 intro βc s7 h7 hcc
 refine JO_q (QE_ldA 0 [_, _, _, _, _] Z Z Z Z Z) Z <| JO_bs [(_, _)] [_, _, _, _, _] Z Z Z Z Z Z Z Z Z ?_
 intro βd s8 h8 hcd
 refine JO_q (QE_build [(_, _), (_, _)] [_, _, _, _, _] Z Z Z Z Z Z) Z <| JO_bs [(_, _)] [_, _, _, _, _] Z Z Z Z Z Z Z Z Z ?_
 intro βe s9 h9 hce
 refine JO_q (QE_build [(_, _), (_, _)] [_, _, _, _] Z Z Z Z Z Z) Z <| JO_bs [(_, _)] [_, _, _, _] Z Z Z Z Z Z Z Z Z ?_
 intro βf s10 h10 hcf
 refine JO_q (QE_build [(_, _), (_, _)] [_, _] Z Z Z Z Z Z) Z <| JO_st 2 [_, _] Z Z Z Z Z Z Z Z Z <| Zn <| Zt <| Zo <| ?_
 refine retQ_mk [_, _, _] _ (.inr Z) (.agg (us := [_, _]) 2 Z Z Z Z Z (.nil)) Z (h1.t h2|>.t h3|>.t h4|>.t h5|>.t h6|>.t h7|>.t h8|>.t h9|>.t h10) (fun sR hS2 => ?_)
 exact ⟨[], rfl, fun s2 hs2 hp => ⟨_, _, rfl, small_of (hca.le (h4.t h5|>.t h6|>.t h7|>.t h8|>.t h9|>.t h10|>.t (hS2.t hs2))) (hcb.le (h6.t h7|>.t h8|>.t h9|>.t h10|>.t (hS2.t hs2))) (hcc.le (h8.t h9|>.t h10|>.t (hS2.t hs2))) (hcd.le (h9.t h10|>.t (hS2.t hs2))) (hce.le (h10.t (hS2.t hs2))) (hcf.le ((Lr D).t (hS2.t hs2)))⟩⟩
theorem smallP_ac (D : Nat) (L : Hl) (s : World) : AC Tryz.prog D 25 [] L s fun v L' s' => L = L' ∧ ∃ bg bf, v = .agg #[.slice (some ⟨bg, 0, none⟩) 1 1, .slice (some ⟨bf, 0, none⟩) 1 1] ∧ Glos s' (some ⟨bg, 0, none⟩) 1 1 smallP.globals ∧ Fncs 5 s' (some ⟨bf, 0, none⟩) 1 1 smallP.funcs := AC.pubW (smallO_ac D L s)
end Go.Proofs.YtacajpepkfinoaaGreatDoor
namespace Go.Proofs.YtacajpepkfinoaaGreatDoor
open Go.FL
attribute [local irreducible] JC JO JA JB thenQ blockQ retQ AC fill CellsAt QE Ev Mid
set_option maxHeartbeats 8000000 in
set_option maxRecDepth 100000 in
theorem checked_ac (D : Nat) (L : Hl) (s : World) (hG : GP s) : AC Tryz.prog D 8 [] L s fun v L' _ => v = .bool true ∧ L = L' := by
 refine AC_enter (TT := TT) (fn := Tryz.f8) TT_ok Tryz.func8 V Z Tryz.ntmps8 Z (rs := [.tmp 0]) Z [] Z <| Zs <| Zr <| Zqa Z Z <| Zn <| Zt <| Zs <| Zr <| Jc Z Z Z (smallP_ac D _ _) ?_
 rintro _ _ s1 h1 ⟨rfl, bg1, bf1, rfl, hg1, hf1⟩
 refine Jc Z Z Z (resolve_ac D _ _ (hG.le h1) 5 smallP _ _ _ _ _ _ (hg1.le (Lr D)) (hf1.le (Lr D)) 0 [110]) ?_
 rintro _ _ s2 h2 ⟨rfl, rfl⟩
 refine Zqm Z Z <| Zqx Z Z Z <| Zqx Z Z Z <| JO_allocZ Z [_, _] Z Z ?_
 intro β3 s3 h3
 refine JO_allocZ Z [_, _] Z Z ?_
 intro β4 s4 h4
 refine JO_st 1 [_, _] Z Z Z Z Z Z Z Z Z <| JO_st 0 [_, _] Z Z Z Z Z Z Z Z Z <| Zn <| Zt <| Zs <| Zr <| Jc Z Z Z (smallP_ac D _ _) ?_
 rintro _ _ s5 h5 ⟨rfl, bg2, bf2, rfl, hg2, hf2⟩
 refine Jc Z Z Z (calls_ac D _ _ (hG.le (h1.t h2|>.t h3|>.t h4|>.t h5)) 5 smallP _ _ _ _ _ _ (hg2.le (Lr D)) (hf2.le (Lr D))) ?_
 rintro _ _ s6 h6 ⟨rfl, Ac, nc, cc, rfl, hCl⟩
 rw [sm_C] at hCl
 have hnc : nc = 1 := hCl.1
 subst hnc
 obtain ⟨bq, oq, xq, Aq, nq, cq, rfl, hxq, hcq, hIq⟩ := ClsR.at_ hCl (show 0 < 1 by decide)
 obtain rfl := Option.some.inj hxq
 rw [sm_M4] at hIq
 have hnq : nq = 0 := hIq.1
 subst hnq
 refine Zqm Z Z <| Zqx Z Z Z <| Zqx Z Z Z <| JO_allocZ Z [_, _] Z Z ?_
 intro β7 s7 h7
 refine Zqa Z Z <| JO_st 0 [_, _] Z Z Z Z Z Z Z Z Z <| Zn <| Zt <| Zs <| Zr <| Jc Z Z Z (smallP_ac D _ _) ?_
 rintro _ _ s8 h8 ⟨rfl, bg3, bf3, rfl, hg3, hf3⟩
 refine JO_q (QE_field Z Z Z Z Z Z Z Z Z) Z <| Jc Z Z Z (smallP_ac D _ _) ?_
 rintro _ _ s9 h9 ⟨rfl, bg4, bf4, rfl, hg4, hf4⟩
 obtain ⟨b4, off4, x4, B1, m1, d1, B2, m2, d2, B3, m3, d3, hA4, hx4, hc4, hp4, hl4, hb4, _⟩ := Fncs.at_ hf4 (show 0 < 1 by decide)
 cases hA4
 obtain rfl := Option.some.inj hx4
 refine JO_q (QE_field Z Z Z Z Z Z Z Z Z) Z <| JO_q (QE_build [(_, _)] [_, _, _, _] Z Z Z Z Z Z) Z <| JO_bs [(_, _)] [_, _, _, _] Z Z Z Z Z Z Z Z Z ?_
 intro βs s10 h10 hcs
 refine JO_appN (sz := 4) Z Z Z Z Z Z (hc4.le h10) Z (Row.of_cells (hcs.le (Lr D)) Z Z) (by decide) ⟨by decide +kernel, by decide⟩ Z ?_
 intro βv cv s11 h11 hcv hv1 hv2
 refine JO_q (QE_build [(_, _), (_, _)] [_, _] Z Z Z Z Z Z) Z <| Jc Z Z Z (trim_ac D _ _ (hG.le (h1.t h2|>.t h3|>.t h4|>.t h5|>.t h6|>.t h7|>.t h8|>.t h9|>.t h10|>.t h11)) 5 smallQ _ _ _ _ _ _ (hg3.le (h9.t h10|>.t h11)) (smallQ_of (hcv.le (Lr D)) (hp4.le (h10.t h11)) (hl4.le (h10.t h11)) (hb4.le (h10.t h11)) hv1 hv2)) ?_
 rintro _ _ s12 h12 ⟨rfl, qt, hTq, Dg, kg, jg, Df, kf, jf, rfl, hgt, hft⟩
 obtain rfl := sm_T hTq
 refine Zqm Z Z <| Zqx Z Z Z <| Zqx Z Z Z <| JO_allocZ Z [_, _] Z Z ?_
 intro β13 s13 h13
 refine JO_allocZ Z [_, _] Z Z ?_
 intro β14 s14 h14
 refine JO_st 1 [_, _] Z Z Z Z Z Z Z Z Z <| JO_st 0 [_, _] Z Z Z Z Z Z Z Z Z <| Zn <| Zt <| Zs <| Zr <| Jc Z Z Z (smallP_ac D _ _) ?_
 rintro _ _ s15 h15 ⟨rfl, bg5, bf5, rfl, hg5, hf5⟩
 refine Jc Z Z Z (fold_ac D _ _ (hG.le (h1.t h2|>.t h3|>.t h4|>.t h5|>.t h6|>.t h7|>.t h8|>.t h9|>.t h10|>.t h11|>.t h12|>.t h13|>.t h14|>.t h15)) 5 smallP _ _ _ _ _ _ (hg5.le (Lr D)) (hf5.le (Lr D))) ?_
 rintro _ _ s16 h16 ⟨rfl, Eg, ug, wg, Ef, uf, wf, rfl, hgo, hfo⟩
 rw [sm_F1] at hfo
 obtain ⟨rfl, bo, oo, C1, r1, e1, C2, r2, e2, bo2, oo2, e3, rfl, hco, C4, r4, e4, C5, r5, e5, C6, r6, e6, hco2, hxo⟩ := fold_at hfo
 refine Zqm Z Z <| Zqx Z Z Z <| Zqx Z Z Z <| JO_allocZ Z [_, _] Z Z ?_
 intro β17 s17 h17
 refine JO_allocZ Z [_, _] Z Z ?_
 intro β18 s18 h18
 refine JO_st 1 [_, _] Z Z Z Z Z Z Z Z Z <| JO_st 0 [_, _] Z Z Z Z Z Z Z Z Z <| Zn <| Zt <| Zs <| Zr <| Jc Z Z Z (operate_ac D _ _ 11 1 2 ⟨by decide, by decide⟩ ⟨by decide, by decide⟩) ?_
 rintro _ _ s19 h19 ⟨rfl, rfl⟩
 refine Zqm Z Z <| Zqx Z Z Z <| Zqx Z Z Z <| JO_allocZ Z [_, _] Z Z ?_
 intro β20 s20 h20
 refine Zqa Z Z <| JO_st 0 [_, _] Z Z Z Z Z Z Z Z Z <| Zn <| Zt <| Zs <| Zr <| Jc Z Z Z (operate_ac D _ _ 6 1 0 ⟨by decide, by decide⟩ ⟨by decide, by decide⟩) ?_
 rintro _ _ s21 h21 ⟨rfl, rfl⟩
 refine Zqm Z Z <| Zqx Z Z Z <| Zqx Z Z Z <| JO_allocZ Z [_, _] Z Z ?_
 intro β22 s22 h22
 refine Zqa Z Z <| JO_st 0 [_, _] Z Z Z Z Z Z Z Z Z <| Zn <| Zt <| Zs <| Zs <| Zr <| Zqf0 Z Z Z Z Z <| JO_q (QE_ld1 7 Z Z Z Z Z) Z <| JO_q (QE_cast (v' := .bool false) (QE_ne Z Z) (bF (by rw [sm_R]))) Z <| Zqm Z Z <| Zg Z Z <| Zqf0 Z Z Z Z Z <| Zg Z Z <| JO_q (QE_ld1 6 Z Z Z Z Z) Z <| Zg Z Z <| JO_q (QE_cast (v' := .bool false) (QE_ne Z Z) (bF (by rw [sm_K]))) Z <| ZqF Z Z Z <| Zqm Z Z <| Zg Z Z <| Zqf0 Z Z Z Z Z <| Zg Z Z <| Zql 4 Z Z Z Z Z Z <| Zg Z Z <| JO_q (QE_cast (v' := .bool false) (QE_ne Z Z) (bF (by rw [sm_KQ]))) Z ?_
 refine ZqF Z Z Z <| Zqm Z Z <| Zg Z Z <| Zqf0 Z Z Z Z Z <| Zg Z Z <| Zql 2 Z Z Z Z Z Z <| Zg Z Z <| JO_q (QE_cast (v' := .bool false) (QE_ne Z Z) (bF (by rw [sm_F]))) Z <| ZqF Z Z Z <| Zqm Z Z <| Zg Z Z <| Zqf0 Z Z Z Z Z <| Zg Z Z <| Zql 1 Z Z Z Z Z Z <| Zg Z Z <| JO_q (QE_cast (v' := .bool false) (QE_ne Z Z) (bF (by exact sm_O.1))) Z <| ZqF Z Z Z <| Zqm Z Z <| Zg Z Z <| Zqm Z Z <| Zg Z Z <| Zqls Z Z Z Z <| Zg Z Z <| JO_q (QE_cast (v' := .bool false) (QE_ne Z Z) (bF (by rfl))) Z ?_
 refine ZqF Z Z Z <| Zqm Z Z <| Zg Z Z <| ZqfB Z Z Z Z Z <| Zg Z Z <| Zql 3 Z Z Z Z Z Z <| Zg Z Z <| Zqls Z Z Z Z <| Zg Z Z <| JO_q (QE_cast (v' := .bool false) (QE_ne Z Z) (bF (by rfl))) Z <| ZqF Z Z Z <| Zqm Z Z <| Zg Z Z <| ZqfB Z Z Z Z Z <| Zg Z Z <| Zql 3 Z Z Z Z Z Z <| Zg Z Z <| JO_q (QE_iaN (j := 0) Z Z Z Z Z Z (by decide)) Z <| Zg Z Z <| JO_q (QE_fa Z Z Z Z) Z <| Zg Z Z <| JO_q (QE_ldsR 3 Z Z Z (hco.le (h17.t h18|>.t h19|>.t h20|>.t h21|>.t h22)) Z) Z <| Zg Z Z <| Zqls Z Z Z Z <| Zg Z Z <| JO_q (QE_cast (v' := .bool false) (QE_ne Z Z) (bF (by rfl))) Z ?_
 refine ZqF Z Z Z <| Zn <| Zt <| Zz Z <| Zk <| Zt <| Zs <| Zr <| JO_q (QE_build [(_, _)] [_, _, _, _, _] Z Z Z Z Z Z) Z <| Jc Z Z Z (num9_ac D _ _ 6) ?_
 rintro _ _ s23 h23 ⟨rfl, rfl⟩
 refine JO_bs [(_, _), (_, _)] [_, _, _, _, _, _, _, _, _, _] Z Z Z Z Z Z Z Z Z ?_
 intro βg s24 h24 hcg
 refine JO_q (QE_build [(_, _), (_, _), (_, _)] [_, _, _, _, _] Z Z Z Z Z Z) Z <| JO_allocZ Z [_, _, _, _, _] Z Z ?_
 intro β25 s25 h25
 refine JO_st 0 [_, _, _, _, _] Z Z Z Z Z Z Z Z Z <| Zn <| Zt <| Zs <| JC_draw drawsMixed 44 Z _ (fun _ h => h) ?_
 intro s26 h26
 refine JA_1 0 V <| Jb Z trivial Z Z Z (smallP_ac D _ _) ?_
 rintro _ _ s27 h27 ⟨rfl, bg6, bf6, rfl, hg6, hf6⟩
 refine ⟨fun _ _ h => h, ?_⟩
 refine JA_1 1 V <| Jb Z trivial Z Z Z (program_ac D _ _ (hG.le (h1.t h2|>.t h3|>.t h4|>.t h5|>.t h6|>.t h7|>.t h8|>.t h9|>.t h10|>.t h11|>.t h12|>.t h13|>.t h14|>.t h15|>.t h16|>.t h17|>.t h18|>.t h19|>.t h20|>.t h21|>.t h22|>.t h23|>.t h24|>.t h25|>.t h26|>.t h27)) 5 smallP _ _ _ _ _ _ (hg6.le (Lr D)) (hf6.le (Lr D))) ?_
 rintro _ _ s28 h28 ⟨rfl, rfl⟩
 refine ⟨fun _ _ h => h, ?_⟩
 refine za 2 Z (QE_field Z Z Z Z Z Z Z Z Z) Z <| za 3 Z (QE_cast (v' := .bool true) (QE_eq Z Z) (bT (by rw [sm_K]))) Z <| za 4 Z (QE_mv Z) Z <| zg 5 Z ⟨_, Z, Z⟩ (QE_ldA 9 [_, _] Z Z Z Z Z) Z <| zg 6 Z ⟨_, Z, Z⟩ (QE_build [(_, _)] [_, _] Z Z Z Z Z Z) Z <| zg 7 Z ⟨_, Z, Z⟩ (QE_cast (v' := .bool true) (QE_aeq Z Z (eqMean _ _ _ _)) (bT ⟨by rw [sm_R], by rw [sm_R]⟩)) Z <| za 8 Z (QE_pickT Z Z) Z <| za 9 Z (QE_mv Z) Z <| zg 10 Z ⟨_, Z, Z⟩ (QE_mv Z) Z <| zg 11 Z ⟨_, Z, Z⟩ (QE_iaN (j := 0) Z Z Z Z Z Z (by decide)) Z ?_
 refine zg 12 Z ⟨_, Z, Z⟩ (QE_ldsR0 Z Z Z (hcq.le (h7.t h8|>.t h9|>.t h10|>.t h11|>.t h12|>.t h13|>.t h14|>.t h15|>.t h16|>.t h17|>.t h18|>.t h19|>.t h20|>.t h21|>.t h22|>.t h23|>.t h24|>.t h25|>.t h26)) Z) Z <| zg 13 Z ⟨_, Z, Z⟩ (QE_lenS Z Z Z) Z <| zg 14 Z ⟨_, Z, Z⟩ (QE_cast (v' := .bool true) (QE_eq Z Z) (bT (by rfl))) Z <| za 15 Z (QE_pickT Z Z) Z <| za 16 Z (QE_mv Z) Z <| zg 17 Z ⟨_, Z, Z⟩ (QE_ldA 6 [_, _] Z Z Z Z Z) Z <| JA_1 18 V <| Jb Z ⟨_, Z, Z⟩ Z Z Z (smallP_ac D _ _) ?_
 rintro _ _ s29 h29 ⟨rfl, bg7, bf7, rfl, hg7, hf7⟩
 refine ⟨fun _ _ h => h, ?_⟩
 refine JA_1 19 V <| Jb Z ⟨_, Z, Z⟩ Z Z Z (sameP_ac D _ _ 5 smallP _ _ _ _ _ _ (hgt.le (h13.t h14|>.t h15|>.t h16|>.t h17|>.t h18|>.t h19|>.t h20|>.t h21|>.t h22|>.t h23|>.t h24|>.t h25|>.t h26|>.t h27|>.t h28|>.t h29)) (hft.le (h13.t h14|>.t h15|>.t h16|>.t h17|>.t h18|>.t h19|>.t h20|>.t h21|>.t h22|>.t h23|>.t h24|>.t h25|>.t h26|>.t h27|>.t h28|>.t h29)) 5 _ _ _ _ _ _ (hg7.le (Lr D)) (hf7.le (Lr D))) ?_
 rintro _ _ s30 h30 ⟨rfl, rfl⟩
 refine ⟨fun _ _ h => h, ?_⟩
 refine za 20 Z (QE_pickT Z Z) Z <| za 21 Z (QE_mv Z) Z <| zg 22 Z ⟨_, Z, Z⟩ (QE_faB Z Z Z Z) Z <| zg 23 Z ⟨_, Z, Z⟩ (QE_ld1 4 Z Z Z Z Z) Z <| zg 24 Z ⟨_, Z, Z⟩ (QE_iaN (j := 0) Z Z Z Z Z Z (by decide)) Z <| zg 25 Z ⟨_, Z, Z⟩ (QE_fa Z Z Z Z) Z <| zg 26 Z ⟨_, Z, Z⟩ (QE_ldsR 3 Z Z Z (hco.le (h17.t h18|>.t h19|>.t h20|>.t h21|>.t h22|>.t h23|>.t h24|>.t h25|>.t h26)) Z) Z <| zg 27 Z ⟨_, Z, Z⟩ (QE_iaN (j := 0) Z Z Z Z Z Z (by decide)) Z <| zg 28 Z ⟨_, Z, Z⟩ (QE_fa Z Z Z Z) Z ?_
 refine zg 29 Z ⟨_, Z, Z⟩ (QE_ldsR 2 Z Z Z (hco2.le (h17.t h18|>.t h19|>.t h20|>.t h21|>.t h22|>.t h23|>.t h24|>.t h25|>.t h26)) Z) Z <| zg 30 Z ⟨_, Z, Z⟩ (QE_ldA 0 [_, _, _, _, _] Z Z Z Z Z) Z <| JA_1 31 V <| JB_bs Z ⟨_, Z, Z⟩ [(_, _)] [_, _, _, _, _] Z Z Z Z Z Z Z Z Z ?_
 intro βh s31 h31 hch
 refine JA_1 32 V <| Jb Z ⟨_, Z, Z⟩ Z Z Z (sameX_ac D 4 _ _ 3 _ _ _ _ _ _ [sumD] (hxo.le (h17.t h18|>.t h19|>.t h20|>.t h21|>.t h22|>.t h23|>.t h24|>.t h25|>.t h26|>.t h27|>.t h28|>.t h29|>.t h30|>.t h31)) (sumD_of (hcg.le (h25.t h26|>.t h27|>.t h28|>.t h29|>.t h30|>.t h31)) (hch.le (Lr D)))) ?_
 rintro _ _ s32 h32 ⟨rfl, rfl⟩
 refine ⟨fun _ _ h => h, ?_⟩
 refine za 33 Z (QE_pickT Z Z) Z <| za 34 Z (QE_mv Z) Z <| zg 35 Z ⟨_, Z, Z⟩ (QE_mv Z) Z <| zg 36 Z ⟨_, Z, Z⟩ (QE_cast (v' := .bool true) (QE_eq Z Z) (bT (by rw [if_pos sm_O.1]; exact sm_O.2.2))) Z <| za 37 Z (QE_pickT Z Z) Z <| za 38 Z (QE_mv Z) Z <| zg 39 Z ⟨_, Z, Z⟩ (QE_ldA 1 [_, _] Z Z Z Z Z) Z <| JA_1 40 V <| Jb Z ⟨_, Z, Z⟩ Z Z Z (at_ac D _ _ _ _) ?_
 rintro _ _ s33 h33 ⟨rfl, rfl⟩
 refine ⟨fun _ _ h => h, ?_⟩
 refine zg 41 Z ⟨_, Z, Z⟩ (QE_cast (v' := .bool true) (QE_aeq Z Z (eqFault _ _ _ _)) (bT sm_Z)) Z <| za 42 Z (QE_pickT Z Z) Z <| za 43 Z (QE_as Z) Z <| JA_done V <| Zt <| Zo <| ?_
 refine retQ_mk [_, _, _, _, _, _, _, _, _, _] L (.inr Z) (.tmp Z (.nil)) Z (h1.t h2|>.t h3|>.t h4|>.t h5|>.t h6|>.t h7|>.t h8|>.t h9|>.t h10|>.t h11|>.t h12|>.t h13|>.t h14|>.t h15|>.t h16|>.t h17|>.t h18|>.t h19|>.t h20|>.t h21|>.t h22|>.t h23|>.t h24|>.t h25|>.t h26|>.t h27|>.t h28|>.t h29|>.t h30|>.t h31|>.t h32|>.t h33) (fun sR hS2 => ?_)
 exact ⟨rfl, rfl⟩
end Go.Proofs.YtacajpepkfinoaaGreatDoor
namespace Go.Proofs.YtacajpepkfinoaaGreatDoor
open Go.FL
attribute [local irreducible] JC JO JA JB thenQ blockQ retQ AC fill CellsAt QE Ev Mid
set_option maxHeartbeats 2000000 in
set_option maxRecDepth 100000 in
theorem lawProg_ac (D : Nat) (L : Hl) (s : World) (hG : GP s) (d : Nat) (p : Prg) (Ag Af : Option Addr) (ng cg nf cf : Nat) (hGl : Glos s Ag ng cg p.globals) (hFn : Fncs d s Af nf cf p.funcs) : AC Tryz.prog D 3 [.agg #[.slice Ag ng cg, .slice Af nf cf]] L s fun v L' _ => v = .bool true ∧ L = L' := by
 refine AC_enter (TT := TT) (fn := Tryz.f3) TT_ok Tryz.func3 V Z Tryz.ntmps3 Z (rs := [.tmp 2]) Z [(0, _)] Z <| Zs <| Zr <| JO_boxA Z Z ?_
 intro β1 s1 h1
 refine Zqa Z Z <| Zn <| Zt <| Zs <| JC_draw drawsMixed 9 Z _ (fun _ h => h) ?_
 intro s2 h2
 refine JA_1 0 V <| Jb Z trivial Z Z Z (checked_ac D _ _ (hG.le (h1.t h2))) ?_
 rintro _ _ s3 h3 ⟨rfl, rfl⟩
 refine ⟨fun _ _ h => h, ?_⟩
 refine za 1 Z (QE_mv Z) Z <| zg 2 Z ⟨_, Z, Z⟩ (QE_ldA 0 [_, _] Z Z Z Z Z) Z <| zg 4 Z ⟨_, Z, Z⟩ (QE_ldA 0 [_, _] Z Z Z Z Z) Z <| JA_1 3 V <| Jb Z ⟨_, Z, Z⟩ Z Z Z (program_ac D _ _ (hG.le (h1.t h2|>.t h3)) d p Ag Af ng cg nf cf (hGl.le (h1.t h2|>.t h3)) (hFn.le (h1.t h2|>.t h3))) ?_
 rintro _ _ s4 h4 ⟨rfl, rfl⟩
 refine ⟨fun _ _ h => h, ?_⟩
 refine JA_1 5 V <| Jb Z ⟨_, Z, Z⟩ Z Z Z (rchk_ac D _ _ d p Ag Af ng cg nf cf (hGl.le (h1.t h2|>.t h3|>.t h4)) (hFn.le (h1.t h2|>.t h3|>.t h4))) ?_
 rintro _ _ s5 h5 ⟨rfl, rfl⟩
 refine ⟨fun _ _ h => h, ?_⟩
 refine zg 6 Z ⟨_, Z, Z⟩ (QE_cast (v' := .bool true) (QE_aeq Z Z (eqFault _ _ _ _)) (bT ⟨Z, Z⟩)) Z <| za 7 Z (QE_pickT Z Z) Z <| za 8 Z (QE_as Z) Z <| JA_done V <| Zt <| Zo <| ?_
 refine retQ_mk [_] L (.inr Z) (.tmp Z (.nil)) Z (h1.t h2|>.t h3|>.t h4|>.t h5) (fun sR hS2 => ?_)
 exact ⟨rfl, rfl⟩
end Go.Proofs.YtacajpepkfinoaaGreatDoor
namespace Go.Proofs.YtacajpepkfinoaaGreatDoor
open Go Go.FL Go.ChangeShapes Go.WideShapes Go.ChangeAt Go.RowKit Go.Deep
theorem own_knob : ownKnob Tryz.prog.godebug = none := by kernel_rfl
theorem laid_out : laidOutB Tryz.prog = true := by kernel_rfl
theorem mark_free (l : List Obj) : ∃ D, ∀ E, D ≤ E → ∀ o ∈ l, o ≠ dum E := by
  induction l with
  | nil => exact ⟨0, fun _ _ _ h => by cases h⟩
  | cons x l ih =>
    obtain ⟨D, hD⟩ := ih
    have hx : ∃ B, ∀ E, B ≤ E → x ≠ dum E := by
      cases x with
      | mapIter a n b c => exact ⟨n + 1, fun E hE h => by simp only [dum, Obj.mapIter.injEq] at h; omega⟩
      | _ => exact ⟨0, fun E _ h => by simp [dum] at h⟩
    obtain ⟨B, hB⟩ := hx
    refine ⟨max D B, fun E hE o ho => ?_⟩
    rcases List.mem_cons.1 ho with rfl | ho
    · exact hB E O
    · exact hD E O o ho
theorem mark_world (W : World) : ∃ D, ∀ k : Nat, W.heap[k]? ≠ some (dum D) := by
  obtain ⟨D, hD⟩ := mark_free W.heap.toList
  refine ⟨D, fun k hk => hD D (Nat.le_refl _) (dum D) ?_ Z⟩
  rw [← Array.getElem?_toList] at hk
  exact List.mem_of_getElem? hk
theorem below_of {D : Nat} {W W' : World} (hD : ∀ k : Nat, W.heap[k]? ≠ some (dum D)) (h : Le D W W') : Below W.heap.size W W' :=
  ⟨h.os, h.tape, h.output, h.size, fun k hk => (h.block k hk).resolve_left (hD k)⟩
theorem law_calls {P : Program} {f : FuncId} {args : List Value} {W : World} (h : ∀ D, AC P D f args [] W fun v L' _ => v = .bool true ∧ [] = L') :
    Calls P f args.toArray W fun e W' => e = .returned (.bool true) ∧ Below W.heap.size W W' := by
  obtain ⟨D, hD⟩ := mark_world W
  refine ((h D).2 ⟨by simp, fun x hx => by cases hx⟩).mono ?_
  rintro e w' ⟨v, L', s', h1, rfl, h3, h4, rfl, rfl⟩
  exact ⟨h1, below_of hD h4⟩
section
variable {H : Type} {enc : TypeId × Value → H} {P : Program}
theorem trodAll_stays {W W' : World} (hl : laidOutB P = true) (hb : Below W.heap.size W W') : ∀ {ts : List TypeId} {vs : List Value} {ds : List (DataW H)} {ps : List MemPlace}, (∀ t ∈ ts, P.readableRec t = true ∧ t < P.types.size) → (∀ x ∈ ps, x.block < W.heap.size) →
    DataW.TrodAll enc P W 0 (fun _ => true) true ts vs ds ps → DataW.TrodAll enc P W' 0 (fun b => decide (b < W.heap.size)) true ts vs ds ps
  | [], _, _, _, _, _, h => by
    obtain ⟨rfl, rfl, rfl⟩ := trodAll_nil h
    exact trodAll_mk0
  | t :: ts, _, _, _, hts, hp, h => by
    obtain ⟨v, vs, d, ds, a, b, rfl, rfl, rfl, h1, h2⟩ := trodAll_cons h
    have ht := hts t (List.mem_cons_self ..)
    exact trodAll_cons_mk (Below.trod hl ht.1 ht.2 h1 hb fun x hx => hp x (List.mem_append_left _ hx)) (trodAll_stays hl hb (fun t' h' => hts t' (List.mem_cons_of_mem _ h')) (fun x hx => hp x (List.mem_append_right _ hx)) h2)
theorem law_post {fn : Func} {s : ChangeSpec} {W W' : World} {args : Array Value} {ds gs : List (DataW H)} {before : List MemPlace} {tb : TypeId} (hl : laidOutB P = true) (hts : ∀ t ∈ fn.params.toList, P.readableRec t = true ∧ t < P.types.size) (hr : fn.resultTypes = #[tb]) (hb : P.underlying tb = some .bool)
    (hv : s.vars = []) (hW : DataW.Whole enc P fn.params.toList s.vars false W args.toList ds gs before) (hfn : s.fn H ds = { results := [.lit (.bool true)], args := ds }) (hB : Below W.heap.size W W') : s.post enc P fn false true false false W args (.bool true) W' := by
  have hlt : ∀ x ∈ before, x.block < W.heap.size := fun x hx => hW.lt x hx
  have hW' := hW
  obtain ⟨p, q, hA, hV, rfl, _, _⟩ := hW
  rw [hv] at hV
  obtain ⟨rfl, rfl⟩ := trodVars_none hV
  refine ⟨ds, [], p ++ [], [], p, [], hW', ?_, ?_, ?_, hB.frame _, fun h => by cases h⟩
  · rw [List.append_nil, hfn, hr]; exact trodAll_cons_mk (shut_bool hb _) trodAll_mk0
  · rw [List.append_nil, hfn]; exact trodAll_stays hl hB hts (fun x hx => hlt x (List.mem_append_left _ hx)) hA
  · rw [List.append_nil, hfn, hv]; rfl
end
def Rd (W : World) (t : TypeId) (cs : List Value) : Prop := ∃ (H : Type) (enc : TypeId × Value → H) (n : Nat) (x : DataW H × List MemPlace), DataW.trod enc Tryz.prog W 0 (fun _ => true) true n t cs = some x
section
variable {W : World} {t e : TypeId} {cs : List Value}
theorem rd_int {k : IntKind} (ht : Tryz.prog.underlying t = some (.int k)) (h : Rd W t cs) : ∃ n, cs = [.int k n] ∧ (Lit.int k n).wf = true := by
  obtain ⟨H, enc, n, x, h⟩ := h
  obtain ⟨i, h1, _, h2⟩ := DataW.trod_int ht h
  exact ⟨i, h1, h2⟩
theorem rd_str (ht : Tryz.prog.underlying t = some .string) (h : Rd W t cs) : ∃ l : List UInt8, cs = [St l] ∧ l.length ≤ 9223372036854775807 := by
  obtain ⟨H, enc, n, x, h⟩ := h
  obtain ⟨s, h1, _, h2⟩ := DataW.trod_string ht h
  refine ⟨s.data.toList, by rw [h1], ?_⟩
  have : s.data.toList.length = s.size := by rw [Array.length_toList]; rfl
  simp only [maxLen] at h2
  omega
theorem rd_field {fs : Array Field} (ht : Tryz.prog.underlying t = some (.struct fs)) (h : Rd W t cs) {sz : Nat} (hc : Tryz.prog.cellsOf t = sz) : cs.length = sz ∧ ∀ (i : Nat) (f : Field), fs[i]? = some f → ∀ (ty off n : Nat), f.type = ty → f.offset = off → Tryz.prog.cellsOf ty = n → Rd W ty ((cs.drop off).take n) := by
  obtain ⟨H, enc, n, x, h⟩ := h
  obtain ⟨xs, m, _, _, h1, h2, h3⟩ := DataW.trod_struct ht h
  refine ⟨h1.trans hc, fun i f hf ty off k e1 e2 e3 => ?_⟩
  have hi : i < xs.length := by rw [h2]; exact (Array.getElem?_eq_some_iff.1 hf).1
  have := h3 i f hf
  rw [List.getElem?_eq_getElem hi, e1, e2, e3] at this
  exact ⟨H, enc, m, _, this⟩
theorem rd_slice {sz : Nat} (ht : Tryz.prog.underlying t = some (.slice e)) (hc : Tryz.prog.cellsOf e = sz) (hp : 0 < sz) (h : Rd W t cs) : ∃ A n c, cs = [.slice A n c] ∧ n ≤ c ∧ c ≤ 9223372036854775807 ∧
    ∀ i, i < n → ∃ b off ds, A = some ⟨b, off, none⟩ ∧ CellsAt W b (off + i * sz) ds ∧ ds.length = sz ∧ Rd W e ds := by
  obtain ⟨H, enc, q, x, h⟩ := h
  rcases open_slice ht h with ⟨rfl, _⟩ | ⟨a, len, cap, m, k, D, Pl, rfl, _, h1, h2, h3, _, h4⟩
  · exact ⟨none, 0, 0, rfl, Nat.le_refl _, by omega, fun i hi => by omega⟩
  · simp only [maxLen] at h2
    refine ⟨some a, len, cap, Z, h1, by omega, fun i hi => ?_⟩
    obtain ⟨ds, k1, k2⟩ := h4 i (by simp at h3; omega)
    rw [hc] at k1
    obtain ⟨_, k3, k4⟩ := World.cells?_some k1
    obtain ⟨b, off, spot⟩ := a
    have hs : spot = none := by
      obtain ⟨ds0, j1, _⟩ := h4 0 (by simp at h3; omega)
      rw [hc, Nat.zero_mul] at j1
      obtain ⟨_, j3, j4⟩ := World.cells?_some j1
      have := j4 0 hp
      rw [List.getElem?_eq_getElem O] at this
      simpa [Addr.add] using World.cell?_spot this
    subst hs
    refine ⟨b, off, ds, Z, fun j v hj => ?_, k3, H, enc, k, _, k2⟩
    have hl : j < sz := by rw [← k3]; exact (List.getElem?_eq_some_iff.1 hj).1
    have := k4 j hl
    rw [hj, add_lit, add_lit] at this
    exact this
theorem sl_of {α : Type} [Inhabited α] {R : World → α → List Value → Prop} {sz : Nat} (ht : Tryz.prog.underlying t = some (.slice e)) (hc : Tryz.prog.cellsOf e = sz) (hp : 0 < sz) (h : Rd W t cs) (hel : ∀ ds, Rd W e ds → ∃ x : α, R W x ds) : ∃ A n c l, cs = [.slice A n c] ∧ Sl sz R W A n c l := by
  obtain ⟨A, n, c, h1, h2, h3, h4⟩ := rd_slice ht hc hp h
  obtain ⟨f, hf⟩ := choose_lt (α := α) (p := fun i x => ∃ b off ds, A = some ⟨b, off, none⟩ ∧ CellsAt W b (off + i * sz) ds ∧ ds.length = sz ∧ R W x ds) (n := n) (fun i hi => by
    obtain ⟨b, off, ds, k1, k2, k3, k4⟩ := h4 i hi
    obtain ⟨x, hx⟩ := hel ds k4
    exact ⟨x, b, off, ds, k1, k2, k3, hx⟩)
  refine ⟨A, n, c, (List.range n).map f, h1, by simp, h2, h3, fun i x hi => ?_⟩
  rw [List.getElem?_map] at hi
  cases hr : (List.range n)[i]? with
  | none => simp [hr] at hi
  | some j =>
    simp [hr] at hi
    obtain ⟨hi1, hi2⟩ := List.getElem?_eq_some_iff.1 hr
    simp at hi1 hi2
    subst hi2; subst hi
    exact hf i hi1
theorem len2 {l : List Value} (h : l.length = 2) : ∃ a b, l = [a, b] := by match l, h with | [a, b], _ => exact ⟨a, b, rfl⟩
theorem len4 {l : List Value} (h : l.length = 4) : ∃ a b c d, l = [a, b, c, d] := by match l, h with | [a, b, c, d], _ => exact ⟨a, b, c, d, rfl⟩
theorem one_eq {a b : Value} (h : [a] = [b]) : a = b := by injection h
theorem u32_wf {n : Int} (h : (Lit.int .u32 n).wf = true) : U32 n := by have := bounds_u32 h; exact ⟨by omega, by omega⟩
end
end Go.Proofs.YtacajpepkfinoaaGreatDoor
namespace Go.Proofs.YtacajpepkfinoaaGreatDoor
open Go Go.FL Go.ChangeShapes Go.WideShapes Go.ChangeAt Go.RowKit Go.Deep
set_option maxRecDepth 100000
instance : Inhabited Ex := ⟨.mk 0 0 0 [] []⟩
instance : Inhabited Stm := ⟨.mk 0 [] [] [] []⟩
instance : Inhabited Fnc := ⟨⟨[], [], [], []⟩⟩
instance : Inhabited Glo := ⟨⟨0, [], 0, []⟩⟩
theorem c_int : Tryz.prog.cellsOf 3 = 1 := by kernel_rfl
theorem c_u32 : Tryz.prog.cellsOf 56 = 1 := by kernel_rfl
theorem c_str : Tryz.prog.cellsOf 9 = 1 := by kernel_rfl
theorem c_strs : Tryz.prog.cellsOf 52 = 1 := by kernel_rfl
theorem c_words : Tryz.prog.cellsOf 78 = 1 := by kernel_rfl
theorem c_ex : Tryz.prog.cellsOf 61 = 5 := by kernel_rfl
theorem c_exs : Tryz.prog.cellsOf 59 = 1 := by kernel_rfl
theorem c_st : Tryz.prog.cellsOf 65 = 5 := by kernel_rfl
theorem c_sts : Tryz.prog.cellsOf 53 = 1 := by kernel_rfl
theorem c_fn : Tryz.prog.cellsOf 55 = 4 := by kernel_rfl
theorem c_fns : Tryz.prog.cellsOf 23 = 1 := by kernel_rfl
theorem c_gl : Tryz.prog.cellsOf 80 = 4 := by kernel_rfl
theorem c_gls : Tryz.prog.cellsOf 22 = 1 := by kernel_rfl
theorem c_prg : Tryz.prog.cellsOf 25 = 2 := by kernel_rfl
theorem len5 {l : List Value} (h : l.length = 5) : ∃ a b c d e, l = [a, b, c, d, e] := by match l, h with | [a, b, c, d, e], _ => exact ⟨a, b, c, d, e, rfl⟩
def RdN (n : Nat) (W : World) (t : TypeId) (cs : List Value) : Prop := ∃ (H : Type) (enc : TypeId × Value → H) (x : DataW H × List MemPlace), DataW.trod enc Tryz.prog W 0 (fun _ => true) true n t cs = some x
section
variable {W : World} {t e : TypeId} {cs : List Value}
theorem RdN.rd {n : Nat} (h : RdN n W t cs) : Rd W t cs := by
  obtain ⟨H, enc, x, h⟩ := h
  exact ⟨H, enc, n, x, h⟩
theorem rdn_field {n : Nat} {fs : Array Field} (ht : Tryz.prog.underlying t = some (.struct fs)) (h : RdN n W t cs) {sz : Nat} (hc : Tryz.prog.cellsOf t = sz) : cs.length = sz ∧ ∃ m, n = m + 1 ∧ ∀ (i : Nat) (f : Field), fs[i]? = some f → ∀ (ty off k : Nat), f.type = ty → f.offset = off → Tryz.prog.cellsOf ty = k → RdN m W ty ((cs.drop off).take k) := by
  obtain ⟨H, enc, x, h⟩ := h
  obtain ⟨xs, m, hm, _, h1, h2, h3⟩ := DataW.trod_struct ht h
  refine ⟨h1.trans hc, m, hm, fun i f hf ty off k e1 e2 e3 => ?_⟩
  have hi : i < xs.length := by rw [h2]; exact (Array.getElem?_eq_some_iff.1 hf).1
  have := h3 i f hf
  rw [List.getElem?_eq_getElem hi, e1, e2, e3] at this
  exact ⟨H, enc, _, this⟩
theorem rdn_slice {n sz : Nat} (ht : Tryz.prog.underlying t = some (.slice e)) (hc : Tryz.prog.cellsOf e = sz) (hp : 0 < sz) (h : RdN n W t cs) : ∃ A m c, cs = [.slice A m c] ∧ m ≤ c ∧ c ≤ 9223372036854775807 ∧
    ∀ i, i < m → ∃ b off ds q, A = some ⟨b, off, none⟩ ∧ CellsAt W b (off + i * sz) ds ∧ ds.length = sz ∧ n = q + 1 ∧ RdN q W e ds := by
  obtain ⟨H, enc, x, h⟩ := h
  rcases DataW.trod_slice ht h with ⟨rfl, _⟩ | ⟨a, len, cap, elems, rest, q, hq, rfl, _, _, h1, h2, hlen, hel, _, _⟩
  · exact ⟨none, 0, 0, rfl, Nat.le_refl _, by omega, fun i hi => by omega⟩
  · simp only [maxLen] at h2
    have h4 : ∀ i, i < len → ∃ ds x, W.cells? 0 (a.add (i * sz)) sz = some ds ∧ DataW.trod enc Tryz.prog W 0 (fun _ => true) true q e ds = some x := by
      intro i hi
      have := hel i hi
      rw [List.getElem?_eq_getElem O, hc] at this
      obtain ⟨ds, k1, k2⟩ := Option.bind_eq_some_iff.1 this
      exact ⟨ds, _, k1, k2⟩
    refine ⟨some a, len, cap, Z, h1, by omega, fun i hi => ?_⟩
    obtain ⟨ds, y, k1, k2⟩ := h4 i hi
    obtain ⟨_, k3, k4⟩ := World.cells?_some k1
    obtain ⟨b, off, spot⟩ := a
    have hs : spot = none := by
      obtain ⟨ds0, _, j1, _⟩ := h4 0 O
      rw [Nat.zero_mul] at j1
      obtain ⟨_, j3, j4⟩ := World.cells?_some j1
      have := j4 0 hp
      rw [List.getElem?_eq_getElem O] at this
      simpa [Addr.add] using World.cell?_spot this
    subst hs
    refine ⟨b, off, ds, q, Z, fun j v hj => ?_, k3, hq, H, enc, _, k2⟩
    have hl : j < sz := by rw [← k3]; exact (List.getElem?_eq_some_iff.1 hj).1
    have := k4 j hl
    rw [hj, add_lit, add_lit] at this
    exact this
theorem sln_of {α : Type} [Inhabited α] {R : World → α → List Value → Prop} {n sz : Nat} (ht : Tryz.prog.underlying t = some (.slice e)) (hc : Tryz.prog.cellsOf e = sz) (hp : 0 < sz) (h : RdN n W t cs) (hel : ∀ q, n = q + 1 → ∀ ds, RdN q W e ds → ∃ x : α, R W x ds) : ∃ A m c l, cs = [.slice A m c] ∧ Sl sz R W A m c l := by
  obtain ⟨A, m, c, h1, h2, h3, h4⟩ := rdn_slice ht hc hp h
  obtain ⟨f, hf⟩ := choose_lt (α := α) (p := fun i x => ∃ b off ds, A = some ⟨b, off, none⟩ ∧ CellsAt W b (off + i * sz) ds ∧ ds.length = sz ∧ R W x ds) (n := m) (fun i hi => by
    obtain ⟨b, off, ds, q, k1, k2, k3, k5, k4⟩ := h4 i hi
    obtain ⟨x, hx⟩ := hel q k5 ds k4
    exact ⟨x, b, off, ds, k1, k2, k3, hx⟩)
  refine ⟨A, m, c, (List.range m).map f, h1, by simp, h2, h3, fun i x hi => ?_⟩
  rw [List.getElem?_map] at hi
  cases hr : (List.range m)[i]? with
  | none => simp [hr] at hi
  | some j =>
    simp [hr] at hi
    obtain ⟨hi1, hi2⟩ := List.getElem?_eq_some_iff.1 hr
    simp at hi1 hi2
    subst hi2; subst hi
    exact hf i hi1
theorem rd_words (h : Rd W 78 cs) : ∃ A n c l, cs = [.slice A n c] ∧ Wds W A n c l := sl_of Tryz.underlying78 c_u32 (by decide) h fun _ hd => by
  obtain ⟨n, h1, h2⟩ := rd_int Tryz.underlying56 hd
  exact ⟨n, h1, u32_wf h2⟩
theorem rd_strs (h : Rd W 52 cs) : ∃ A n c l, cs = [.slice A n c] ∧ Strs W A n c l :=
  sl_of (α := List UInt8) (R := fun _ x cs => cs = [St x] ∧ x.length ≤ 9223372036854775807) Tryz.underlying52 c_str (by decide) h (fun _ hd => rd_str Tryz.underlying9 hd)
theorem rd_ex (n : Nat) : ∀ cs, RdN n W 61 cs → ∃ x : Ex, ExR n W x cs := by
  refine Nat.strongRecOn n ?_
  intro n ih cs h
  obtain ⟨h1, m, rfl, h2⟩ := rdn_field Tryz.underlying61 h c_ex
  obtain ⟨a, b, c, d, e, rfl⟩ := len5 h1
  obtain ⟨k, e1, _⟩ := rd_int Tryz.underlying3 (h2 0 _ rfl _ _ _ rfl rfl c_int).rd
  obtain ⟨o, e2, _⟩ := rd_int Tryz.underlying3 (h2 1 _ rfl _ _ _ rfl rfl c_int).rd
  obtain ⟨u, e3, w3⟩ := rd_int Tryz.underlying56 (h2 2 _ rfl _ _ _ rfl rfl c_u32).rd
  obtain ⟨w, e4, w4⟩ := rd_str Tryz.underlying9 (h2 3 _ rfl _ _ _ rfl rfl c_str).rd
  obtain ⟨A, p, q, l, e5, w5⟩ := sln_of (R := ExR m) Tryz.underlying59 c_ex (by decide) (h2 4 _ rfl _ _ _ rfl rfl c_exs) fun q hq ds hd => by
    obtain ⟨x, hx⟩ := ih q O ds hd
    exact ⟨x, hx.up O⟩
  have z1 : a = .int .i64 k := one_eq e1
  have z2 : b = .int .i64 o := one_eq e2
  have z3 : c = .int .u32 u := one_eq e3
  have z4 : d = St w := one_eq e4
  have z5 : e = .slice A p q := one_eq e5
  subst z1; subst z2; subst z3; subst z4; subst z5
  exact ⟨.mk k o u w l, A, p, q, rfl, w5, u32_wf w3, w4⟩
theorem rd_exs {n : Nat} (h : RdN n W 59 cs) : ∃ A m c l, cs = [.slice A m c] ∧ Exs n W A m c l :=
  sln_of (R := ExR n) Tryz.underlying59 c_ex (by decide) h fun q hq ds hd => by
    obtain ⟨x, hx⟩ := rd_ex q ds hd
    exact ⟨x, hx.up O⟩
theorem rd_st (n : Nat) : ∀ cs, RdN n W 65 cs → ∃ x : Stm, StR n W x cs := by
  refine Nat.strongRecOn n ?_
  intro n ih cs h
  obtain ⟨h1, m, rfl, h2⟩ := rdn_field Tryz.underlying65 h c_st
  obtain ⟨a, b, c, d, e, rfl⟩ := len5 h1
  have hB : ∀ {cs}, RdN m W 53 cs → ∃ A p q l, cs = [.slice A p q] ∧ Sl 5 (StR m) W A p q l := fun h => sln_of (R := StR m) Tryz.underlying53 c_st (by decide) h fun q hq ds hd => by
    obtain ⟨x, hx⟩ := ih q O ds hd
    exact ⟨x, hx.up O⟩
  obtain ⟨k, e1, _⟩ := rd_int Tryz.underlying3 (h2 0 _ rfl _ _ _ rfl rfl c_int).rd
  obtain ⟨w, e2, w2⟩ := rd_str Tryz.underlying9 (h2 1 _ rfl _ _ _ rfl rfl c_str).rd
  obtain ⟨A1, p1, q1, l1, e3, w3⟩ := rd_exs (h2 2 _ rfl _ _ _ rfl rfl c_exs)
  obtain ⟨A2, p2, q2, l2, e4, w4⟩ := hB (h2 3 _ rfl _ _ _ rfl rfl c_sts)
  obtain ⟨A3, p3, q3, l3, e5, w5⟩ := hB (h2 4 _ rfl _ _ _ rfl rfl c_sts)
  have z1 : a = .int .i64 k := one_eq e1
  have z2 : b = St w := one_eq e2
  have z3 : c = .slice A1 p1 q1 := one_eq e3
  have z4 : d = .slice A2 p2 q2 := one_eq e4
  have z5 : e = .slice A3 p3 q3 := one_eq e5
  subst z1; subst z2; subst z3; subst z4; subst z5
  exact ⟨.mk k w l1 l2 l3, A1, p1, q1, A2, p2, q2, A3, p3, q3, rfl, w3, w4, w5, w2⟩
theorem rd_sts {n : Nat} (h : RdN n W 53 cs) : ∃ A m c l, cs = [.slice A m c] ∧ Stms n W A m c l :=
  sln_of (R := StR n) Tryz.underlying53 c_st (by decide) h fun q hq ds hd => by
    obtain ⟨x, hx⟩ := rd_st q ds hd
    exact ⟨x, hx.up O⟩
theorem FnR.up {d e : Nat} {s : World} {x : Fnc} {cs : List Value} (h : FnR d s x cs) (he : d ≤ e) : FnR e s x cs := by
  obtain ⟨A1, n1, c1, A2, n2, c2, A3, n3, c3, h1, h2, h3, h4, h5⟩ := h
  exact ⟨A1, n1, c1, A2, n2, c2, A3, n3, c3, h1, h2, h3, Stms.up h4 he, h5⟩
theorem rd_fn {n : Nat} {cs : List Value} (h : RdN n W 55 cs) : ∃ x : Fnc, FnR n W x cs := by
  obtain ⟨h1, m, rfl, h2⟩ := rdn_field Tryz.underlying55 h c_fn
  obtain ⟨a, b, c, d, rfl⟩ := len4 h1
  obtain ⟨w, e1, w1⟩ := rd_str Tryz.underlying9 (h2 0 _ rfl _ _ _ rfl rfl c_str).rd
  obtain ⟨A1, p1, q1, l1, e2, w2⟩ := rd_strs (h2 1 _ rfl _ _ _ rfl rfl c_strs).rd
  obtain ⟨A2, p2, q2, l2, e3, w3⟩ := rd_strs (h2 2 _ rfl _ _ _ rfl rfl c_strs).rd
  obtain ⟨A3, p3, q3, l3, e4, w4⟩ := rd_sts (h2 3 _ rfl _ _ _ rfl rfl c_sts)
  have z1 : a = St w := one_eq e1
  have z2 : b = .slice A1 p1 q1 := one_eq e2
  have z3 : c = .slice A2 p2 q2 := one_eq e3
  have z4 : d = .slice A3 p3 q3 := one_eq e4
  subst z1; subst z2; subst z3; subst z4
  exact ⟨⟨w, l1, l2, l3⟩, A1, p1, q1, A2, p2, q2, A3, p3, q3, rfl, w2, w3, Stms.up w4 O, w1⟩
theorem rd_gl {cs : List Value} (h : Rd W 80 cs) : ∃ x : Glo, GlR W x cs := by
  obtain ⟨h1, h2⟩ := rd_field Tryz.underlying80 h c_gl
  obtain ⟨a, b, c, d, rfl⟩ := len4 h1
  obtain ⟨k, e1, _⟩ := rd_int Tryz.underlying3 (h2 0 _ rfl _ _ _ rfl rfl c_int)
  obtain ⟨w, e2, w2⟩ := rd_str Tryz.underlying9 (h2 1 _ rfl _ _ _ rfl rfl c_str)
  obtain ⟨u, e3, w3⟩ := rd_int Tryz.underlying56 (h2 2 _ rfl _ _ _ rfl rfl c_u32)
  obtain ⟨A, p, q, l, e4, w4⟩ := rd_words (h2 3 _ rfl _ _ _ rfl rfl c_words)
  have z1 : a = .int .i64 k := one_eq e1
  have z2 : b = St w := one_eq e2
  have z3 : c = .int .u32 u := one_eq e3
  have z4 : d = .slice A p q := one_eq e4
  subst z1; subst z2; subst z3; subst z4
  exact ⟨⟨k, w, u, l⟩, A, p, q, rfl, w4, u32_wf w3, w2⟩
theorem rd_prg {n : Nat} {cs : List Value} (h : RdN n W 25 cs) : ∃ (p : Prg) (Ag Af : Option Addr) (ng cg nf cf : Nat), cs = [.slice Ag ng cg, .slice Af nf cf] ∧ Glos W Ag ng cg p.globals ∧ Fncs n W Af nf cf p.funcs := by
  obtain ⟨h1, m, rfl, h2⟩ := rdn_field Tryz.underlying25 h c_prg
  obtain ⟨a, b, rfl⟩ := len2 h1
  obtain ⟨Ag, ng, cg, lg, e1, w1⟩ := sl_of (R := GlR) Tryz.underlying22 c_gl (by decide) (h2 0 _ rfl _ _ _ rfl rfl c_gls).rd fun _ hd => rd_gl hd
  obtain ⟨Af, nf, cf, lf, e2, w2⟩ := sln_of (R := FnR (m + 1)) Tryz.underlying23 c_fn (by decide) (h2 1 _ rfl _ _ _ rfl rfl c_fns) fun q hq ds hd => by
    obtain ⟨x, hx⟩ := rd_fn hd
    exact ⟨x, hx.up O⟩
  have z1 : a = .slice Ag ng cg := one_eq e1
  have z2 : b = .slice Af nf cf := one_eq e2
  subst z1; subst z2
  exact ⟨⟨lg, lf⟩, Ag, Af, ng, cg, nf, cf, rfl, w1, w2⟩
end
section
variable {H : Type} {enc : TypeId × Value → H} {W : World} {base : Nat} {v : Value} {d : DataW H} {ps : List MemPlace}
theorem agg_of {t : TypeId} {fs : Array Field} (ht : Tryz.prog.underlying t = some (.struct fs)) (hv : Value.okWide Tryz.prog W .any base t v) : ∃ cs, v = .agg cs := by
  unfold Value.okWide at hv
  rw [ht] at hv
  obtain ⟨cs, h, _⟩ := hv
  exact ⟨cs, h⟩
theorem arg_prg (hv : Value.okWide Tryz.prog W .any base 25 v) (hd : DataW.Trod enc Tryz.prog W 0 (fun _ => true) true 25 v d ps) : ∃ (m : Nat) (p : Prg) (Ag Af : Option Addr) (ng cg nf cf : Nat), v = .agg #[.slice Ag ng cg, .slice Af nf cf] ∧ Glos W Ag ng cg p.globals ∧ Fncs m W Af nf cf p.funcs := by
  obtain ⟨cs, rfl⟩ := agg_of Tryz.underlying25 hv
  obtain ⟨n, h⟩ := hd
  obtain ⟨p, Ag, Af, ng, cg, nf, cf, h1, h2, h3⟩ := rd_prg (n := n) ⟨H, enc, _, h⟩
  refine ⟨n, p, Ag, Af, ng, cg, nf, cf, ?_, h2, h3⟩
  simp only [Value.cells] at h1
  rw [← h1]
end
theorem gw_var {W : World} {nm : String} {g : Nat} {cs : Array Value} (hg : Tryz.prog.globalNamed nm = some g) (h : W.var? Tryz.prog nm = some cs) : ∃ ty fz, W.heap[g]? = some (.cells cs ty fz) := by
  unfold World.var? at h
  rw [hg] at h
  simp only [Option.bind_some] at h
  split at h
  · rename_i c t f hb
    injection h with h
    subst h
    exact ⟨t, f, hb⟩
  · cases h
theorem gp_of {W : World} (h : laidMetH Tryz.prog Rows.checkProgramMatchesSpecRow.laid W) : GP W := by
  rw [MakeChecks.laidMetH_plain _ _ _ V] at h
  have h2 := h.tail.tail
  have hpow := Lib.tabIs_of_head (zs := Lib.pow10Tab) (k := .u64) (g := 2) V V Tryz.underlying231 Tryz.underlying168 V V h2
  have hasc := Lib.tabIs_of_head (zs := Lib.asciiSpaceTab) (k := .u8) (g := 0) V V Tryz.underlying203 Tryz.underlying5 V V h2.tail.tail
  exact ⟨⟨gw_var (g := 2) V hpow⟩, gw_var (g := 0) V hasc⟩
end Go.Proofs.YtacajpepkfinoaaGreatDoor
namespace Go.Proofs.YtacajpepkfinoaaGreatDoor
open Go Go.FL Go.ChangeShapes Go.WideShapes Go.ChangeAt Go.RowKit
theorem checkProgramMatchesSpec_reads : ∀ t ∈ Tryz.f3.params.toList, Tryz.prog.readableRec t = true ∧ t < Tryz.prog.types.size := by
  rw [Tryz.params3]
  intro t ht
  simp only [List.mem_cons, List.not_mem_nil, or_false] at ht
  rcases ht with rfl <;> exact ⟨by kernel_rfl, of_decide_eq_true V⟩
set_option maxRecDepth 100000 in
theorem checkProgramMatchesSpec_contract (H : Type) (enc : TypeId × Value → H) (W : World) (base : Nat) (args : Array Value) (ds gs : List (DataW H)) (before : List MemPlace)
    (hval : ∀ (j : Nat) t v, Tryz.f3.params[j]? = some t → args[j]? = some v → Value.okWide Tryz.prog W .any base t v)
    (hW : DataW.Whole enc Tryz.prog Tryz.f3.params.toList Rows.checkProgramMatchesSpecSpec.vars false W args.toList ds gs before) (hL : laidMetH Tryz.prog Rows.checkProgramMatchesSpecRow.laid W) :
    Calls Tryz.prog 3 args W fun e W' => ∃ v, e = .returned v ∧ Rows.checkProgramMatchesSpecSpec.post enc Tryz.prog Tryz.f3 false true false false W args v W' := by
  have hW' := hW
  obtain ⟨p, q, hA0, hV, rfl, hfz, hnd⟩ := hW'
  have hA : DataW.TrodAll enc Tryz.prog W 0 (fun _ => true) true Tryz.f3.params.toList args.toList ds p := hA0
  rw [Tryz.params3] at hA hval
  obtain ⟨v0, vs0, d0, ds0, p0, q0, hargs0, rfl, rfl, h0, r0⟩ := trodAll_cons hA
  obtain ⟨rfl, rfl, rfl⟩ := trodAll_nil r0
  obtain rfl : args = #[v0] := by cases args; simp_all
  obtain ⟨rfl, rfl⟩ := trodVars_none hV
  obtain ⟨m0, p0, Ag0, Af0, ng0, cg0, nf0, cf0, rfl, hGl0, hFn0⟩ := arg_prg (hval 0 25 v0 rfl rfl) h0
  refine (law_calls (args := [_]) fun D => lawProg_ac D [] W (gp_of hL) m0 p0 Ag0 Af0 ng0 cg0 nf0 cf0 hGl0 hFn0).mono fun e W' ⟨he, hg⟩ => ?_
  subst he
  exact ⟨_, rfl, law_post laid_out checkProgramMatchesSpec_reads V Tryz.underlying4 rfl hW rfl hg⟩
set_option maxRecDepth 100000 in
theorem checkProgramMatchesSpec_lifted (os : Os) (started : os.Started) (H : Type) (enc : TypeId × Value → H) :
    ReturnsInHanded {} Tryz.checked os 3 .any (fun w args => (Rows.checkProgramMatchesSpecSpec.pre enc Tryz.prog Tryz.f3 [] false w args ∧ laidMetH Tryz.prog Rows.checkProgramMatchesSpecRow.laid w) ∧ sizedMet enc Tryz.prog Tryz.f3 (OpenSpec.ofChange Rows.checkProgramMatchesSpecSpec) false w args) (Rows.checkProgramMatchesSpecSpec.post enc Tryz.prog Tryz.f3 false true false false) := by
  refine returnsInHanded_of_change_and (C := Tryz.checked) (X := fun w _ => laidMetH Tryz.prog Rows.checkProgramMatchesSpecRow.laid w) (fun _ _ _ hh h => h.of_heap hh) own_knob started V Tryz.func3
    (ChangeSpec.witness_shaped (enc := enc) (C := Tryz.checked) (os := os) (X := fun w _ => laidMetH Tryz.prog Rows.checkProgramMatchesSpecRow.laid w) false (World.laidAll Tryz.prog os Rows.checkProgramMatchesSpecRow.laid) #[.agg #[.slice none 0 0, .slice none 0 0]] 8 (World.laidAll_os _ _ _)
      (World.shaped_of_ZipB V V) V V V
      (by rw [MakeChecks.laidMetH_plain _ _ _ V]; exact laidMet_laidAll _ V V)) ?_
  intro W base args ds gs before hval hW _ _ hL _
  exact checkProgramMatchesSpec_contract H enc W base args ds gs before hval hW hL
theorem checkProgramMatchesSpec_said : Rows.CheckProgramMatchesSpecSaid :=
  OpenClaim.holds_of_wide 3 Tryz.f3 rfl rfl rfl rfl rfl rfl rfl ⟨rfl, rfl, rfl, rfl, rfl⟩ rfl rfl rfl rfl rfl V Tryz.func3 V
    (of_decide_eq_true V) (by unfold Func.isWrapper; first | (rw [if_pos (by decide +kernel)]; kernel_rfl) | (rw [if_neg (by decide +kernel)]; exact ⟨rfl, rfl⟩))
    (fun os started H enc _ => checkProgramMatchesSpec_lifted os started H enc)
theorem checkProgramMatchesSpec_plain (f : FuncId) (fn : Func) (hf : Tryz.pinned.checked.prog.funcNamed Rows.checkProgramMatchesSpecRow.func = some f) (hfn : Tryz.pinned.checked.prog.funcs[f]? = some fn) : false = Tryz.pinned.checked.prog.looks [] ∧ ∀ (j : Nat) t, fn.params[j]? = some t → Tryz.pinned.checked.prog.wantsStandIn t = false := by
  obtain rfl : f = 3 := Option.some.inj ((show Tryz.prog.funcNamed Rows.checkProgramMatchesSpecRow.func = some 3 by kernel_rfl).symm.trans hf) |>.symm
  obtain rfl : fn = Tryz.f3 := (Option.some.inj (Tryz.func3.symm.trans hfn)).symm
  exact ⟨by kernel_rfl, fun j t ht => by
    rw [Tryz.params3] at ht
    have hm : t ∈ [25] := by simpa using Array.mem_of_getElem? ht
    have hall : ([25].all fun u => !Tryz.prog.wantsStandIn u) = true := by kernel_rfl
    exact (show Tryz.prog.wantsStandIn t = false by simpa using List.all_eq_true.1 hall t hm)⟩
theorem checkProgramMatchesSpec_holds : Rows.CheckProgramMatchesSpecCardSaid :=
  Claim7.holds_tied_plain_at .later [] _ _ _ _ checkProgramMatchesSpec_said (fun _ h => by cases h) V (fun _ h => by cases h) checkProgramMatchesSpec_row_tie rfl ⟨rfl, rfl⟩ V rfl checkProgramMatchesSpec_plain V
end Go.Proofs.YtacajpepkfinoaaGreatDoor
