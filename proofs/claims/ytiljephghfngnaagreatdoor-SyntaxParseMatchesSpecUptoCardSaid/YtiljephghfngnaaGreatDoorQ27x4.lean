/- Part 4 of the proof of syntaxParseMatchesSpec_holds: texts C7, C8, Sp, Sq, Ss, S1, Db, S2, Pn, S3, S4, S5, S6, Ot, S7, S8. -/
import Derived.Test.YtiljephghfngnaaGreatDoorQ27x3
import Derived.WalkSmall
set_option linter.unusedVariables false
set_option linter.unusedSimpArgs false
set_option linter.unnecessarySimpa false
set_option maxRecDepth 100000
set_option maxHeartbeats 8000000
namespace Go.Proofs.YtiljephghfngnaaGreatDoor
open Go.FL
attribute [local irreducible] JC JO JA JB thenQ blockQ retQ AC fill CellsAt QE Ev Mid
theorem fault_ac (D : Nat) (L : Hl) (s : World) (c i : Int) : AC Tryz.prog D 25 [.int .i64 c, .int .i64 i] L s fun v L' _ => v = .agg #[.int .i64 c, .int .i64 i] ∧ L = L' := by
 refine AC_enter (TT := TT) (fn := Tryz.f25) TT_ok Tryz.func25 V Z Tryz.ntmps25 Z (rs := [.cell 4 27]) Z [(0, _), (1, _)] Z <| Sr <| JO_allocZ Z [_, _] Z Z ?_
 intro β1 s1 h1
 refine Nt <| Sr <| Zqm Z Z <| Zqm Z Z <| JO_q (QE_build [(_, _), (_, _)] [_, _] Z Z Z Z Z Z) Z <| Wt 0 [_, _] Y9 <| Nt <| Zo <| ?_
 refine retQ_mk [_] L (.inr Z) (.agg (us := [_, _]) 0 Z Z Z Z Z (.nil)) Z h1 (fun sR hS2 => ?_)
 exact ⟨rfl, rfl⟩
theorem bstrWX_ac (D : Nat) (X L : Hl) (s : World) (bb : Nat) (M : Hl) (l : List UInt8) (hW : Wr bb M l) : AC Tryz.prog D 48 [.pointer (some ⟨bb, 0, none⟩)] (X ++ (M ++ L)) s fun u L' _ => u = St l ∧ L' = X ++ L :=
  AC.perm (List.perm_append_comm_assoc ..) (bstrW_ac D (X ++ L) s bb M l hW) fun u L1 s1 ⟨g0, g1⟩ => ⟨_, List.Perm.refl _, g0, g1.symm⟩
theorem cfunc_swap (D : Nat) (y : Nat × Obj) (L : Hl) (s : World) (hG : GP s) (bc c d : Nat) (x : Fnc) (A1 A2 A3 : Option Addr) (n1 q1 n2 q2 n3 q3 : Nat) (hs1 : Strs s A1 n1 q1 x.params) (hs2 : Strs s A2 n2 q2 x.locals) (hs3 : Stms d s A3 n3 q3 x.body) (hc : c ≤ 2000) : AC Tryz.prog D 27 [.pointer (some ⟨bc, 0, none⟩), .agg #[St x.name, .slice A1 n1 q1, .slice A2 n2 q2, .slice A3 n3 q3]] (y :: (bc, cb [.int .i64 (c : Int)] 60) :: L) s fun v L' _ => v = .int .i64 (fnC x c).2 ∧ L' = y :: (bc, cb [.int .i64 ((fnC x c).1 : Int)] 60) :: L :=
  AC.perm (List.Perm.swap ..) (cfunc_ac D (y :: L) s hG bc c d x A1 A2 A3 n1 q1 n2 q2 n3 q3 hs1 hs2 hs3 hc) fun v L1 s1 ⟨g0, h1⟩ => ⟨_, by rw [h1]; exact List.Perm.swap .., g0, rfl⟩
theorem text_ac (D : Nat) (L : Hl) (s : World) (hG : GP s) (d : Nat) (p : Prg) (Ag Af : Option Addr) (ng cg nf cf : Nat) (hGl : Glos s Ag ng cg p.globals) (hFn : Fncs d s Af nf cf p.funcs) (hV : PV p) : AC Tryz.prog D 21 [.agg #[.slice Ag ng cg, .slice Af nf cf]] L s fun v L' _ => v = St (prgT p) ∧ L = L' := by
 have hn1 := hGl.1
 have hn2 := hFn.1
 have hU := hGl.u
 have hUf := hFn.u
 obtain ⟨hV1, hV2, hVg, hVf, hVl⟩ := hV
 have hpl : ((p.globals.map gloT).flatten).length + ((p.funcs.map fncT).flatten).length ≤ 1000000 := by rw [prgT, List.length_append] at hVl; exact hVl
 refine AC_enter (TT := TT) (fn := Tryz.f21) TT_ok Tryz.func21 V Z Tryz.ntmps21 Z (rs := [.tmp 2]) Z [(0, _)] Z <| Sr <| JO_boxA Z Z ?_
 intro β1 s1 h1
 refine At Z Z <| Sr <| JO_q (QE_build [] [_, _] Z Z Z Z Z Z) Z <| JO_boxA Z Z ?_
 intro β2 s2 h2
 refine At Z Z <| Zs <| Zs <| JC_front 1 ?_
 
 refine Zr <| W0 Y5 <| Wl 0 Y6 <| Ws Y4 <| Zqm Z Z <| Nt <| Zp <| ?_
 refine JC_loop (γ := Nat × Hl × List UInt8) (fun g => [(1, _), (2, _), (3, _), (11, _), (12, _), (13, .int .i64 (g.1 : Int))]) (fun g => (β1, cb [.slice Ag ng cg, .slice Af nf cf] 25) :: (g.2.1 ++ L)) (fun g tw => Le D s2 tw ∧ (g.1 ≤ ng ∧ Wr β2 g.2.1 g.2.2 ∧ g.2.2 ++ ((p.globals.drop g.1).map gloT).flatten = (p.globals.map gloT).flatten)) (fun g => ng - g.1) (fun _ _ _ h hl => ⟨h.1.trans hl, h.2⟩) (0, [(β2, cb [.pointer none, .slice none 0 0] 87)], []) (.cons Z (.cons Z (.cons Z (.cons Z (.cons Z (.cons Z (.nil _))))))) Z ⟨Le.refl _, ⟨Nat.zero_le _, Wr.mk (.inl Z) BV.nil, Z⟩⟩ ?_
 intro g s3 I3
 obtain ⟨k, Mo, lo⟩ := g
 obtain ⟨hk0, hWo, hS⟩ := I3.2
 simp only at hk0 hWo hS
 dsimp only
 have hle := congrArg List.length hS
 simp only [List.length_append] at hle
 refine Sr <| Zqlt Z Z Z <| Nt <| Zs <| ?_
 refine JC_ifD Z (fun c4 => ?_) (fun c4 => ?_)
 ·
  have hk : k < ng := by omega
  obtain ⟨b, off, x, Ai, ni, ci, rfl, hx, hcx, hix, hux, hnl⟩ := Glos.at_ (hGl.le (h1.t h2|>.t I3.1)) hk
  have hgx := hVg x (List.mem_of_getElem? hx)
  have hg0 := gloC_zero hgx.1
  have hil := ident_len hg0.2.2.1
  have hdl := decS_len hux
  have hni := hix.1
  have hci := comma_len (x.init.map decS)
  have hct := totW_dec x.init hix.u32
  refine Zk <| Zt <| Zs <| Zp <| Sr <| JO_q (QE_iaN Z Z Z Z Z Z hk) Z <| JO_q (QE_ldsA Z Z Z (hcx.le (Lr D)) Z) Z <| JO_allocZ Z [_, _, _, _] Z Z ?_
  intro β5 s5 h5
  refine Wt 0 [_, _, _, _] Y9 <| Nt <| Zp <| Sr <| W0 Y5 <| Wl 0 Y6 <| Zqeq Z Z Z <| At Z Z <| ?_
  refine JC_ifD Z (fun c6 => ?_) (fun c6 => ?_)
  ·
   have hT := gloT_1 c6
   refine JC_drawT drawsMixed 11 Z 2 ?_
   intro s7 h7
   refine za 0 Z (QE_mv Z) Z <| za 1 Z (We Y4) Z <| za 2 Z (Wd 0 Y5) Z <| za 3 Z (QE_sadd Z Z Uo) Z <| za 4 Z (QE_sadd Z Z Uo) Z <| za 5 Z (We Y4) Z <| za 6 Z (Wd 0 Y5) Z <| JA_1 7 V <| Jb Z trivial Z Z Z (number_ac D _ _ (hG.le (h1.t h2|>.t I3.1|>.t h5|>.t h7)) _ hux) ?_
   rintro _ _ s8 h8 ⟨rfl, rfl⟩
   refine ⟨fun _ _ h => h, ?_⟩
   refine za 8 Z (QE_sadd Z Z Uo) Z <| za 9 Z (QE_sadd Z Z Uo) Z <| JA_1 10 V <| Jb Z trivial Z Z Z (AC.mid [_, _] Mo L (line_ac D _ _ β2 Mo lo hWo 0 O _ (by (try simp only [List.length_append, List.length_cons, List.length_nil, margin]); omega))) ?_
   rintro _ _ s9 h9 ⟨M1, rfl, rfl, hW1⟩
   refine ⟨(fun x hx _ => memK2 hx), ?_⟩
   simp only [cQ9, nQ9]
   have hWx : Wr β2 M1 (lo ++ gloT x) := by rw [hT]; exact hW1
   refine JA_done V <| Zb <| Zb <| Zt <| Zr <| Zqadd Z Z Z (w64 O O) <| Zqm Z Z <| Zn <| ?_
   refine thenQ_n ⟨(k + 1, M1, lo ++ gloT x), [_], kp, Z, ⟨(I3.1.t h5|>.t h7|>.t h8|>.t h9), ⟨by simp only; omega, hWx, by simp only; rw [← hS, tflat_at hx, List.append_assoc]⟩⟩, (by simp only; omega)⟩
  have g1 := c6
  refine Sr <| W0 Y5 <| Wl 0 Y6 <| Zqeq Z Z Z <| At Z Z <| ?_
  refine JC_ifD Z (fun c10 => ?_) (fun c10 => ?_)
  ·
   have hT := gloT_2 c10
   refine Zr <| Zqm Z Z <| Wb Y5 <| Wl 0 Y6 <| JO_q (QE_sadd Z Z Uo) Z <| JO_q (QE_sadd Z Z Uo) Z <| Jc Z Z Z (AC.mid [_, _] Mo L (line_ac D _ _ β2 Mo lo hWo 0 O _ (by (try simp only [List.length_append, List.length_cons, List.length_nil, margin]); omega))) ?_
   rintro _ _ s11 h11 ⟨M1, rfl, rfl, hW1⟩
   simp only [cQ9, nQ9]
   have hWx : Wr β2 M1 (lo ++ gloT x) := by rw [hT]; exact hW1
   refine Zn <| Zb <| Zb <| Zt <| Zr <| Zqadd Z Z Z (w64 O O) <| Zqm Z Z <| Zn <| ?_
   refine thenQ_n ⟨(k + 1, M1, lo ++ gloT x), [_], kp, Z, ⟨(I3.1.t h5|>.t h11), ⟨by simp only; omega, hWx, by simp only; rw [← hS, tflat_at hx, List.append_assoc]⟩⟩, (by simp only; omega)⟩
  have g2 := c10
  refine Sr <| Wb Y5 <| Wl 0 Y6 <| Ws Y4 <| Zqeq Z Z Z <| At Z Z <| ?_
  refine JC_ifD Z (fun c12 => ?_) (fun c12 => ?_)
  ·
   have hT := gloT_3 g1 g2 (List.eq_nil_of_length_eq_zero O)
   refine JC_drawT drawsMixed 11 Z 2 ?_
   intro s13 h13
   refine za 0 Z (QE_mv Z) Z <| za 1 Z (We Y4) Z <| za 2 Z (Wd 0 Y5) Z <| za 3 Z (QE_sadd Z Z Uo) Z <| za 4 Z (QE_sadd Z Z Uo) Z <| za 5 Z (We Y4) Z <| za 6 Z (Wd 0 Y5) Z <| JA_1 7 V <| Jb Z trivial Z Z Z (number_ac D _ _ (hG.le (h1.t h2|>.t I3.1|>.t h5|>.t h13)) _ hux) ?_
   rintro _ _ s14 h14 ⟨rfl, rfl⟩
   refine ⟨fun _ _ h => h, ?_⟩
   refine za 8 Z (QE_sadd Z Z Uo) Z <| za 9 Z (QE_sadd Z Z Uo) Z <| JA_1 10 V <| Jb Z trivial Z Z Z (AC.mid [_, _] Mo L (line_ac D _ _ β2 Mo lo hWo 0 O _ (by (try simp only [List.length_append, List.length_cons, List.length_nil, margin]); omega))) ?_
   rintro _ _ s15 h15 ⟨M1, rfl, rfl, hW1⟩
   refine ⟨(fun x hx _ => memK2 hx), ?_⟩
   simp only [cQ9, nQ9]
   have hWx : Wr β2 M1 (lo ++ gloT x) := by rw [hT]; exact hW1
   refine JA_done V <| Zb <| Zb <| Zt <| Zr <| Zqadd Z Z Z (w64 O O) <| Zqm Z Z <| Zn <| ?_
   refine thenQ_n ⟨(k + 1, M1, lo ++ gloT x), [_], kp, Z, ⟨(I3.1.t h5|>.t h13|>.t h14|>.t h15), ⟨by simp only; omega, hWx, by simp only; rw [← hS, tflat_at hx, List.append_assoc]⟩⟩, (by simp only; omega)⟩
  have hT := gloT_4 g1 g2 (fun h => by rw [h] at hni; simp at hni; omega)
  refine JC_drawT drawsMixed 16 Z 2 ?_
  intro s16 h16
  refine za 0 Z (QE_mv Z) Z <| za 1 Z (We Y4) Z <| za 2 Z (Wd 0 Y5) Z <| za 3 Z (QE_sadd Z Z Uo) Z <| za 4 Z (QE_sadd Z Z Uo) Z <| za 5 Z (We Y4) Z <| za 6 Z (Wd 0 Y5) Z <| za 10 Z (We Y4) Z <| za 11 Z (Wd 0 Y5) Z <| JA_1 7 V <| Jb Z trivial Z Z Z (number_ac D _ _ (hG.le (h1.t h2|>.t I3.1|>.t h5|>.t h16)) _ hux) ?_
  rintro _ _ s17 h17 ⟨rfl, rfl⟩
  refine ⟨fun _ _ h => h, ?_⟩
  refine za 8 Z (QE_sadd Z Z Uo) Z <| za 9 Z (QE_sadd Z Z Uo) Z <| JA_1 12 V <| Jb Z trivial Z Z Z (numbers_ac D _ _ (hG.le (h1.t h2|>.t I3.1|>.t h5|>.t h16|>.t h17)) Ai ni ci x.init (hix.le (h5.t h16|>.t h17)) O) ?_
  rintro _ _ s18 h18 ⟨rfl, rfl⟩
  refine ⟨fun _ _ h => h, ?_⟩
  refine za 13 Z (QE_sadd Z Z Uo) Z <| za 14 Z (QE_sadd Z Z Uo) Z <| JA_1 15 V <| Jb Z trivial Z Z Z (AC.mid [_, _] Mo L (line_ac D _ _ β2 Mo lo hWo 0 O _ (by (try simp only [List.length_append, List.length_cons, List.length_nil, margin]); omega))) ?_
  rintro _ _ s19 h19 ⟨M1, rfl, rfl, hW1⟩
  refine ⟨(fun x hx _ => memK2 hx), ?_⟩
  simp only [cQ9, nQ9]
  have hWx : Wr β2 M1 (lo ++ gloT x) := by rw [hT]; exact hW1
  refine JA_done V <| Zb <| Zb <| Zt <| Zr <| Zqadd Z Z Z (w64 O O) <| Zqm Z Z <| Zn <| ?_
  refine thenQ_n ⟨(k + 1, M1, lo ++ gloT x), [_], kp, Z, ⟨(I3.1.t h5|>.t h16|>.t h17|>.t h18|>.t h19), ⟨by simp only; omega, hWx, by simp only; rw [← hS, tflat_at hx, List.append_assoc]⟩⟩, (by simp only; omega)⟩
 rw [List.drop_eq_nil_of_le O, List.map_nil, List.flatten_nil, List.append_nil] at hS
 refine Zl <| Zv <| Zv <| Zd <| Zt <| Zs <| Sr <| Wb Y5 <| Wl 0 Y6 <| Ws Y4 <| Zqm Z Z <| Nt <| Zp <| ?_
 refine JC_loop (γ := Nat × Hl × List UInt8) (fun g => [(2, _), (3, _), (76, _), (77, _), (78, .int .i64 (g.1 : Int))]) (fun g => (β1, cb [.slice Ag ng cg, .slice Af nf cf] 25) :: (g.2.1 ++ L)) (fun g tw => Le D s3 tw ∧ (g.1 ≤ nf ∧ Wr β2 g.2.1 g.2.2 ∧ g.2.2 ++ ((p.funcs.drop g.1).map fncT).flatten = prgT p)) (fun g => nf - g.1) (fun _ _ _ h hl => ⟨h.1.trans hl, h.2⟩) (0, Mo, lo) (.cons Z (.cons Z (.cons Z (.cons Z (.cons Z (.nil _)))))) Z ⟨Le.refl _, ⟨Nat.zero_le _, hWo, by simp only [List.drop_zero]; rw [hS, prgT]⟩⟩ ?_
 intro g s20 I20
 obtain ⟨k, Mo, lo⟩ := g
 obtain ⟨hk0, hWo, hS⟩ := I20.2
 simp only at hk0 hWo hS
 dsimp only
 have hle := congrArg List.length hS
 simp only [List.length_append] at hle
 refine Sr <| Zqlt Z Z Z <| Nt <| Zs <| ?_
 refine JC_ifD Z (fun c21 => ?_) (fun c21 => ?_)
 ·
  have hk : k < nf := by omega
  obtain ⟨b, off, x, B1, m1, d1, B2, m2, d2, B3, m3, d3, rfl, hx, hcx, hpx, hlx, hbx, hnl⟩ := Fncs.at_ (hFn.le (h1.t h2|>.t I3.1|>.t I20.1)) hk
  obtain ⟨hi1, hi2, hi3, hi4, hi5, hi6⟩ := hVf x (List.mem_of_getElem? hx)
  have hil := ident_len hi1
  have hp1 := comma_len x.params
  have hp2 := totW_ids x.params fun w hw => hi4 w (List.mem_append_left _ hw)
  have hl1 := comma_len x.locals
  have hl2 := totW_ids x.locals fun w hw => hi4 w (List.mem_append_right _ hw)
  have hln := hlx.1
  have hbl := stTs_len x.body 1 hi5 (hUf x (List.mem_of_getElem? hx))
  refine Zk <| Zt <| Zs <| Zp <| Sr <| JO_q (QE_iaN Z Z Z Z Z Z hk) Z <| JO_q (QE_ldsA Z Z Z (hcx.le (Lr D)) Z) Z <| JO_allocZ Z [_, _, _, _] Z Z ?_
  intro β22 s22 h22
  refine Wt 0 [_, _, _, _] Y9 <| Nt <| Zs <| JC_drawT drawsMixed 11 Z 2 ?_
  intro s23 h23
  refine za 0 Z (QE_mv Z) Z <| za 1 Z (QE_fa0 Z Z Z Z) Z <| za 2 Z (Wd 0 Y5) Z <| za 3 Z (QE_sadd Z Z Uo) Z <| za 4 Z (QE_sadd Z Z Uo) Z <| za 5 Z (We Y4) Z <| za 6 Z (Wd 0 Y5) Z <| JA_1 7 V <| Jb Z trivial Z Z Z (joinC_ac D _ _ B1 m1 d1 x.params (hpx.le (h22.t h23)) O) ?_
  rintro _ _ s24 h24 ⟨rfl, rfl⟩
  refine ⟨fun _ _ h => h, ?_⟩
  refine za 8 Z (QE_sadd Z Z Uo) Z <| za 9 Z (QE_sadd Z Z Uo) Z <| JA_1 10 V <| Jb Z trivial Z Z Z (AC.mid [_, _] Mo L (line_ac D _ _ β2 Mo lo hWo 0 O _ (by (try simp only [List.length_append, List.length_cons, List.length_nil, margin]); omega))) ?_
  rintro _ _ s25 h25 ⟨M1, rfl, rfl, hW1⟩
  refine ⟨(fun x hx _ => memK2 hx), ?_⟩
  simp only [cQ9, nQ9]
  refine JA_done V <| Zt <| Zs <| Sr <| Wb Y5 <| Wl 0 Y6 <| Ws Y4 <| Zqgt Z Z Z <| Nt <| ?_
  refine JC_ifD Z (fun c26 => ?_) (fun c26 => ?_)
  ·
   have hlc : x.locals ≠ [] := fun h => by rw [h] at hln; simp at hln; omega
   refine Zr <| Zqm Z Z <| Wb Y5 <| Wl 0 Y6 <| Jc Z Z Z (joinC_ac D _ _ B2 m2 d2 x.locals (hlx.le (h22.t h23|>.t h24|>.t h25)) O) ?_
   rintro _ _ s27 h27 ⟨rfl, rfl⟩
   refine JO_q (QE_sadd Z Z Uo) Z <| JO_q (QE_sadd Z Z Uo) Z <| Jc Z Z Z (AC.mid [_, _] M1 L (line_ac D _ _ β2 M1 _ hW1 1 O _ (by (try simp only [List.length_append, List.length_cons, List.length_nil, margin]); omega))) ?_
   rintro _ _ s28 h28 ⟨M2, rfl, rfl, hW2⟩
   simp only [cQ9, nQ9]
   refine Nt <| Sr <| Zqm Z Z <| Wb Y5 <| Wl 0 Y6 <| Jc Z Z Z (AC.mid [_, _] M2 L ((alls D d).1 _ _ (hG.le (h1.t h2|>.t I3.1|>.t I20.1|>.t h22|>.t h23|>.t h24|>.t h25|>.t h27|>.t h28)) β2 M2 _ hW2 B3 m3 d3 x.body 1 (hbx.le (h22.t h23|>.t h24|>.t h25|>.t h27|>.t h28)) hi5 hi6 O (by simp only [List.length_append, List.length_cons, List.length_nil, margin]; omega))) ?_
   rintro _ _ s29 h29 ⟨M3, rfl, rfl, hW3⟩
   simp only [cQ9, nQ9]
   refine Nt <| Zr <| Zqm Z Z <| Jc Z Z Z (AC.mid [_, _] M3 L (line_ac D _ _ β2 M3 _ hW3 0 O [125] (by (try simp only [List.length_append, List.length_cons, List.length_nil, margin]); omega))) ?_
   rintro _ _ s30 h30 ⟨M4, rfl, rfl, hW4⟩
   simp only [cQ9, nQ9]
   have hWx : Wr β2 M4 (lo ++ fncT x) := by simpa [fncT, hlc, margin, List.append_assoc] using hW4
   refine Zn <| Zb <| Zt <| Zr <| Zqadd Z Z Z (w64 O O) <| Zqm Z Z <| Zn <| ?_
   refine thenQ_n ⟨(k + 1, M4, lo ++ fncT x), [_], kp, Z, ⟨(I20.1.t h22|>.t h23|>.t h24|>.t h25|>.t h27|>.t h28|>.t h29|>.t h30), ⟨by simp only; omega, hWx, by simp only; rw [← hS, tflat_at hx, List.append_assoc]⟩⟩, (by simp only; omega)⟩
  have hlc : x.locals = [] := List.eq_nil_of_length_eq_zero O
  refine Zk <| Zt <| Sr <| Zqm Z Z <| Wb Y5 <| Wl 0 Y6 <| Jc Z Z Z (AC.mid [_, _] M1 L ((alls D d).1 _ _ (hG.le (h1.t h2|>.t I3.1|>.t I20.1|>.t h22|>.t h23|>.t h24|>.t h25)) β2 M1 _ hW1 B3 m3 d3 x.body 1 (hbx.le (h22.t h23|>.t h24|>.t h25)) hi5 hi6 O (by simp only [List.length_append, List.length_cons, List.length_nil, margin]; omega))) ?_
  rintro _ _ s31 h31 ⟨M3, rfl, rfl, hW3⟩
  simp only [cQ9, nQ9]
  refine Nt <| Zr <| Zqm Z Z <| Jc Z Z Z (AC.mid [_, _] M3 L (line_ac D _ _ β2 M3 _ hW3 0 O [125] (by (try simp only [List.length_append, List.length_cons, List.length_nil, margin]); omega))) ?_
  rintro _ _ s32 h32 ⟨M4, rfl, rfl, hW4⟩
  simp only [cQ9, nQ9]
  have hWx : Wr β2 M4 (lo ++ fncT x) := by simpa [fncT, hlc, margin, List.append_assoc] using hW4
  refine Zn <| Zb <| Zt <| Zr <| Zqadd Z Z Z (w64 O O) <| Zqm Z Z <| Zn <| ?_
  refine thenQ_n ⟨(k + 1, M4, lo ++ fncT x), [_], kp, Z, ⟨(I20.1.t h22|>.t h23|>.t h24|>.t h25|>.t h31|>.t h32), ⟨by simp only; omega, hWx, by simp only; rw [← hS, tflat_at hx, List.append_assoc]⟩⟩, (by simp only; omega)⟩
 rw [List.drop_eq_nil_of_le O, List.map_nil, List.flatten_nil, List.append_nil] at hS
 refine Zl <| Zv <| Zv <| Zd <| Zt <| Sr <| Zqm Z Z <| Zqni Z Z <| W0 Y5 <| Jc Z Z Z (bstrWX_ac D [_] L _ β2 Mo lo hWo) ?_
 rintro _ _ s33 h33 ⟨rfl, rfl⟩
 simp only [cQ9, nQ9]
 refine At Z Z <| Zo <| ?_
 refine retQ_mk [_] L (.inr Z) (.tmp Z (.nil)) Z (h1.t h2|>.t I3.1|>.t I20.1|>.t h33) (fun sR hS2 => ?_)
 exact ⟨by rw [← hS]; rfl, rfl⟩
theorem bT {p : Prop} [Decidable p] (h : p) : Value.bool (decide p) = .bool true := by rw [decide_eq_true h]
theorem bF {p : Prop} [Decidable p] (h : p) : Value.bool (!decide p) = .bool false := by rw [decide_eq_true h]; rfl
theorem AC.isT {P : Program} {D : Nat} {f : FuncId} {args : List Value} {L : Hl} {s : World} {p : Prop} [Decidable p] (h : AC P D f args L s fun v L' _ => v = .bool (decide p) ∧ L = L') (hp : p) : AC P D f args L s fun v L' _ => v = .bool true ∧ L = L' :=
  h.mono fun v L' _ _ ⟨h1, h2⟩ => ⟨by rw [h1, decide_eq_true hp], h2⟩
theorem validate_ac (D : Nat) (L : Hl) (s : World) (hG : GP s) (d : Nat) (p : Prg) (Ag Af : Option Addr) (ng cg nf cf : Nat) (hGl : Glos s Ag ng cg p.globals) (hFn : Fncs d s Af nf cf p.funcs) : AC Tryz.prog D 11 [.agg #[.slice Ag ng cg, .slice Af nf cf]] L s fun v L' _ => v = .agg #[.int .i64 (prgF p).1, .int .i64 (prgF p).2] ∧ L = L' := by
 have hn1 := hGl.1
 have hn2 := hFn.1
 have hU : prU p := ⟨hGl.u, hFn.u⟩
 refine AC_enter (TT := TT) (fn := Tryz.f11) TT_ok Tryz.func11 V Z Tryz.ntmps11 Z (rs := [.cell 2 27]) Z [(0, _)] Z <| Sr <| JO_boxA Z Z ?_
 intro β1 s1 h1
 refine JO_allocZ Z [_, _] Z Z ?_
 intro β2 s2 h2
 refine Nt <| Zs <| ?_
 refine JC_cutB 20 (64 < ng ∨ 64 < nf) ?_ ?_
 ·
  refine Zr <| W0 Y5 <| Wl 1 Y6 <| Ws Y4 <| Zqgt Z Z Z <| Zqm Z Z <| ?_
  refine JO_caseD (t := 15) Z (fun c4 => ?_) (fun c4 => ?_)
  ·
   refine Wf Y4 <| Wf Y4 <| Wf Y4 <| Wf Y4 <| ZqT Z Z Z <| Zn <| ?_
   refine thenQ_n (MidB.mk (Lr D) Sb Z ((decide_eq_true O).symm))
  refine Zg Z Z <| Wb Y5 <| Zg Z Z <| Wl 1 Y6 <| Zg Z Z <| Ws Y4 <| Zg Z Z <| Zqgt Z Z Z <| ZqF Z Z Z <| Zn <| ?_
  refine thenQ_n (MidB.mk (Lr D) Sb Z (decide_eq_decide.2 O))
 intro s3 h3
 refine JC_ifD Z (fun c5 => ?_) (fun c5 => ?_)
 ·
  have hE : prgF p = (2, -1) := by rw [pr_sh (by rw [sh_many O]; simp), sh_many O]
  refine Sr <| Jc Z Z Z (fault_ac D _ _ _ _) ?_
  rintro _ _ s6 h6 ⟨rfl, rfl⟩
  refine Wt 0 [_, _] Y9 <| Nt <| Zo <| Zu <| ?_
  refine retQ_mk [_, _] L (.inr Z) (.agg (us := [_, _]) 0 Z Z Z Z Z (.nil)) Z (h1.t h2|>.t h3|>.t h6) (fun sR hS2 => ?_)
  exact ⟨by rw [hE]; rfl, rfl⟩
 have g20 : ¬ (64 < p.globals.length ∨ 64 < p.funcs.length) := by omega
 refine Zk <| Zt <| Sr <| At Z Z <| Zs <| Sr <| W0 Y5 <| Wl 1 Y6 <| Ws Y4 <| Zqm Z Z <| Nt <| Zp <| ?_
 refine JC_loopX [_, _] (γ := Nat × Nat) (fun g => [(1, _), (2, _), (3, .int .i64 (g.2 : Int)), (23, _), (24, _), (25, .int .i64 (g.1 : Int))]) (fun g => L) (fun g tw => Le D s3 tw ∧ (g.1 ≤ ng ∧ glF p.globals 0 = glF (p.globals.drop g.1) g.1 ∧ g.2 = ((p.globals.take g.1).map fun g => g.init.length).sum ∧ g.2 ≤ g.1 * 40000)) (fun g => ng - g.1) (fun _ _ _ h hl => ⟨h.1.trans hl, h.2⟩) (0, 0) (.cons Z (.cons Z (.cons Z (.cons Z (.cons Z (.cons Z (.nil _))))))) Z ⟨Le.refl _, ⟨Nat.zero_le _, Z, Z, Nat.zero_le _⟩⟩ ?_
 intro g s7 I7
 simp only [cQ9, nQ9]
 obtain ⟨k, z⟩ := g
 obtain ⟨hk0, hS, hz, hz4⟩ := I7.2
 simp only at hk0 hS hz hz4
 dsimp only
 refine Sr <| Zqlt Z Z Z <| Nt <| Zs <| ?_
 refine JC_ifD Z (fun c8 => ?_) (fun c8 => ?_)
 ·
  have hk : k < ng := by omega
  obtain ⟨b, off, x, Ai, ni, ci, rfl, hx, hcx, hix, hux, hnl⟩ := Glos.at_ (hGl.le (h1.t h2|>.t h3|>.t I7.1)) hk
  have hni := hix.1
  refine Zk <| Zt <| Zs <| Zp <| Sr <| Zqm Z Z <| JO_q (QE_iaN Z Z Z Z Z Z hk) Z <| JO_q (QE_ldsA Z Z Z (hcx.le (Lr D)) Z) Z <| JO_allocZ Z [_, _, _, _] Z Z ?_
  intro β9 s9 h9
  refine Zqa Z Z <| Wt 0 [_, _, _, _] Y9 <| Nt <| Zs <| Sr <| JO_q (QE_ldA 0 [_, _, _, _] Z Z Z Z Z) Z <| Jc Z Z Z (chkGlo_ac D _ _ (hG.le (h1.t h2|>.t h3|>.t I7.1|>.t h9)) x Ai ni ci (hix.le h9) hux) ?_
  rintro _ _ s10 h10 ⟨rfl, rfl⟩
  refine At Z Z <| Sr <| Zqm Z Z <| Zqne Z Z Z <| Nt <| ?_
  refine JC_ifN Z (fun c11 => ?_) (fun c11 => ?_)
  ·
   have hE : prgF p = (gloC x, (k : Int)) := by
     have h9 : glF p.globals 0 = (gloC x, (k : Int)) := by rw [hS, glF_at hx, if_pos c11]
     have h8 : shapeF p = (gloC x, (k : Int)) := by rw [sh_glo g20 (by rw [h9]; exact c11), h9]
     rw [pr_sh (by rw [h8]; exact c11), h8]
   refine Sr <| Zqm Z Z <| Zqm Z Z <| Jc Z Z Z (fault_ac D _ _ _ _) ?_
   rintro _ _ s12 h12 ⟨rfl, rfl⟩
   refine Wt 1 [_, _] Y9 <| Nt <| Zo <| Zu <| Zc <| Zu <| Zu <| Zc <| Zu <| ?_
   refine retQ_mk [_, _, _] L (.inr Z) (.agg (us := [_, _]) 1 Z Z Z Z Z (.nil)) Z (h1.t h2|>.t h3|>.t I7.1|>.t h9|>.t h10|>.t h12) (fun sR hS2 => ?_)
   exact ⟨by rw [hE]; rfl, rfl⟩
  have g33 : ¬ gloC x ≠ 0 := fun h => h c11
  have hg4 := (gloC_zero (show gloC x = 0 by simpa using g33)).2.2.2.2.2
  refine Zk <| Zt <| Zr <| Zqm Z Z <| Wb Y5 <| Wl 0 Y6 <| Ws Y4 <| JO_q (QE_add' Z Z (show IntKind.i64.wrap ((z : Int) + (ni : Int)) = ((z + ni : Nat) : Int) by rw [w64 O O]; simp)) Z <| Zqa Z Z <| Zn <| Zb <| Zt <| Zr <| Zqadd Z Z Z (w64 O O) <| Zqm Z Z <| Zn <| ?_
  refine thenQ_n ⟨(k + 1, z + ni), [_], kp, Z, ⟨(I7.1.t h9|>.t h10), ⟨by simp only; omega, by simp only; rw [hS, glF_at hx, if_neg g33], by simp only; rw [tsum_at hx, ← hz, hni], by simp only; omega⟩⟩, (by simp only; omega)⟩
 rw [List.drop_eq_nil_of_le O] at hS
 rw [List.take_of_length_le O] at hz
 refine Zl <| Zv <| Zv <| Zd <| Zt <| Zs <| Sr <| Zqm Z Z <| Zqgt Z Z Z <| Nt <| ?_
 refine JC_ifD Z (fun c13 => ?_) (fun c13 => ?_)
 ·
  have hE : prgF p = (2, -1) := by rw [pr_sh (by rw [sh_cells g20 hS O]; simp), sh_cells g20 hS O]
  refine Sr <| Jc Z Z Z (fault_ac D _ _ _ _) ?_
  rintro _ _ s14 h14 ⟨rfl, rfl⟩
  refine Wt 0 [_, _] Y9 <| Nt <| Zo <| Zu <| ?_
  refine retQ_mk [_, _] L (.inr Z) (.agg (us := [_, _]) 0 Z Z Z Z Z (.nil)) Z (h1.t h2|>.t h3|>.t I7.1|>.t h14) (fun sR hS2 => ?_)
  exact ⟨by rw [hE]; rfl, rfl⟩
 have g44 := sh_fn g20 hS O
 refine Zk <| Zt <| Sr <| JO_q (QE_build [] [_] Z Z Z Z Z Z) Z <| JO_boxA Z Z ?_
 intro β15 s15 h15
 refine At Z Z <| Zs <| Sr <| Wb Y5 <| Wl 2 Y6 <| Ws Y4 <| Zqm Z Z <| Nt <| Zp ?_
 refine JC_loop (γ := Nat × Nat) (fun g => [(1, _), (2, _), (7, _), (49, _), (50, _), (51, .int .i64 (g.1 : Int))]) (fun g => (β15, cb [.int .i64 (g.2 : Int)] 60) :: _ :: _ :: L) (fun g tw => Le D s15 tw ∧ (g.1 ≤ nf ∧ g.2 ≤ 2000 ∧ fnF p.funcs p.globals.length 0 = fnF (p.funcs.drop g.1) (p.globals.length + g.1) g.2)) (fun g => nf - g.1) (fun _ _ _ h hl => ⟨h.1.trans hl, h.2⟩) (0, 0) (.cons Z (.cons Z (.cons Z (.cons Z (.cons Z (.cons Z (.nil _))))))) Z ⟨Le.refl _, ⟨Nat.zero_le _, Nat.zero_le _, Z⟩⟩ ?_
 intro g s16 I16
 obtain ⟨k, ck⟩ := g
 obtain ⟨hk0, hck, hS2⟩ := I16.2
 simp only at hk0 hck hS2
 dsimp only
 refine Sr <| Zqlt Z Z Z <| Nt <| Zs <| ?_
 refine JC_ifD Z (fun c17 => ?_) (fun c17 => ?_)
 ·
  have hk : k < nf := by omega
  obtain ⟨b, off, x, B1, m1, d1, B2, m2, d2, B3, m3, d3, rfl, hx, hcx, hpx, hlx, hbx, hnl⟩ := Fncs.at_ (hFn.le (h1.t h2|>.t h3|>.t I7.1|>.t h15|>.t I16.1)) hk
  refine Zk <| Zt <| Zs <| Zp <| Sr <| Zqm Z Z <| JO_q (QE_iaN Z Z Z Z Z Z hk) Z <| JO_q (QE_ldsA Z Z Z (hcx.le (Lr D)) Z) Z <| JO_allocZ Z [_, _, _, _] Z Z ?_
  intro β18 s18 h18
  refine Zqa Z Z <| Wt 0 [_, _, _, _] Y9 <| Nt <| Sr <| Zqm Z Z <| JO_q (QE_ldA 0 [_, _, _, _] Z Z Z Z Z) Z <| Jc Z Z Z (cfunc_swap D _ _ _ (hG.le (h1.t h2|>.t h3|>.t I7.1|>.t h15|>.t I16.1|>.t h18)) _ ck d x B1 B2 B3 m1 d1 m2 d2 m3 d3 (hpx.le h18) (hlx.le h18) (hbx.le h18) hck) ?_
  rintro _ _ s19 h19 ⟨rfl, rfl⟩
  refine At Z Z <| Sr <| Zqm Z Z <| Zqne Z Z Z <| Nt <| ?_
  refine JC_ifN Z (fun c20 => ?_) (fun c20 => ?_)
  ·
   have hE : prgF p = ((fnC x ck).2, ((ng + k : Nat) : Int)) := by
     have h8 : shapeF p = ((fnC x ck).2, ((ng + k : Nat) : Int)) := by rw [g44, hS2, fnF_at hx, if_pos c20, hn1]
     rw [pr_sh (by rw [h8]; exact c20), h8]
   refine Sr <| Zqm Z Z <| W0 Y5 <| Wl 3 Y6 <| Ws Y4 <| Zqm Z Z <| JO_q (QE_add' Z Z (show IntKind.i64.wrap ((ng : Int) + (k : Int)) = ((ng + k : Nat) : Int) by rw [w64 O O]; simp)) Z <| Jc Z Z Z (fault_ac D _ _ _ _) ?_
   rintro _ _ s21 h21 ⟨rfl, rfl⟩
   refine Wt 2 [_, _] Y9 <| Nt <| Zo <| Zc <| Zu <| Zu <| Zc <| Zu <| ?_
   refine retQ_mk [_, _, _, _] L (.inr Z) (.agg (us := [_, _]) 2 Z Z Z Z Z (.nil)) Z (h1.t h2|>.t h3|>.t I7.1|>.t h15|>.t I16.1|>.t h18|>.t h19|>.t h21) (fun sR hS2 => ?_)
   exact ⟨by rw [hE]; rfl, rfl⟩
  have g60 : ¬ (fnC x ck).2 ≠ 0 := fun h => h c20
  refine Zk <| Zb <| Zt <| Zr <| Zqadd Z Z Z (w64 O O) <| Zqm Z Z <| Zn <| ?_
  refine thenQ_n ⟨(k + 1, (fnC x ck).1), [_], kp, Z, ⟨(I16.1.t h18|>.t h19), ⟨by simp only; omega, by simp only; have hw := fnC_zero (show (fnC x ck).2 = 0 by simpa using g60); omega, by simp only; rw [hS2, fnF_at hx, if_neg g60]; rfl⟩⟩, (by simp only; omega)⟩
 rw [List.drop_eq_nil_of_le O] at hS2
 have hsh : shapeF p = (0, 0) := by rw [g44, hS2]; rfl
 have hV := PV.of hU (by rw [hsh])
 refine Zl <| Zv <| Zv <| Zd <| Zt <| Zs <| Sr <| JO_q (QE_ldA 2 [_, _] Z Z Z Z Z) Z <| Jc Z Z Z (text_ac D _ _ (hG.le (h1.t h2|>.t h3|>.t I7.1|>.t h15|>.t I16.1)) d p Ag Af ng cg nf cf (hGl.le (h1.t h2|>.t h3|>.t I7.1|>.t h15|>.t I16.1)) (hFn.le (h1.t h2|>.t h3|>.t I7.1|>.t h15|>.t I16.1)) hV) ?_
 rintro _ _ s22 h22 ⟨rfl, rfl⟩
 refine Zqlt2 Z Z Z Z <| Zqgt Z Z Z <| Nt <| ?_
 refine JC_ifD Z (fun c23 => ?_) (fun c23 => ?_)
 ·
  have hE := pr_long hsh O
  refine Sr <| Jc Z Z Z (fault_ac D _ _ _ _) ?_
  rintro _ _ s24 h24 ⟨rfl, rfl⟩
  refine Wt 1 [_, _] Y9 <| Nt <| Zo <| Zu <| ?_
  refine retQ_mk [_, _, _] L (.inr Z) (.agg (us := [_, _]) 1 Z Z Z Z Z (.nil)) Z (h1.t h2|>.t h3|>.t I7.1|>.t h15|>.t I16.1|>.t h22|>.t h24) (fun sR hS2 => ?_)
  exact ⟨by rw [hE]; rfl, rfl⟩
 have hE := pr_ok hsh O
 refine Zk <| Zt <| Sr <| JO_q (QE_build [] [_, _] Z Z Z Z Z Z) Z <| Wt 1 [_, _] Y9 <| Nt <| Zo <| ?_
 refine retQ_mk [_, _, _] L (.inr Z) (.agg (us := [_, _]) 1 Z Z Z Z Z (.nil)) Z (h1.t h2|>.t h3|>.t I7.1|>.t h15|>.t I16.1|>.t h22) (fun sR hS2 => ?_)
 exact ⟨by rw [hE]; rfl, rfl⟩
theorem print_ac (D : Nat) (L : Hl) (s : World) (hG : GP s) (d : Nat) (p : Prg) (Ag Af : Option Addr) (ng cg nf cf : Nat) (hGl : Glos s Ag ng cg p.globals) (hFn : Fncs d s Af nf cf p.funcs) : AC Tryz.prog D 8 [.agg #[.slice Ag ng cg, .slice Af nf cf]] L s fun v L' _ => v = .tuple #[St (if (prgF p).1 ≠ 0 then [] else prgT p), .agg #[.int .i64 (prgF p).1, .int .i64 (prgF p).2]] ∧ L = L' := by
 have hU : prU p := ⟨hGl.u, hFn.u⟩
 refine AC_enter (TT := TT) (fn := Tryz.f8) TT_ok Tryz.func8 V Z Tryz.ntmps8 Z (rs := [.tmp 2, .cell 3 27]) Z [(0, _)] Z <| Sr <| JO_boxA Z Z ?_
 intro β1 s1 h1
 refine Zqa Z Z <| JO_allocZ Z [_, _] Z Z ?_
 intro β2 s2 h2
 refine Nt <| Zs <| Sr <| JO_q (QE_ldA 1 [_, _] Z Z Z Z Z) Z <| Jc Z Z Z (validate_ac D _ _ (hG.le (h1.t h2)) d p Ag Af ng cg nf cf (hGl.le (h1.t h2)) (hFn.le (h1.t h2))) ?_
 rintro _ _ s3 h3 ⟨rfl, rfl⟩
 refine JO_allocZ Z [_, _] Z Z ?_
 intro β4 s4 h4
 refine Wt 0 [_, _] Y9 <| Nt <| Sr <| JO_q (QE_ldA 0 [_, _] Z Z Z Z Z) Z <| JO_q (QE_build [] [_, _] Z Z Z Z Z Z) Z <| JO_q (QE_ane Z Z (eqFault _ _ _ _)) Z <| Nt <| ?_
 refine JC_ifN Z (fun c5 => ?_) (fun c5 => ?_)
 ·
  have g9 := c5
  refine Zs <| JC_drawE drawsMixed 3 Z [1] (by intro x hx; exact eraseAll_mem hx) ?_
  intro s6 h6
  refine za 0 Z (QE_ldA 0 [_, _] Z Z Z Z Z) Z <| za 1 Z (QE_as Z) Z <| JA_1 2 V <| Wu Z trivial 1 [_, _] Y9 (fun _ hx => sub_mem (sbY (sbY (sbE _))) hx) <| JA_done V <| Zt <| Zo <| Zu <| ?_
  refine retQ_mk [_, _, _] L (.inr Z) (.tmp Z (.agg (us := [_, _]) 1 Z Z Z Z Z (.nil))) Z (h1.t h2|>.t h3|>.t h4|>.t h6) (fun sR hS2 => ?_)
  first
    | (rw [if_pos (fun h => g9 (by rw [prgF_00 h]; exact ⟨rfl, rfl⟩))]; exact ⟨rfl, rfl⟩)
    | (rw [hz, if_neg (by simp)]; exact ⟨rfl, rfl⟩)
 have g9 := c5
 have hz := prgF_00 g9.1
 have hV := PV.of hU (prF_shape g9.1)
 refine Zk <| Zt <| Sr <| JO_q (QE_ldA 2 [_, _] Z Z Z Z Z) Z <| Jc Z Z Z (text_ac D _ _ (hG.le (h1.t h2|>.t h3|>.t h4)) d p Ag Af ng cg nf cf (hGl.le (h1.t h2|>.t h3|>.t h4)) (hFn.le (h1.t h2|>.t h3|>.t h4)) hV) ?_
 rintro _ _ s7 h7 ⟨rfl, rfl⟩
 refine JO_q (QE_build [] [_, _] Z Z Z Z Z Z) Z <| Zqa Z Z <| Wt 1 [_, _] Y9 <| Nt <| Zo <| ?_
 refine retQ_mk [_, _, _] L (.inr Z) (.tmp Z (.agg (us := [_, _]) 1 Z Z Z Z Z (.nil))) Z (h1.t h2|>.t h3|>.t h4|>.t h7) (fun sR hS2 => ?_)
 first
   | (rw [if_pos (fun h => g9 (by rw [prgF_00 h]; exact ⟨rfl, rfl⟩))]; exact ⟨rfl, rfl⟩)
   | (rw [hz, if_neg (by simp)]; exact ⟨rfl, rfl⟩)
end Go.Proofs.YtiljephghfngnaaGreatDoor
namespace Go.Proofs.YtiljephghfngnaaGreatDoor
open Go Go.FL
structure Tok where
  kind : Int
  text : Str
  num : Int
  off : Nat
  deriving DecidableEq
structure PS where
  next : Tok
  behind : Nat
  deriving DecidableEq
inductive PR (α : Type) where
  | ok (a : α) (t : PS)
  | er (t : PS)
  | out
def PR.and {α β : Type} : PR α → (α → PS → PR β) → PR β
  | .ok a t, k => k a t
  | .er t, _ => .er t
  | .out, _ => .out
def skL : Bool → Str → Nat
  | _, [] => 0
  | false, c :: r => if c = 32 ∨ c = 9 ∨ c = 10 then 1 + skL false r else if c = 35 then 1 + skL true r else 0
  | true, c :: r => if c = 10 then 1 + skL false r else 1 + skL true r
def signsP : List Str := [[60, 60], [62, 62], [61, 61], [33, 61], [60, 61], [62, 61], [38, 38], [124, 124], [43], [45], [42], [47], [37], [38], [124], [94], [126], [33], [60], [62], [61], [40], [41], [91], [93], [123], [125], [44], [59]]
def wordL (l : Str) : Str := l.takeWhile fun x => letB x || digB x
def digL (l : Str) : Str := l.takeWhile digB
def chrB (u : Str) : Bool := decide (3 ≤ u.length) && decide (u.getD 2 0 = 39) && decide (32 ≤ u.getD 1 0) && decide (u.getD 1 0 ≤ 126) && decide (u.getD 1 0 ≠ 39) && decide (u.getD 1 0 ≠ 92)
def rdS (u : Str) : (Int × Str × Int) × Nat := match u with
  | [] => ((0, [], 0), 0)
  | c :: r =>
    if letB c = true then (if (kwB (wordL (c :: r)) || identB (wordL (c :: r))) = true then ((1, wordL (c :: r), 0), (wordL (c :: r)).length) else ((4, [], 0), 0))
    else if digB c = true then (match numL (digL (c :: r)) with
      | some u => ((2, digL (c :: r), (u : Int)), (digL (c :: r)).length)
      | none => ((4, [], 0), 0))
    else if c = 39 then (if chrB (c :: r) = true then ((2, (c :: r).take 3, (((c :: r).getD 1 0).toNat : Int)), 3) else ((4, [], 0), 0))
    else match signsP.find? fun x => x.isPrefixOf (c :: r) with
      | some x => ((3, x, 0), x.length)
      | none => ((4, [], 0), 0)
def rdQ (s : Str) (a : Nat) : Tok × Nat := (⟨(rdS (s.drop a)).1.1, (rdS (s.drop a)).1.2.1, (rdS (s.drop a)).1.2.2, a⟩, a + (rdS (s.drop a)).2)
def advP (s : Str) (t : PS) : PS := ⟨(rdQ s (t.behind + skL false (s.drop t.behind))).1, (rdQ s (t.behind + skL false (s.drop t.behind))).2⟩
def isP (t : PS) (w : Str) : Bool := (decide (t.next.kind = 3) || decide (t.next.kind = 1)) && decide (t.next.text = w)
def isNm (t : PS) : Bool := decide (t.next.kind = 1) && !kwB t.next.text
section
variable (s : Str)
def expP : List Str → PS → PR Unit
  | [], t => .ok () t
  | w :: r, t => if isP t w = true then expP r (advP s t) else .er t
def nameP (t : PS) : PR Str := if isNm t = true then .ok t.next.text (advP s t) else .er t
def numbP (t : PS) : PR Int := if t.next.kind = 2 then .ok t.next.num (advP s t) else .er t
def binP (t : PS) : Int := if t.next.kind ≠ 3 then 0 else if idxOf (fun x => decide (t.next.text = x)) (signL.drop 4) 0 < 0 then 0 else idxOf (fun x => decide (t.next.text = x)) (signL.drop 4) 0 + 4
mutual
def pExpr : Nat → Int → PS → PR Ex
  | 0, _, _ => .out
  | n + 1, least, t => (pArg n t).and fun x t => pLoop n least x t
def pLoop : Nat → Int → Ex → PS → PR Ex
  | 0, _, _, _ => .out
  | n + 1, least, x, t => if binP t ≠ 0 ∧ least ≤ strg (binP t) then (pExpr n (strg (binP t) + 1) (advP s t)).and fun y t2 => pLoop n least (.mk 7 (binP t) 0 [] [x, y]) t2 else .ok x t
def pArg : Nat → PS → PR Ex
  | 0, _ => .out
  | n + 1, t =>
    if isP t [33] = true then (pArg n (advP s t)).and fun x t => .ok (.mk 6 1 0 [] [x]) t
    else if isP t [45] = true then (pArg n (advP s t)).and fun x t => .ok (.mk 6 2 0 [] [x]) t
    else if isP t [126] = true then (pArg n (advP s t)).and fun x t => .ok (.mk 6 3 0 [] [x]) t
    else if t.next.kind = 2 then .ok (.mk 1 0 t.next.num [] []) (advP s t)
    else if isP t [103, 101, 116] = true then .ok (.mk 5 0 0 [] []) (advP s t)
    else if isP t [40] = true then (pExpr n 1 (advP s t)).and fun x t => (expP s [[41]] t).and fun _ t => .ok x t
    else (nameP s t).and fun w t =>
      if isP t [91] = true then (pExpr n 1 (advP s t)).and fun x t => (expP s [[93]] t).and fun _ t => .ok (.mk 3 0 0 w [x]) t
      else if isP t [40] = true then (pArgs n (advP s t)).and fun l t => .ok (.mk 4 0 0 w l) t
      else .ok (.mk 2 0 0 w []) t
def pArgs : Nat → PS → PR (List Ex)
  | 0, _ => .out
  | n + 1, t => if isP t [41] = true then .ok [] (advP s t) else (pElems n [] t).and fun l t => (expP s [[41]] t).and fun _ t => .ok l t
def pElems : Nat → List Ex → PS → PR (List Ex)
  | 0, _, _ => .out
  | n + 1, l, t => (pExpr n 1 t).and fun x t => if isP t [44] = true then pElems n (l ++ [x]) (advP s t) else .ok (l ++ [x]) t
end
mutual
def pRest : Nat → List Stm → PS → PR (List Stm)
  | 0, _, _ => .out
  | n + 1, l, t => if isP t [125] = true then .ok l (advP s t) else (pStm n t).and fun x t => pRest n (l ++ [x]) t
def pCond : Nat → PS → PR (Ex × List Stm)
  | 0, _ => .out
  | n + 1, t => (expP s [[40]] t).and fun _ t => (pExpr s n 1 t).and fun x t => (expP s [[41], [123]] t).and fun _ t => (pRest n [] t).and fun b t => .ok (x, b) t
def pIf : Nat → PS → PR Stm
  | 0, _ => .out
  | n + 1, t => (pCond n t).and fun c t =>
    if isP t [101, 108, 115, 101] = true then
      (if isP (advP s t) [105, 102] = true then (pIf n (advP s (advP s t))).and fun y t => .ok (.mk 3 [] [c.1] c.2 [y]) t
       else (expP s [[123]] (advP s t)).and fun _ t => (pRest n [] t).and fun e t => .ok (.mk 3 [] [c.1] c.2 e) t)
    else .ok (.mk 3 [] [c.1] c.2 []) t
def pStm : Nat → PS → PR Stm
  | 0, _ => .out
  | n + 1, t =>
    if isNm t = true then
      (if isP (advP s t) [61] = true then (pExpr s n 1 (advP s (advP s t))).and fun x t2 => (expP s [[59]] t2).and fun _ t2 => .ok (.mk 1 t.next.text [x] [] []) t2
       else if isP (advP s t) [91] = true then (pExpr s n 1 (advP s (advP s t))).and fun x t2 => (expP s [[93], [61]] t2).and fun _ t2 => (pExpr s n 1 t2).and fun y t2 => (expP s [[59]] t2).and fun _ t2 => .ok (.mk 2 t.next.text [x, y] [] []) t2
       else (expP s [[40]] (advP s t)).and fun _ t2 => (pArgs s n t2).and fun l t2 => (expP s [[59]] t2).and fun _ t2 => .ok (.mk 5 t.next.text l [] []) t2)
    else if isP t [105, 102] = true then pIf n (advP s t)
    else if isP t [119, 104, 105, 108, 101] = true then (pCond n (advP s t)).and fun c t => .ok (.mk 4 [] [c.1] c.2 []) t
    else if isP t [114, 101, 116, 117, 114, 110] = true then (pExpr s n 1 (advP s t)).and fun x t => (expP s [[59]] t).and fun _ t => .ok (.mk 6 [] [x] [] []) t
    else if isP t [112, 117, 116] = true then (pExpr s n 1 (advP s t)).and fun x t => (expP s [[59]] t).and fun _ t => .ok (.mk 7 [] [x] [] []) t
    else if isP t [115, 116, 111, 112] = true then (pExpr s n 1 (advP s t)).and fun x t => (expP s [[59]] t).and fun _ t => .ok (.mk 8 [] [x] [] []) t
    else if isP t [98, 114, 101, 97, 107] = true then (expP s [[59]] (advP s t)).and fun _ t => .ok (.mk 9 [] [] [] []) t
    else if isP t [99, 111, 110, 116, 105, 110, 117, 101] = true then (expP s [[59]] (advP s t)).and fun _ t => .ok (.mk 10 [] [] [] []) t
    else .er t
end
def pNames : Nat → List Str → PS → PR (List Str)
  | 0, _, _ => .out
  | n + 1, l, t => (nameP s t).and fun w t => if isP t [44] = true then pNames n (l ++ [w]) (advP s t) else .ok (l ++ [w]) t
def pNums : Nat → List Int → PS → PR (List Int)
  | 0, _, _ => .out
  | n + 1, l, t => (numbP s t).and fun w t => if isP t [44] = true then pNums n (l ++ [w]) (advP s t) else .ok (l ++ [w]) t
def pGlo (n : Nat) (t : PS) : PR Glo :=
  if isP t [99, 111, 110, 115, 116] = true then (nameP s (advP s t)).and fun w t => (expP s [[61]] t).and fun _ t => (numbP s t).and fun v t => (expP s [[59]] t).and fun _ t => .ok ⟨1, w, v, []⟩ t
  else if isP t [118, 97, 114] = true then (nameP s (advP s t)).and fun w t => (expP s [[59]] t).and fun _ t => .ok ⟨2, w, 0, []⟩ t
  else (expP s [[97, 114, 114, 97, 121]] t).and fun _ t => (nameP s t).and fun w t => (expP s [[91]] t).and fun _ t => (numbP s t).and fun v t => (expP s [[93]] t).and fun _ t =>
    if isP t [61] = true then (pNums s n [] (advP s t)).and fun l t => (expP s [[59]] t).and fun _ t => .ok ⟨3, w, v, l⟩ t
    else (expP s [[59]] t).and fun _ t => .ok ⟨3, w, v, []⟩ t
def pBody (n : Nat) (w : Str) (ps : List Str) (t : PS) : PR Fnc :=
  (expP s [[41], [123]] t).and fun _ t =>
    if isP t [118, 97, 114] = true then (pNames s n [] (advP s t)).and fun l t => (expP s [[59]] t).and fun _ t => (pRest s n [] t).and fun b t => .ok ⟨w, ps, l, b⟩ t
    else (pRest s n [] t).and fun b t => .ok ⟨w, ps, [], b⟩ t
def pFun (n : Nat) (t : PS) : PR Fnc :=
  (nameP s t).and fun w t => (expP s [[40]] t).and fun _ t =>
    if isP t [41] = true then pBody s n w [] t else (pNames s n [] t).and fun l t => pBody s n w l t
def pProg : Nat → Prg → PS → PR Prg
  | 0, _, _ => .out
  | n + 1, p, t => if t.next.kind = 0 then .ok p t
    else if isP t [102, 117, 110, 99] = true then (pFun s n (advP s t)).and fun x t => pProg n ⟨p.globals, p.funcs ++ [x]⟩ t
    else (pGlo s n t).and fun g t => pProg n ⟨p.globals ++ [g], p.funcs⟩ t
end
def zeroT : PS := ⟨⟨0, [], 0, 0⟩, 0⟩
def fuelP (s : Str) : Nat := 20 * s.length + 40
def parP (s : Str) : Prg × (Int × Int) := if 12000 < s.length then (⟨[], []⟩, (3, -1)) else match pProg s (fuelP s) ⟨[], []⟩ (advP s zeroT) with
  | .ok p _ => if (prgF p).1 ≠ 0 then (⟨[], []⟩, prgF p) else (p, (0, 0))
  | .er t => (⟨[], []⟩, (1, (t.next.off : Int)))
  | .out => (⟨[], []⟩, (0, 0))
theorem sp_q : parP smallT = (smallP, (0, 0)) := by kernel_rfl
def spA : Str := [102, 117, 110, 99, 32, 109, 97, 105, 110, 40, 41, 123, 112, 117, 116, 32, 103, 101, 116, 43, 40, 110, 41, 42, 50, 59, 125, 99, 111, 110, 115, 116, 32, 110, 61, 39, 34, 39, 59, 32, 35, 32, 51, 52]
def spB : Str := [102, 117, 110, 99, 32, 109, 97, 105, 110, 40, 41, 32, 123, 32, 112, 117, 116, 32, 39, 65, 39, 32, 125]
def spAP : Prg := ⟨[⟨1, [110], 34, []⟩], smallP.funcs⟩
theorem sp_a : parP spA = (spAP, (0, 0)) := by kernel_rfl
theorem sp_b : parP spB = (⟨[], []⟩, (1, 22)) := by kernel_rfl
structure PG (s : Str) (t : PS) : Prop where
  hb : t.behind ≤ s.length
  ho : t.next.off ≤ t.behind
  ht : t.next.text.length ≤ s.length
  hn : U32 t.next.num
def remP (s : Str) (t : PS) : Nat := s.length - t.behind + if t.next.kind = 1 ∨ t.next.kind = 2 ∨ t.next.kind = 3 then 1 else 0
theorem skL_le (b : Bool) (l : Str) : skL b l ≤ l.length := by
  induction l generalizing b with
  | nil => cases b <;> exact Nat.zero_le _
  | cons c r ih =>
    have h1 := ih false
    have h2 := ih true
    cases b
    · simp only [skL, List.length_cons]; split
      · omega
      · split <;> omega
    · simp only [skL, List.length_cons]; split <;> omega
theorem take_le {p : UInt8 → Bool} (l : Str) : (l.takeWhile p).length ≤ l.length := by
  induction l with
  | nil => exact Nat.le_refl _
  | cons c r ih => rw [List.takeWhile_cons]; split <;> simp <;> omega
theorem rdS_ok (u : Str) : (rdS u).2 ≤ u.length ∧ (rdS u).1.2.1.length ≤ u.length ∧ U32 (rdS u).1.2.2 ∧ (((rdS u).1.1 = 1 ∨ (rdS u).1.1 = 2 ∨ (rdS u).1.1 = 3) → 0 < (rdS u).2) := by
  have u0 : U32 0 := ⟨by decide, by decide⟩
  have bad : ∀ k : Int, ¬ (k = 1 ∨ k = 2 ∨ k = 3) → (0 : Nat) ≤ u.length ∧ ([] : Str).length ≤ u.length ∧ U32 0 ∧ ((k = 1 ∨ k = 2 ∨ k = 3) → 0 < 0) := fun k hk => ⟨Nat.zero_le _, Nat.zero_le _, u0, fun h => absurd h hk⟩
  unfold rdS
  split
  · exact bad 0 (by decide)
  · rename_i c r
    split
    · rename_i hc
      split
      · have h1 : (wordL (c :: r)).length ≤ (c :: r).length := take_le _
        have h2 : 0 < (wordL (c :: r)).length := by simp [wordL, hc]
        exact ⟨h1, h1, u0, fun _ => h2⟩
      · exact bad 4 (by decide)
    · split
      · rename_i hc
        split
        · rename_i u hu
          have h1 : (digL (c :: r)).length ≤ (c :: r).length := take_le _
          have h2 : 0 < (digL (c :: r)).length := by simp [digL, hc]
          have h3 := (numL_some hu).2
          exact ⟨h1, h1, ⟨by show (0 : Int) ≤ (u : Int); omega, by show (u : Int) < 4294967296; omega⟩, fun _ => h2⟩
        · exact bad 4 (by decide)
      · split
        · split
          · rename_i hc
            have h3 : 3 ≤ (c :: r).length := by simp only [chrB, Bool.and_eq_true, decide_eq_true_eq] at hc; exact hc.1.1.1.1.1
            have := ((c :: r).getD 1 0).toNat_lt
            exact ⟨h3, by show ((c :: r).take 3).length ≤ _; rw [List.length_take]; omega, ⟨by show (0 : Int) ≤ (((c :: r).getD 1 0).toNat : Int); omega, by show (((c :: r).getD 1 0).toNat : Int) < 4294967296; omega⟩, fun _ => by show 0 < 3; omega⟩
          · exact bad 4 (by decide)
        · split
          · rename_i x hx
            have h1 := List.find?_some hx
            have h2 := List.mem_of_find?_eq_some hx
            have h3 : 0 < x.length := (show ∀ x ∈ signsP, 0 < x.length by decide) x h2
            have h4 : x.length ≤ (c :: r).length := (List.isPrefixOf_iff_prefix.1 h1).length_le
            exact ⟨h4, h4, u0, fun _ => h3⟩
          · exact bad 4 (by decide)
theorem rdQ_ok (s : Str) (a : Nat) (ha : a ≤ s.length) : (rdQ s a).2 ≤ s.length ∧ (rdQ s a).1.off = a ∧ a ≤ (rdQ s a).2 ∧ (rdQ s a).1.text.length ≤ s.length ∧ U32 (rdQ s a).1.num ∧ (((rdQ s a).1.kind = 1 ∨ (rdQ s a).1.kind = 2 ∨ (rdQ s a).1.kind = 3) → a < (rdQ s a).2) := by
  obtain ⟨h1, h2, h3, h4⟩ := rdS_ok (s.drop a)
  rw [List.length_drop] at h1 h2
  exact ⟨by show a + _ ≤ _; omega, rfl, Nat.le_add_right _ _, by show (rdS _).1.2.1.length ≤ _; omega, h3, fun h => by have := h4 h; show a < a + _; omega⟩
theorem adv_pg {s : Str} {t : PS} (h : t.behind ≤ s.length) : PG s (advP s t) ∧ remP s (advP s t) ≤ s.length - t.behind := by
  have h1 : t.behind + skL false (s.drop t.behind) ≤ s.length := by
    have := skL_le false (s.drop t.behind)
    rw [List.length_drop] at this; omega
  obtain ⟨a1, a2, a3, a4, a5, a6⟩ := rdQ_ok s _ h1
  refine ⟨⟨a1, by show (rdQ s _).1.off ≤ (rdQ s _).2; rw [a2]; exact a3, a4, a5⟩, ?_⟩
  show s.length - (rdQ s _).2 + (if (rdQ s _).1.kind = 1 ∨ (rdQ s _).1.kind = 2 ∨ (rdQ s _).1.kind = 3 then 1 else 0) ≤ _
  split
  · rename_i h; have := a6 h; omega
  · omega
theorem PG.adv {s : Str} {t : PS} (h : PG s t) : PG s (advP s t) := (adv_pg h.hb).1
theorem PG.zero (s : Str) : PG s (advP s zeroT) := (adv_pg (Nat.zero_le _)).1
theorem rem_tok {s : Str} {t : PS} (h : PG s t) (hk : t.next.kind = 1 ∨ t.next.kind = 2 ∨ t.next.kind = 3) : remP s (advP s t) < remP s t := by
  have := (adv_pg h.hb).2
  have h2 : remP s t = s.length - t.behind + 1 := by unfold remP; rw [if_pos hk]
  omega
theorem isP_tok {t : PS} {w : Str} (h : isP t w = true) : t.next.kind = 1 ∨ t.next.kind = 2 ∨ t.next.kind = 3 := by
  simp [isP] at h; rcases h.1 with h | h
  · exact .inr (.inr h)
  · exact .inl h
theorem isNm_tok {t : PS} (h : isNm t = true) : t.next.kind = 1 ∨ t.next.kind = 2 ∨ t.next.kind = 3 := by
  simp [isNm] at h; exact .inl h.1
theorem binP_tok {t : PS} (h : binP t ≠ 0) : t.next.kind = 1 ∨ t.next.kind = 2 ∨ t.next.kind = 3 := by
  by_cases hk : t.next.kind = 3
  · exact .inr (.inr hk)
  · exact absurd (show binP t = 0 by unfold binP; rw [if_pos hk]) h
def Fin (s : Str) (b : Nat) {α : Type} : PR α → Prop
  | .ok _ t => PG s t ∧ remP s t < b
  | .er t => PG s t
  | .out => False
variable {s : Str}
theorem Fin.and {α β : Type} {b c : Nat} {r : PR α} {k : α → PS → PR β} (h : Fin s b r) (hk : ∀ x t, PG s t → remP s t < b → Fin s c (k x t)) : Fin s c (r.and k) := by
  cases r with
  | ok x t => exact hk x t h.1 h.2
  | er t => exact h
  | out => exact h.elim
theorem Fin.mono {α : Type} {b c : Nat} {r : PR α} (h : Fin s b r) (hb : b ≤ c) : Fin s c r := by
  cases r with
  | ok x t => exact ⟨h.1, by have := h.2; omega⟩
  | er t => exact h
  | out => exact h.elim
theorem Fin.no {α : Type} {b : Nat} {r : PR α} (h : Fin s b r) : r ≠ .out := by rintro rfl; exact h
theorem fin_exp (w : Str) (t : PS) (h : PG s t) : Fin s (remP s t) (expP s [w] t) := by
  unfold expP; split
  · rename_i hw; exact ⟨h.adv, rem_tok h (isP_tok hw)⟩
  · exact h
theorem fin_exp2 (w x : Str) (t : PS) (h : PG s t) : Fin s (remP s t) (expP s [w, x] t) := by
  unfold expP; split
  · rename_i hw; exact (fin_exp x _ h.adv).mono (by have := rem_tok h (isP_tok hw); omega)
  · exact h
theorem fin_name (t : PS) (h : PG s t) : Fin s (remP s t) (nameP s t) := by
  unfold nameP; split
  · rename_i hw; exact ⟨h.adv, rem_tok h (isNm_tok hw)⟩
  · exact h
theorem fin_numb (t : PS) (h : PG s t) : Fin s (remP s t) (numbP s t) := by
  unfold numbP; split
  · rename_i hw; exact ⟨h.adv, rem_tok h (.inr (.inl hw))⟩
  · exact h
theorem fin_ex (n : Nat) : (∀ t least, PG s t → 5 * remP s t + 2 ≤ n → Fin s (remP s t) (pExpr s n least t)) ∧ (∀ t least x, PG s t → 5 * remP s t + 1 ≤ n → Fin s (remP s t + 1) (pLoop s n least x t)) ∧ (∀ t, PG s t → 5 * remP s t + 1 ≤ n → Fin s (remP s t) (pArg s n t)) ∧
    (∀ t, PG s t → 5 * remP s t + 4 ≤ n → Fin s (remP s t) (pArgs s n t)) ∧ (∀ t l, PG s t → 5 * remP s t + 3 ≤ n → Fin s (remP s t) (pElems s n l t)) := by
  induction n with
  | zero => exact ⟨fun _ _ _ h => by omega, fun _ _ _ _ h => by omega, fun _ _ h => by omega, fun _ _ h => by omega, fun _ _ _ h => by omega⟩
  | succ n ih =>
    obtain ⟨hE, hL, hA, hS, hM⟩ := ih
    refine ⟨fun t least hg hn => ?_, fun t least x hg hn => ?_, fun t hg hn => ?_, fun t hg hn => ?_, fun t l hg hn => ?_⟩
    · rw [pExpr]
      exact (hA t hg O).and fun x t2 h2 h3 => (hL t2 least x h2 O).mono O
    · rw [pLoop]; split
      · rename_i ho
        have h1 := rem_tok hg (binP_tok ho.1)
        exact (hE _ _ hg.adv O).and fun y t2 h2 h3 => (hL t2 least _ h2 O).mono O
      · exact ⟨hg, by omega⟩
    · rw [pArg]; split
      · rename_i hw; have h1 := rem_tok hg (isP_tok hw)
        exact (hA _ hg.adv O).and fun x t2 h2 h3 => ⟨h2, by omega⟩
      · split
        · rename_i hw; have h1 := rem_tok hg (isP_tok hw)
          exact (hA _ hg.adv O).and fun x t2 h2 h3 => ⟨h2, by omega⟩
        · split
          · rename_i hw; have h1 := rem_tok hg (isP_tok hw)
            exact (hA _ hg.adv O).and fun x t2 h2 h3 => ⟨h2, by omega⟩
          · split
            · rename_i hw; exact ⟨hg.adv, rem_tok hg (.inr (.inl hw))⟩
            · split
              · rename_i hw; exact ⟨hg.adv, rem_tok hg (isP_tok hw)⟩
              · split
                · rename_i hw; have h1 := rem_tok hg (isP_tok hw)
                  exact (hE _ _ hg.adv O).and fun x t2 h2 h3 => (fin_exp _ t2 h2).and fun _ t3 h4 h5 => ⟨h4, by omega⟩
                · refine (fin_name t hg).and fun w t2 h2 h3 => ?_
                  split
                  · rename_i hw; have h1 := rem_tok h2 (isP_tok hw)
                    exact (hE _ _ h2.adv O).and fun x t3 h4 h5 => (fin_exp _ t3 h4).and fun _ t4 h6 h7 => ⟨h6, by omega⟩
                  · split
                    · rename_i hw; have h1 := rem_tok h2 (isP_tok hw)
                      exact (hS _ h2.adv O).and fun l t3 h4 h5 => ⟨h4, by omega⟩
                    · exact ⟨h2, h3⟩
    · rw [pArgs]; split
      · rename_i hw; exact ⟨hg.adv, rem_tok hg (isP_tok hw)⟩
      · exact (hM t [] hg O).and fun l t2 h2 h3 => (fin_exp _ t2 h2).and fun _ t3 h4 h5 => ⟨h4, by omega⟩
    · rw [pElems]
      refine (hE t 1 hg O).and fun x t2 h2 h3 => ?_
      split
      · rename_i hw; have h1 := rem_tok h2 (isP_tok hw)
        exact (hM _ _ h2.adv O).mono O
      · exact ⟨h2, h3⟩
theorem fin_st (n : Nat) : (∀ t l, PG s t → 5 * remP s t + 4 ≤ n → Fin s (remP s t) (pRest s n l t)) ∧ (∀ t, PG s t → 5 * remP s t + 1 ≤ n → Fin s (remP s t) (pCond s n t)) ∧ (∀ t, PG s t → 5 * remP s t + 2 ≤ n → Fin s (remP s t) (pIf s n t)) ∧ (∀ t, PG s t → 5 * remP s t + 3 ≤ n → Fin s (remP s t) (pStm s n t)) := by
  induction n with
  | zero => exact ⟨fun _ _ _ h => by omega, fun _ _ h => by omega, fun _ _ h => by omega, fun _ _ h => by omega⟩
  | succ n ih =>
    obtain ⟨hR, hC, hI, hS⟩ := ih
    have hE := (fin_ex (s := s) n).1
    have hA := (fin_ex (s := s) n).2.2.2.1
    refine ⟨fun t l hg hn => ?_, fun t hg hn => ?_, fun t hg hn => ?_, fun t hg hn => ?_⟩
    · rw [pRest]; split
      · rename_i hw; exact ⟨hg.adv, rem_tok hg (isP_tok hw)⟩
      · exact (hS t hg O).and fun x t2 h2 h3 => (hR t2 _ h2 O).mono O
    · rw [pCond]
      exact (fin_exp _ t hg).and fun _ t2 h2 h3 => (hE t2 1 h2 O).and fun x t3 h4 h5 => (fin_exp2 _ _ t3 h4).and fun _ t4 h6 h7 => (hR t4 [] h6 O).and fun b t5 h8 h9 => ⟨h8, by omega⟩
    · rw [pIf]
      refine (hC t hg O).and fun c t2 h2 h3 => ?_
      split
      · rename_i hw; have h1 := rem_tok h2 (isP_tok hw)
        split
        · rename_i hw2; have h4 := rem_tok h2.adv (isP_tok hw2)
          exact (hI _ h2.adv.adv O).and fun y t3 h5 h6 => ⟨h5, by omega⟩
        · exact (fin_exp _ _ h2.adv).and fun _ t3 h5 h6 => (hR t3 [] h5 O).and fun e t4 h7 h8 => ⟨h7, by omega⟩
      · exact ⟨h2, h3⟩
    · rw [pStm]; split
      · rename_i hw; have h1 := rem_tok hg (isNm_tok hw)
        split
        · rename_i hw2; have h4 := rem_tok hg.adv (isP_tok hw2)
          exact (hE _ 1 hg.adv.adv O).and fun x t3 h5 h6 => (fin_exp _ t3 h5).and fun _ t4 h7 h8 => ⟨h7, by omega⟩
        · split
          · rename_i hw2; have h4 := rem_tok hg.adv (isP_tok hw2)
            exact (hE _ 1 hg.adv.adv O).and fun x t3 h5 h6 => (fin_exp2 _ _ t3 h5).and fun _ t4 h7 h8 => (hE t4 1 h7 O).and fun y t5 h9 h10 => (fin_exp _ t5 h9).and fun _ t6 h11 h12 => ⟨h11, by omega⟩
          · exact (fin_exp _ _ hg.adv).and fun _ t3 h5 h6 => (hA t3 h5 O).and fun l t4 h7 h8 => (fin_exp _ t4 h7).and fun _ t5 h9 h10 => ⟨h9, by omega⟩
      · split
        · rename_i hw; have h1 := rem_tok hg (isP_tok hw)
          exact (hI _ hg.adv O).mono O
        · split
          · rename_i hw; have h1 := rem_tok hg (isP_tok hw)
            exact (hC _ hg.adv O).and fun c t2 h2 h3 => ⟨h2, by omega⟩
          · split
            · rename_i hw; have h1 := rem_tok hg (isP_tok hw)
              exact (hE _ 1 hg.adv O).and fun x t2 h2 h3 => (fin_exp _ t2 h2).and fun _ t3 h4 h5 => ⟨h4, by omega⟩
            · split
              · rename_i hw; have h1 := rem_tok hg (isP_tok hw)
                exact (hE _ 1 hg.adv O).and fun x t2 h2 h3 => (fin_exp _ t2 h2).and fun _ t3 h4 h5 => ⟨h4, by omega⟩
              · split
                · rename_i hw; have h1 := rem_tok hg (isP_tok hw)
                  exact (hE _ 1 hg.adv O).and fun x t2 h2 h3 => (fin_exp _ t2 h2).and fun _ t3 h4 h5 => ⟨h4, by omega⟩
                · split
                  · rename_i hw; have h1 := rem_tok hg (isP_tok hw)
                    exact (fin_exp _ _ hg.adv).and fun _ t2 h2 h3 => ⟨h2, by omega⟩
                  · split
                    · rename_i hw; have h1 := rem_tok hg (isP_tok hw)
                      exact (fin_exp _ _ hg.adv).and fun _ t2 h2 h3 => ⟨h2, by omega⟩
                    · exact hg
theorem fin_names (n : Nat) : ∀ (t : PS) (l : List Str), PG s t → remP s t + 1 ≤ n → Fin s (remP s t) (pNames s n l t) := by
  induction n with
  | zero => intro t l _ h; omega
  | succ n ih =>
    intro t l hg hn
    rw [pNames]
    refine (fin_name t hg).and fun w t2 h2 h3 => ?_
    split
    · rename_i hw; have h1 := rem_tok h2 (isP_tok hw)
      exact (ih _ _ h2.adv O).mono O
    · exact ⟨h2, h3⟩
theorem fin_nums (n : Nat) : ∀ (t : PS) (l : List Int), PG s t → remP s t + 1 ≤ n → Fin s (remP s t) (pNums s n l t) := by
  induction n with
  | zero => intro t l _ h; omega
  | succ n ih =>
    intro t l hg hn
    rw [pNums]
    refine (fin_numb t hg).and fun w t2 h2 h3 => ?_
    split
    · rename_i hw; have h1 := rem_tok h2 (isP_tok hw)
      exact (ih _ _ h2.adv O).mono O
    · exact ⟨h2, h3⟩
theorem fin_glo (n : Nat) (t : PS) (hg : PG s t) (hn : remP s t + 1 ≤ n) : Fin s (remP s t) (pGlo s n t) := by
  unfold pGlo; split
  · rename_i hw; have h1 := rem_tok hg (isP_tok hw)
    exact (fin_name _ hg.adv).and fun w t2 h2 h3 => (fin_exp _ t2 h2).and fun _ t3 h4 h5 => (fin_numb t3 h4).and fun v t4 h6 h7 => (fin_exp _ t4 h6).and fun _ t5 h8 h9 => ⟨h8, by omega⟩
  · split
    · rename_i hw; have h1 := rem_tok hg (isP_tok hw)
      exact (fin_name _ hg.adv).and fun w t2 h2 h3 => (fin_exp _ t2 h2).and fun _ t3 h4 h5 => ⟨h4, by omega⟩
    · refine (fin_exp _ t hg).and fun _ t1 h1 h2 => (fin_name _ h1).and fun w t2 h3 h4 => (fin_exp _ t2 h3).and fun _ t3 h5 h6 => (fin_numb t3 h5).and fun v t4 h7 h8 => (fin_exp _ t4 h7).and fun _ t5 h9 h10 => ?_
      split
      · rename_i hw; have h11 := rem_tok h9 (isP_tok hw)
        exact (fin_nums n _ [] h9.adv O).and fun l t6 h12 h13 => (fin_exp _ t6 h12).and fun _ t7 h14 h15 => ⟨h14, by omega⟩
      · exact (fin_exp _ t5 h9).and fun _ t7 h14 h15 => ⟨h14, by omega⟩
theorem fin_body (n : Nat) (w : Str) (ps : List Str) (t : PS) (hg : PG s t) (hn : 5 * remP s t + 4 ≤ n) : Fin s (remP s t) (pBody s n w ps t) := by
  unfold pBody
  refine (fin_exp2 _ _ t hg).and fun _ t1 h1 h2 => ?_
  split
  · rename_i hw; have h3 := rem_tok h1 (isP_tok hw)
    exact (fin_names n _ [] h1.adv O).and fun l t2 h4 h5 => (fin_exp _ t2 h4).and fun _ t3 h6 h7 => ((fin_st n).1 t3 [] h6 O).and fun b t4 h8 h9 => ⟨h8, by omega⟩
  · exact ((fin_st n).1 t1 [] h1 O).and fun b t4 h8 h9 => ⟨h8, by omega⟩
theorem fin_fun (n : Nat) (t : PS) (hg : PG s t) (hn : 5 * remP s t + 4 ≤ n) : Fin s (remP s t) (pFun s n t) := by
  unfold pFun
  refine (fin_name t hg).and fun w t1 h1 h2 => (fin_exp _ t1 h1).and fun _ t2 h3 h4 => ?_
  split
  · exact (fin_body n w [] t2 h3 O).mono O
  · exact (fin_names n t2 [] h3 O).and fun l t3 h5 h6 => (fin_body n w l t3 h5 O).mono O
theorem fin_prog (n : Nat) : ∀ (t : PS) (p : Prg), PG s t → 5 * remP s t + 5 ≤ n → Fin s (remP s t + 1) (pProg s n p t) := by
  induction n with
  | zero => intro t l _ h; omega
  | succ n ih =>
    intro t p hg hn
    rw [pProg]; split
    · exact ⟨hg, by omega⟩
    · split
      · rename_i hw; have h1 := rem_tok hg (isP_tok hw)
        exact (fin_fun n _ hg.adv O).and fun x t2 h2 h3 => (ih t2 _ h2 O).mono O
      · exact (fin_glo n t hg O).and fun g t2 h2 h3 => (ih t2 _ h2 O).mono O
theorem rem_le {t : PS} (h : t.behind ≤ s.length) : remP s t ≤ s.length + 1 := by unfold remP; split <;> omega
theorem prog_fin (s : Str) : Fin s (s.length + 2) (pProg s (fuelP s) ⟨[], []⟩ (advP s zeroT)) :=
  (fin_prog _ _ _ (PG.zero s) (by have := rem_le (PG.zero s).hb; unfold fuelP; omega)).mono (by have := rem_le (PG.zero s).hb; omega)
variable {l : Str} {k : Nat} {c : UInt8}
theorem drop_at (h : l[k]? = some c) : l.drop k = c :: l.drop (k + 1) := by
  obtain ⟨hk, rfl⟩ := List.getElem?_eq_some_iff.1 h
  exact List.drop_eq_getElem_cons hk
theorem byte_eq {c : UInt8} {n : Nat} (hn : n < 256) : (c.toNat : Int) = (n : Int) ↔ c = UInt8.ofNat n := by
  constructor
  · intro h
    have h2 : c.toNat = n := by omega
    rw [← h2]; exact UInt8.ofNat_toNat.symm
  · rintro rfl
    rw [UInt8.toNat_ofNat']; omega
theorem skL_sp (h : l[k]? = some c) (hc : (c.toNat : Int) = 32 ∨ (c.toNat : Int) = 9 ∨ (c.toNat : Int) = 10) : k + 1 + skL false (l.drop (k + 1)) = k + skL false (l.drop k) := by
  have h3 : c = 32 ∨ c = 9 ∨ c = 10 := by
    rcases hc with h | h | h
    · exact .inl ((byte_eq (n := 32) (by decide)).1 h)
    · exact .inr (.inl ((byte_eq (n := 9) (by decide)).1 h))
    · exact .inr (.inr ((byte_eq (n := 10) (by decide)).1 h))
  rw [drop_at h, skL, if_pos h3]; omega
theorem skL_true (u : Str) : skL true u = match fnd 10 u with | some n => n + skL false (u.drop n) | none => u.length := by
  induction u with
  | nil => rfl
  | cons x u ih =>
    rw [fnd]
    by_cases hx : x = 10
    · subst hx
      rw [if_pos rfl]
      simp [skL]
    · rw [if_neg hx, skL, if_neg hx, ih]
      cases hf : fnd 10 u with
      | none => simp [Nat.add_comm]
      | some n =>
        simp only [Option.map_some, List.drop_succ_cons]
        show 1 + (n + skL false (u.drop n)) = n + 1 + skL false (u.drop n)
        omega
theorem hash_fnd (h : l[k]? = some c) (hc : (c.toNat : Int) = 35) : skL false (l.drop k) = match fnd 10 (l.drop k) with | some n => n + skL false ((l.drop k).drop n) | none => (l.drop k).length := by
  obtain rfl : c = 35 := (byte_eq (n := 35) (by decide)).1 hc
  rw [drop_at h, skL, if_neg (by decide), if_pos rfl, skL_true, fnd, if_neg (by decide)]
  cases fnd 10 (l.drop (k + 1)) with
  | none => simp [Nat.add_comm]
  | some n =>
    simp only [Option.map_some, List.drop_succ_cons]
    show 1 + (n + skL false ((l.drop (k + 1)).drop n)) = n + 1 + skL false ((l.drop (k + 1)).drop n)
    omega
theorem fnd_neg {o : Option Nat} (h : fndI o < 0) : o = none := by
  cases o with
  | none => rfl
  | some n => simp [fndI] at h; omega
theorem fnd_nn {o : Option Nat} (h : ¬ fndI o < 0) : ∃ n, o = some n := by
  cases o with
  | none => simp [fndI] at h
  | some n => exact ⟨n, rfl⟩
theorem skL_hash {n : Nat} (h : l[k]? = some c) (hc : (c.toNat : Int) = 35) (hn : fnd 10 (l.drop k) = some n) : k + n + skL false (l.drop (k + n)) = k + skL false (l.drop k) ∧ k + n < l.length ∧ 0 < n := by
  have h1 := hash_fnd h hc
  rw [hn] at h1
  have h2 := fnd_lt hn
  simp only [List.drop_drop, List.length_drop] at h1 h2
  refine ⟨by rw [h1]; omega, by omega, ?_⟩
  obtain rfl : c = 35 := (byte_eq (n := 35) (by decide)).1 hc
  rw [drop_at h, fnd, if_neg (by decide)] at hn
  cases hf : fnd 10 (l.drop (k + 1)) with
  | none => rw [hf] at hn; cases hn
  | some m => rw [hf] at hn; simp at hn; omega
theorem skL_hash0 (h : l[k]? = some c) (hc : (c.toNat : Int) = 35) (hn : fnd 10 (l.drop k) = none) : k + skL false (l.drop k) = l.length := by
  have h1 := hash_fnd h hc
  rw [hn] at h1
  have := (List.getElem?_eq_some_iff.1 h).1
  simp only [List.length_drop] at h1
  rw [h1]
  show k + (l.length - k) = _
  omega
theorem skL_stop (h : l[k]? = some c) (h1 : ¬ ((c.toNat : Int) = 32 ∨ (c.toNat : Int) = 9 ∨ (c.toNat : Int) = 10)) (h2 : ¬ (c.toNat : Int) = 35) : k + skL false (l.drop k) = k := by
  rw [drop_at h, skL, if_neg (by rintro (h | h | h) <;> subst h <;> exact h1 (by decide)), if_neg (by rintro h; subst h; exact h2 (by decide))]; rfl
theorem skL_end (h : ¬ k < l.length) : k + skL false (l.drop k) = k := by
  rw [List.drop_eq_nil_of_le O]; rfl
theorem let_iff : letB c = true ↔ 97 ≤ (c.toNat : Int) ∧ (c.toNat : Int) ≤ 122 := by simp only [letB, Bool.and_eq_true, decide_eq_true_eq]; omega
theorem dig_iff : digB c = true ↔ 48 ≤ (c.toNat : Int) ∧ (c.toNat : Int) ≤ 57 := by simp only [digB, Bool.and_eq_true, decide_eq_true_eq]; omega
def spnB (b : Bool) (c : UInt8) : Bool := digB c || (b && letB c)
def spAt (b : Bool) (l : Str) (k : Nat) : Bool := match l[k]? with
  | some c => spnB b c
  | none => false
theorem spAt_no {b : Bool} (h : ¬ k < l.length) : ¬ spAt b l k = true := by rw [spAt, List.getElem?_eq_none O]; simp
theorem spAt_iff {b : Bool} (h : l[k]? = some c) : spAt b l k = true ↔ (48 ≤ (c.toNat : Int) ∧ (c.toNat : Int) ≤ 57) ∨ (b = true ∧ 97 ≤ (c.toNat : Int) ∧ (c.toNat : Int) ≤ 122) := by
  rw [spAt, h]
  show (digB c || (b && letB c)) = true ↔ _
  rw [Bool.or_eq_true, Bool.and_eq_true, dig_iff, let_iff]
theorem spAt_T {b : Bool} (h : l[k]? = some c) (hb : b = true) : spAt b l k = true ↔ (48 ≤ (c.toNat : Int) ∧ (c.toNat : Int) ≤ 57) ∨ (97 ≤ (c.toNat : Int) ∧ (c.toNat : Int) ≤ 122) := by
  rw [spAt_iff h, hb]; simp
theorem spAt_F {b : Bool} (h : l[k]? = some c) (hb : b = false) : spAt b l k = true ↔ (48 ≤ (c.toNat : Int) ∧ (c.toNat : Int) ≤ 57) := by
  rw [spAt_iff h, hb]; simp
theorem spAt_D {b : Bool} (h : l[k]? = some c) (hd : 48 ≤ (c.toNat : Int) ∧ (c.toNat : Int) ≤ 57) : spAt b l k = true := (spAt_iff h).2 (.inl hd)
theorem sp_step {b : Bool} (h : spAt b l k = true) : k < l.length ∧ k + 1 + ((l.drop (k + 1)).takeWhile (spnB b)).length = k + ((l.drop k).takeWhile (spnB b)).length := by
  unfold spAt at h
  cases hc : l[k]? with
  | none => rw [hc] at h; cases h
  | some c =>
    rw [hc] at h
    exact ⟨(List.getElem?_eq_some_iff.1 hc).1, by rw [drop_at hc, List.takeWhile_cons, if_pos h, List.length_cons]; omega⟩
theorem sp_stop {b : Bool} (h : ¬ spAt b l k = true) : ((l.drop k).takeWhile (spnB b)).length = 0 := by
  unfold spAt at h
  cases hc : l[k]? with
  | none => rw [List.drop_eq_nil_of_le (by have := List.getElem?_eq_none_iff.1 hc; omega)]; rfl
  | some c => rw [hc] at h; rw [drop_at hc, List.takeWhile_cons, if_neg h]; rfl
theorem take_tw {p : UInt8 → Bool} (u : Str) : u.take (u.takeWhile p).length = u.takeWhile p := by
  induction u with
  | nil => rfl
  | cons c u ih =>
    rw [List.takeWhile_cons]
    split
    · rw [List.length_cons, List.take_succ_cons, ih]
    · rfl
theorem word_sp (u : Str) : u.takeWhile (spnB true) = wordL u := by
  unfold wordL; congr 1; funext c; simp [spnB, Bool.or_comm]
theorem dig_sp (u : Str) : u.takeWhile (spnB false) = digL u := by
  unfold digL; congr 1; funext c; simp [spnB]
theorem tw_le {p : UInt8 → Bool} (u : Str) : (u.takeWhile p).length ≤ u.length := take_le u
-- the token at a head
variable {u r : Str}
theorem let_no (h : ¬ (97 ≤ (c.toNat : Int) ∧ (c.toNat : Int) ≤ 122)) : letB c = false := by rw [Bool.eq_false_iff, ne_eq, let_iff]; exact h
theorem dig_no (h : ¬ (48 ≤ (c.toNat : Int) ∧ (c.toNat : Int) ≤ 57)) : digB c = false := by rw [Bool.eq_false_iff, ne_eq, dig_iff]; exact h
theorem rdS_end (h : (k : Int) = (l.length : Int)) : rdS (l.drop k) = ((0, [], 0), 0) := by rw [List.drop_eq_nil_of_le O]; rfl
theorem drop_cons (h : ¬ (k : Int) = (l.length : Int)) (hk : k ≤ l.length) : ∃ c r, l.drop k = c :: r := List.exists_cons_of_ne_nil (by intro h0; have := List.drop_eq_nil_iff.1 h0; omega)
theorem word_le : (wordL (l.drop k)).length ≤ l.length := by have := take_le (p := fun x => letB x || digB x) (l.drop k); rw [List.length_drop] at this; unfold wordL; omega
theorem dig_le : (digL (l.drop k)).length ≤ l.length := by have := take_le (p := digB) (l.drop k); rw [List.length_drop] at this; unfold digL; omega
theorem rdS_word (hu : u = c :: r) (hc : 97 ≤ (c.toNat : Int) ∧ (c.toNat : Int) ≤ 122) : rdS u = if (kwB (wordL u) || identB (wordL u)) = true then ((1, wordL u, 0), (wordL u).length) else ((4, [], 0), 0) := by
  subst hu; rw [rdS, if_pos (let_iff.2 hc)]
theorem rdS_num (hu : u = c :: r) (hl : ¬ (97 ≤ (c.toNat : Int) ∧ (c.toNat : Int) ≤ 122)) (hc : 48 ≤ (c.toNat : Int) ∧ (c.toNat : Int) ≤ 57) : rdS u = match numL (digL u) with
      | some n => ((2, digL u, (n : Int)), (digL u).length)
      | none => ((4, [], 0), 0) := by
  subst hu; rw [rdS, let_no hl, dig_iff.2 hc]
  simp only [Bool.false_eq_true, if_false, if_true]
  all_goals (cases numL (digL (c :: r)) <;> rfl)
theorem rdS_chr (hu : u = c :: r) (hc : (c.toNat : Int) = 39) : rdS u = if chrB u = true then ((2, u.take 3, ((u.getD 1 0).toNat : Int)), 3) else ((4, [], 0), 0) := by
  subst hu
  obtain rfl : c = 39 := (byte_eq (n := 39) (by decide)).1 hc
  rw [rdS]; rfl
theorem rdS_sign (hu : u = c :: r) (hl : ¬ (97 ≤ (c.toNat : Int) ∧ (c.toNat : Int) ≤ 122)) (hd : ¬ (48 ≤ (c.toNat : Int) ∧ (c.toNat : Int) ≤ 57)) (hc : ¬ (c.toNat : Int) = 39) : rdS u = match signsP.find? fun x => x.isPrefixOf u with
      | some x => ((3, x, 0), x.length)
      | none => ((4, [], 0), 0) := by
  subst hu
  rw [rdS, let_no hl, dig_no hd]
  simp only [Bool.false_eq_true, if_false]
  rw [if_neg (by rintro rfl; exact hc (by decide))]
  all_goals (cases signsP.find? (fun x => x.isPrefixOf (c :: r)) <;> rfl)
theorem chr_short (h : ¬ 3 ≤ (u.length : Int)) : ¬ chrB u = true := by
  simp only [chrB, Bool.and_eq_true, decide_eq_true_eq]; omega
theorem chr_len (h : chrB u = true) : 3 ≤ u.length := by simp only [chrB, Bool.and_eq_true, decide_eq_true_eq] at h; exact h.1.1.1.1.1
theorem chr_iff {a b : UInt8} (h1 : u[1]? = some a) (h2 : u[2]? = some b) : chrB u = true ↔ (b.toNat : Int) = 39 ∧ 32 ≤ (a.toNat : Int) ∧ (a.toNat : Int) ≤ 126 ∧ ¬ (a.toNat : Int) = 39 ∧ ¬ (a.toNat : Int) = 92 := by
  have e1 : u.getD 1 0 = a := by rw [List.getD_eq_getElem?_getD, h1]; rfl
  have e2 : u.getD 2 0 = b := by rw [List.getD_eq_getElem?_getD, h2]; rfl
  have hl : 3 ≤ u.length := by have := (List.getElem?_eq_some_iff.1 h2).1; omega
  have b39 := byte_eq (c := b) (n := 39) (by decide)
  have a39 := byte_eq (c := a) (n := 39) (by decide)
  have a92 := byte_eq (c := a) (n := 92) (by decide)
  have k1 : (32 : UInt8) ≤ a ↔ 32 ≤ (a.toNat : Int) := by rw [UInt8.le_iff_toNat_le]; show 32 ≤ a.toNat ↔ _; omega
  have k2 : a ≤ 126 ↔ (a.toNat : Int) ≤ 126 := by rw [UInt8.le_iff_toNat_le]; show a.toNat ≤ 126 ↔ _; omega
  simp only [chrB, e1, e2, Bool.and_eq_true, decide_eq_true_eq, k1, k2, ne_eq]
  rw [show ((39 : Nat) : Int) = 39 from rfl] at b39 a39
  rw [show ((92 : Nat) : Int) = 92 from rfl] at a92
  rw [b39, a39, a92]
  exact ⟨fun h => ⟨h.1.1.1.1.2, h.1.1.1.2, h.1.1.2, h.1.2, h.2⟩, fun h => ⟨⟨⟨⟨⟨hl, h.1⟩, h.2.1⟩, h.2.2.1⟩, h.2.2.2.1⟩, h.2.2.2.2⟩⟩
theorem num_at {n : Nat} {w : Str} (h : Lib.parseUintB 32 w = .ok n) : numL w = if Lib.decDigits n = w then some n else none := by
  by_cases hd : Lib.decDigits n = w
  · rw [if_pos hd]; exact (parse_num w n).1 ⟨h, hd⟩
  · rw [if_neg hd]
    cases hn : numL w with
    | none => rfl
    | some v =>
      obtain ⟨h1, h2⟩ := (parse_num w v).2 hn
      rw [h] at h1
      injection h1 with h1
      subst h1
      exact absurd h2 hd
theorem find_hit {x : Str} (hk : signsP[k]? = some x) (hx : x.isPrefixOf u = true) (hb : ∀ j y, j < k → signsP[j]? = some y → y.isPrefixOf u = false) : signsP.find? (fun x => x.isPrefixOf u) = some x := by
  obtain ⟨h1, h2⟩ := List.getElem?_eq_some_iff.1 hk
  refine List.find?_eq_some_iff_getElem.2 ⟨hx, k, h1, h2, fun j hj => ?_⟩
  rw [hb j _ hj (List.getElem?_eq_getElem O)]; rfl
theorem find_miss (hb : ∀ j y, j < 29 → signsP[j]? = some y → y.isPrefixOf u = false) : signsP.find? (fun x => x.isPrefixOf u) = none := by
  refine List.find?_eq_none.2 fun x hx => ?_
  obtain ⟨j, hj, rfl⟩ := List.getElem_of_mem hx
  rw [hb j _ (by have : signsP.length = 29 := rfl; omega) (List.getElem?_eq_getElem hj)]; decide
open Go.FL
attribute [local irreducible] JC JO JA JB thenQ blockQ retQ AC fill CellsAt QE Ev Mid
theorem fnok_hpre : FnOK Tryz.prog 88 := ⟨_, Tryz.func88, by kernel_rfl, by kernel_rfl⟩
theorem hasPre_ac (D : Nat) (L : Hl) (s : World) (l p : List UInt8) : AC Tryz.prog D 88 [St l, St p] L s fun v L' _ => v = .bool (p.isPrefixOf l) ∧ L = L' :=
  AC.of_calls fnok_hpre fun _ => (Any.strings_HasPrefix Tryz.lays99 ⟨l.toArray⟩ ⟨p.toArray⟩ (fill L s)).mono fun e w' ⟨he, hw⟩ => by
    refine ⟨_, he, by rw [hw]; exact below_refl _, fun s' _ _ _ => ⟨?_, Z⟩⟩
    show Value.bool (Lib.hasPrefix l p) = _
    rfl
theorem errT : Tryz.prog.underlying 124 = some (.interface (Tryz.prog.methodsAt 124)) := by kernel_rfl
theorem parseE_ac (D : Nat) (L : Hl) (s : World) (hG : GW s) (l : List UInt8) (hl : l.length ≤ 281474976710656) : AC Tryz.prog D 87 [St l, .int .i64 10, .int .i64 32] L s fun v L' _ => L = L' ∧ ∃ n e b, v = .tuple #[.int .u64 n, e] ∧ EqNil e b ∧ (b = true → ∃ u : Nat, n = (u : Int) ∧ Lib.parseUintB 32 l = .ok u) ∧ (b = false → ∀ u, Lib.parseUintB 32 l ≠ .ok u) :=
  (parse_ac D L s hG l hl).mono fun v L' s' _ ⟨hv, hL⟩ => by
    refine ⟨hL, ?_⟩
    cases hv with
    | ok u h => exact ⟨_, _, true, rfl, .inl ⟨rfl, rfl⟩, fun _ => ⟨u, rfl, h⟩, fun h => by cases h⟩
    | bad h n t p => exact ⟨_, _, false, rfl, .inr ⟨_, _, rfl, rfl⟩, (fun h => by cases h), fun _ => h⟩
theorem skip_ac (D : Nat) (L : Hl) (s : World) (l : List UInt8) (a : Nat) (ha : a ≤ l.length) (hl : l.length ≤ 1100000) : AC Tryz.prog D 60 [St l, .int .i64 (a : Int)] L s fun v L' _ => v = .int .i64 ((a + skL false (l.drop a) : Nat) : Int) ∧ L = L' := by
 refine AC_enter (TT := TT) (fn := Tryz.f60) TT_ok Tryz.func60 V Z Tryz.ntmps60 Z (rs := [.tmp 4]) Z [(0, _), (1, _)] Z <| Sr <| At Z Z <| Zs <| Zp <| JC_loop (γ := Nat) (fun k => [(0, _), (1, .int .i64 (k : Int)), (4, _)]) (fun _ => _) (fun k tw => Le D s tw ∧ (k ≤ l.length ∧ k + skL false (l.drop k) = a + skL false (l.drop a))) (fun k => l.length - k) (fun _ _ _ h hl => ⟨h.1.trans hl, h.2⟩) a (.cons Z (.cons Z (.cons Z (.nil _)))) Z ⟨Le.refl _, ⟨ha, Z⟩⟩ ?_
 intro k s1 I1
 obtain ⟨hk1, hk2⟩ := I1.2
 refine Zs <| Sr <| Zqm Z Z <| Zqm Z Z <| Zqlt2 Z Z Z Z <| Zqlt Z Z Z <| Nt <| ?_
 refine JC_ifD Z (fun c2 => ?_) (fun c2 => ?_)
 ·
  refine Zk <| Zt <| Zp <| Sr <| Zqm Z Z <| Zqm Z Z <| ?_
  obtain ⟨ch, hch⟩ : ∃ ch, l[k]? = some ch := ⟨_, List.getElem?_eq_getElem O⟩
  refine JO_q (QE_ix Z Z Z Z hch) Z <| Nt <| Zp <| ?_
  refine JC_cutG (γ := Unit) (fun _ => [(14, .bool (decide ((ch.toNat : Int) = 32 ∨ (ch.toNat : Int) = 9 ∨ (ch.toNat : Int) = 10)))]) [] Z (fun g => L) (fun g tw => True) (fun _ _ _ h hl => h) ?_ ?_
  ·
   refine Sr <| Zqeq Z Z Z <| At Z Z <| ?_
   refine JC_ifD Z (fun c4 => ?_) (fun c4 => ?_)
   ·
    have hst := skL_sp hch O
    refine Zk ?_
    refine thenQ_n (MidG.mk () [] (Lr D) (.cons (by first | rfl | exact congrArg (fun b => some (Value.bool b)) (decide_eq_true O).symm | exact congrArg (fun b => some (Value.bool b)) (decide_eq_false O).symm | exact congrArg (fun b => some (Value.bool b)) (decide_eq_decide.2 O)) (.nil _)) So (List.Perm.refl _) trivial)
   refine Sr <| Zqeq Z Z Z <| At Z Z <| ?_
   refine JC_ifD Z (fun c5 => ?_) (fun c5 => ?_)
   ·
    have hst := skL_sp hch O
    refine Zk ?_
    refine thenQ_n (MidG.mk () [] (Lr D) (.cons (by first | rfl | exact congrArg (fun b => some (Value.bool b)) (decide_eq_true O).symm | exact congrArg (fun b => some (Value.bool b)) (decide_eq_false O).symm | exact congrArg (fun b => some (Value.bool b)) (decide_eq_decide.2 O)) (.nil _)) So (List.Perm.refl _) trivial)
   refine Zr <| Zqeq Z Z Z <| Zqa Z Z <| Zn <| ?_
   refine thenQ_n (MidG.mk () [] (Lr D) (.cons (by first | rfl | exact congrArg (fun b => some (Value.bool b)) (decide_eq_true O).symm | exact congrArg (fun b => some (Value.bool b)) (decide_eq_false O).symm | exact congrArg (fun b => some (Value.bool b)) (decide_eq_decide.2 O)) (.nil _)) So (List.Perm.refl _) trivial)
  intro g s3 h3 I3
  simp only [cQ9, nQ9]
  refine JC_ifD Z (fun c6 => ?_) (fun c6 => ?_)
  ·
   have hst := skL_sp hch O
   refine Zr <| Zqm Z Z <| JO_q (QE_add' (c := ((k + 1 : Nat) : Int)) Z Z (by rw [w64 O O]; omega)) Z <| Zqa Z Z <| Zn <| Zb <| Zb <| ?_
   refine thenQ_n ⟨k + 1, [], kp, Z, ⟨(I1.1.t h3), ⟨by omega, by omega⟩⟩, O⟩
  refine Sr <| Zqeq Z Z Z <| At Z Z <| ?_
  refine JC_ifD Z (fun c7 => ?_) (fun c7 => ?_)
  ·
   refine Sr <| Zqm Z Z <| Zqm Z Z <| JO_q (QE_stL Z Z Z Z O) Z <| Jc Z Z Z (ixByte_ac D _ _ (l.drop k) 10) ?_
   rintro _ _ s8 h8 ⟨rfl, rfl⟩
   refine At Z Z <| Zs <| Sr <| Zqm Z Z <| Zqlt Z Z Z <| Nt <| ?_
   refine JC_ifD Z (fun c9 => ?_) (fun c9 => ?_)
   ·
    have hfd := fnd_neg c9
    have hend : a + skL false (l.drop a) = l.length := by rw [← hk2]; exact skL_hash0 hch As hfd
    refine Sr <| Zqm Z Z <| Zqlt2 Z Z Z Z <| At Z Z <| Zo <| Zu <| Zc <| Zc <| Zu <| Zc <| Zu <| ?_
    refine retQ_mk [] L (.inr Z) (.tmp Z (.nil)) Z (I1.1.t h3|>.t h8) (fun sR hS2 => ?_)
    exact ⟨congrArg (fun n : Nat => Value.int .i64 (n : Int)) hend.symm, rfl⟩
   obtain ⟨n, hfd⟩ := fnd_nn c9
   obtain ⟨hst, hn2, hn3⟩ := skL_hash hch As hfd
   refine Zk <| Zt <| Zr <| Zqm Z Z <| Zqm Z Z <| JO_q (QE_add' (c := ((k + n : Nat) : Int)) Z Z (by rw [hfd, show fndI (some n) = (n : Int) from Z, w64 O O]; omega)) Z <| Zqa Z Z <| Zn <| Zb <| Zb <| ?_
   refine thenQ_n ⟨k + n, [], kp, Z, ⟨(I1.1.t h3|>.t h8), ⟨by omega, by omega⟩⟩, O⟩
  have hend : a + skL false (l.drop a) = k := by rw [← hk2]; exact skL_stop hch As c7
  refine Sr <| Zqm Z Z <| At Z Z <| Zo <| Zc <| Zc <| Zu <| Zc <| Zu <| ?_
  refine retQ_mk [] L (.inr Z) (.tmp Z (.nil)) Z (I1.1.t h3) (fun sR hS2 => ?_)
  exact ⟨congrArg (fun n : Nat => Value.int .i64 (n : Int)) hend.symm, rfl⟩
 have hend : a + skL false (l.drop a) = k := by rw [← hk2]; exact skL_end O
 refine Zl <| Zv <| Zv <| Zd <| Zt <| Sr <| Zqm Z Z <| At Z Z <| Zo <| ?_
 refine retQ_mk [] L (.inr Z) (.tmp Z (.nil)) Z I1.1 (fun sR hS2 => ?_)
 exact ⟨congrArg (fun n : Nat => Value.int .i64 (n : Int)) hend.symm, rfl⟩
theorem span_ac (D : Nat) (L : Hl) (s : World) (l : List UInt8) (a : Nat) (b : Bool) (ha : a ≤ l.length) (hl : l.length ≤ 1000000) : AC Tryz.prog D 86 [St l, .int .i64 (a : Int), .bool b] L s fun v L' _ => v = .int .i64 ((((l.drop a).takeWhile (spnB b)).length : Nat) : Int) ∧ L = L' := by
 refine AC_enter (TT := TT) (fn := Tryz.f86) TT_ok Tryz.func86 V Z Tryz.ntmps86 Z (rs := [.tmp 6]) Z [(0, _), (1, _), (2, _)] Z <| Sr <| At Z Z <| Sr <| Zqm Z Z <| At Z Z <| Zs <| Zp ?_
 refine JC_loop (γ := Nat) (fun k => [(0, _), (1, _), (2, _), (6, _), (7, .int .i64 (k : Int))]) (fun _ => _) (fun k tw => Le D s tw ∧ (a ≤ k ∧ k ≤ l.length ∧ k + ((l.drop k).takeWhile (spnB b)).length = a + ((l.drop a).takeWhile (spnB b)).length)) (fun k => l.length - k) (fun _ _ _ h hl => ⟨h.1.trans hl, h.2⟩) a (.cons Z (.cons Z (.cons Z (.cons Z (.cons Z (.nil _)))))) Z ⟨Le.refl _, ⟨Nat.le_refl _, ha, Z⟩⟩ ?_
 intro k s1 I1
 obtain ⟨hk0, hk1, hk2⟩ := I1.2
 refine Zs ?_
 refine JC_cutB 39 (spAt b l k = true) ?_ ?_
 ·
  refine Zr <| Zqm Z Z <| Zqm Z Z <| Zqlt2 Z Z Z Z <| Zqlt Z Z Z <| Zqm Z Z <| ?_
  refine JO_caseD (t := 13) Z (fun c3 => ?_) (fun c3 => ?_)
  ·
   refine Zg Z Z ?_
   obtain ⟨ch, hch⟩ : ∃ ch, l[k]? = some ch := ⟨_, List.getElem?_eq_getElem O⟩
   refine Zqm Z Z <| Zg Z Z <| Zqm Z Z <| Zg Z Z <| JO_q (QE_ix Z Z Z Z hch) Z <| Zg Z Z <| Zqge Z Z Z <| Zg Z Z <| Zqm Z Z <| ?_
   refine JO_caseD (t := 18) Z (fun c4 => ?_) (fun c4 => ?_)
   ·
    refine Zg Z Z <| Zqm Z Z <| Zg Z Z <| Zqm Z Z <| Zg Z Z <| JO_q (QE_ix Z Z Z Z hch) Z <| Zg Z Z <| Zqle Z Z Z <| Zg Z Z <| ZqT Z Z Z <| Zg Z Z <| Zqm Z Z <| ?_
    refine JO_caseD (t := 24) Z (fun c5 => ?_) (fun c5 => ?_)
    ·
     refine Wf Y4 <| Wf Y4 <| Zh Z Z Z <| Zh Z Z Z <| Zh Z Z Z <| Zh Z Z Z <| Wf Y4 <| Wf Y4 <| Zh Z Z Z <| Zh Z Z Z <| Zh Z Z Z <| Zh Z Z Z <| Wf Y4 <| Zg Z Z <| ZqT Z Z Z <| ZqT Z Z Z <| Zn <| ?_
     refine thenQ_n (MidB.mk (Lr D) Sb Z ((decide_eq_true (by first | exact spAt_D hch O | exact spAt_no O | (rw [spAt_T hch As]; omega) | (rw [spAt_F hch As]; omega))).symm))
    refine Zg Z Z <| Zqm Z Z <| Zg Z Z <| Zqm Z Z <| ?_
    refine JO_case (t := 26) Z (fun c6 => ?_) (fun c6 => ?_)
    ·
     refine Zg Z Z <| Zqm Z Z <| Zg Z Z <| Zqm Z Z <| Zg Z Z <| JO_q (QE_ix Z Z Z Z hch) Z <| Zg Z Z <| Zqge Z Z Z <| Zg Z Z <| ZqT Z Z Z <| Zg Z Z <| Zqm Z Z <| ?_
     refine JO_caseD (t := 32) Z (fun c7 => ?_) (fun c7 => ?_)
     ·
      refine Zg Z Z <| Zqm Z Z <| Zg Z Z <| Zqm Z Z <| Zg Z Z <| JO_q (QE_ix Z Z Z Z hch) Z <| Zg Z Z <| Zqle Z Z Z <| Zg Z Z <| ZqT Z Z Z <| Zg Z Z <| ZqF Z Z Z <| ZqT Z Z Z <| Zn <| ?_
      refine thenQ_n (MidB.mk (Lr D) Sb Z (decide_eq_decide.2 (by first | (rw [spAt_T hch As]; omega) | (rw [spAt_F hch As]; omega))))
     refine Wf Y4 <| Wf Y4 <| Wf Y4 <| Wf Y4 <| Zg Z Z <| ZqF Z Z Z <| Zg Z Z <| ZqF Z Z Z <| ZqT Z Z Z <| Zn <| ?_
     refine thenQ_n (MidB.mk (Lr D) Sb Z ((decide_eq_false (by first | exact spAt_D hch O | exact spAt_no O | (rw [spAt_T hch As]; omega) | (rw [spAt_F hch As]; omega))).symm))
    refine Wf Y4 <| Wf Y4 <| Wf Y4 <| Wf Y4 <| Zg Z Z <| ZqF Z Z Z <| Zg Z Z <| Zqm Z Z <| Wf Y4 <| Wf Y4 <| Wf Y4 <| Wf Y4 <| Zg Z Z <| ZqF Z Z Z <| Zg Z Z <| ZqF Z Z Z <| ZqT Z Z Z <| Zn <| ?_
    refine thenQ_n (MidB.mk (Lr D) Sb Z ((decide_eq_false (by first | exact spAt_D hch O | exact spAt_no O | (rw [spAt_T hch As]; omega) | (rw [spAt_F hch As]; omega))).symm))
   refine Wf Y4 <| Wf Y4 <| Wf Y4 <| Wf Y4 <| Zg Z Z <| ZqF Z Z Z <| Zg Z Z <| Zqm Z Z <| Zg Z Z <| Zqm Z Z <| Zg Z Z <| Zqm Z Z <| ?_
   refine JO_case (t := 26) Z (fun c8 => ?_) (fun c8 => ?_)
   ·
    refine Zg Z Z <| Zqm Z Z <| Zg Z Z <| Zqm Z Z <| Zg Z Z <| JO_q (QE_ix Z Z Z Z hch) Z <| Zg Z Z <| Zqge Z Z Z <| Zg Z Z <| ZqT Z Z Z <| Zg Z Z <| Zqm Z Z <| ?_
    refine JO_caseD (t := 32) Z (fun c9 => ?_) (fun c9 => ?_)
    ·
     refine Zg Z Z <| Zqm Z Z <| Zg Z Z <| Zqm Z Z <| Zg Z Z <| JO_q (QE_ix Z Z Z Z hch) Z <| Zg Z Z <| Zqle Z Z Z <| Zg Z Z <| ZqT Z Z Z <| Zg Z Z <| ZqF Z Z Z <| ZqT Z Z Z <| Zn <| ?_
     refine thenQ_n (MidB.mk (Lr D) Sb Z (decide_eq_decide.2 (by first | (rw [spAt_T hch As]; omega) | (rw [spAt_F hch As]; omega))))
    refine Wf Y4 <| Wf Y4 <| Wf Y4 <| Wf Y4 <| Zg Z Z <| ZqF Z Z Z <| Zg Z Z <| ZqF Z Z Z <| ZqT Z Z Z <| Zn <| ?_
    refine thenQ_n (MidB.mk (Lr D) Sb Z ((decide_eq_false (by first | exact spAt_D hch O | exact spAt_no O | (rw [spAt_T hch As]; omega) | (rw [spAt_F hch As]; omega))).symm))
   refine Wf Y4 <| Wf Y4 <| Wf Y4 <| Wf Y4 <| Zg Z Z <| ZqF Z Z Z <| Zg Z Z <| Zqm Z Z <| Wf Y4 <| Wf Y4 <| Wf Y4 <| Wf Y4 <| Zg Z Z <| ZqF Z Z Z <| Zg Z Z <| ZqF Z Z Z <| ZqT Z Z Z <| Zn <| ?_
   refine thenQ_n (MidB.mk (Lr D) Sb Z ((decide_eq_false (by first | exact spAt_D hch O | exact spAt_no O | (rw [spAt_T hch As]; omega) | (rw [spAt_F hch As]; omega))).symm))
  refine Wf Y4 <| Wf Y4 <| Wf Y4 <| Wf Y4 <| Wf Y4 <| Zh Z Z Z <| Zh Z Z Z <| Zh Z Z Z <| Zh Z Z Z <| Wf Y4 <| Wf Y4 <| Zh Z Z Z <| Zh Z Z Z <| Zh Z Z Z <| Zh Z Z Z <| Zh Z Z Z <| Zh Z Z Z <| Zh Z Z Z <| Zh Z Z Z <| Zh Z Z Z <| Zh Z Z Z <| Zh Z Z Z <| Zh Z Z Z <| Zh Z Z Z <| Wf Y4 <| ZqF Z Z Z <| Zn <| ?_
  refine thenQ_n (MidB.mk (Lr D) Sb Z ((decide_eq_false (by first | exact spAt_D hch O | exact spAt_no O | (rw [spAt_T hch As]; omega) | (rw [spAt_F hch As]; omega))).symm))
 intro s2 h2
 refine JC_ifD Z (fun c10 => ?_) (fun c10 => ?_)
 ·
  obtain ⟨hs1, hs2⟩ := sp_step c10
  refine Zk <| Zt <| Zp <| Zr <| Zqm Z Z <| JO_q (QE_add' (c := ((k + 1 : Nat) : Int)) Z Z (by rw [w64 O O]; omega)) Z <| Zqa Z Z <| Zn <| Zb <| ?_
  refine thenQ_n ⟨k + 1, [], kp, Z, ⟨(I1.1.t h2), ⟨by omega, by omega, by omega⟩⟩, O⟩
 have hs0 := sp_stop c10
 refine Zl <| Zv <| Zv <| Zd <| Zt <| Sr <| Zqm Z Z <| Zqm Z Z <| JO_q (QE_sub' (c := ((k - a : Nat) : Int)) Z Z (by rw [w64 O O]; omega)) Z <| At Z Z <| Zo <| ?_
 refine retQ_mk [] L (.inr Z) (.tmp Z (.nil)) Z (I1.1.t h2) (fun sR hS2 => ?_)
 exact ⟨congrArg (fun n : Nat => Value.int .i64 (n : Int)) O, rfl⟩
end Go.Proofs.YtiljephghfngnaaGreatDoor
namespace Go.FL
open Go Go.RowKit Go.Proofs.YtiljephghfngnaaGreatDoor
theorem QE_cast {P : Program} {TT : TyTab} {D : Nat} {fr : Fr} {ty : Nat} {op : Op} {K : Hl} {s0 : World} {v v' : Value} (h : QE P TT D fr op ty K s0 v) (e : v = v') : QE P TT D fr op ty K s0 v' := e ▸ h
end Go.FL
namespace Go.Proofs.YtiljephghfngnaaGreatDoor
open Go Go.FL
open Go.FL
attribute [local irreducible] JC JO JA JB thenQ blockQ retQ AC fill CellsAt QE Ev Mid
def sqT : Str := [60, 60, 32, 62, 62, 32, 61, 61, 32, 33, 61, 32, 60, 61, 32, 62, 61, 32, 38, 38, 32, 124, 124, 32, 43, 32, 45, 32, 42, 32, 47, 32, 37, 32, 38, 32, 124, 32, 94, 32, 126, 32, 33, 32, 60, 32, 62, 32, 61, 32, 40, 32, 41, 32, 91, 32, 93, 32, 123, 32, 125, 32, 44, 32, 59]
theorem sq_flds : Lib.fields sqT = signsP := by decide +kernel
theorem read_ac (D : Nat) (L : Hl) (s : World) (hG : GP s) (l : List UInt8) (a : Nat) (ha : a ≤ l.length) (hl : l.length ≤ 12000) : AC Tryz.prog D 59 [St l, .int .i64 (a : Int)] L s fun v L' _ => v = .tuple #[.agg #[.int .i64 (rdQ l a).1.kind, St (rdQ l a).1.text, .int .u32 (rdQ l a).1.num, .int .i64 (a : Int)], .int .i64 (((rdQ l a).2 : Nat) : Int)] ∧ L = L' := by
 have hwl : (wordL (l.drop a)).length ≤ l.length := word_le
 have hdl : (digL (l.drop a)).length ≤ l.length := dig_le
 refine AC_enter (TT := TT) (fn := Tryz.f59) TT_ok Tryz.func59 V Z Tryz.ntmps59 Z (rs := [.cell 4 67, .tmp 5]) Z [(0, _), (1, _)] Z <| Sr <| JO_allocZ Z [_, _, _, _] Z Z ?_
 intro β1 s1 h1
 refine At Z Z <| Zs <| Sr <| Zqm Z Z <| Zqm Z Z <| Zqlt2 Z Z Z Z <| Zqeq Z Z Z <| Nt <| ?_
 refine JC_ifD Z (fun c2 => ?_) (fun c2 => ?_)
 ·
  have hq := rdS_end c2
  refine Sr <| Zqm Z Z <| JO_q (QE_build [(_, _)] [_, _, _, _] Z Z Z Z Z Z) Z <| Zqm Z Z <| Wt 0 [_, _, _, _] Y9 <| At Z Z <| Zo <| Zu <| ?_
  refine retQ_mk [_] L (.inr Z) (.agg (us := [_, _, _, _]) 0 Z Z Z Z Z (.tmp Z (.nil))) Z h1 (fun sR hS2 => ?_)
  refine ⟨?_, Z⟩
  simp only [rdQ, hq]
  rfl
 obtain ⟨c, r0, hu⟩ := drop_cons c2 ha
 have hc0 : (l.drop a)[0]? = some c := by rw [hu]; rfl
 refine Zk <| Zt <| Sr <| Zqm Z Z <| Zqm Z Z <| JO_q (QE_stL Z Z Z Z O) Z <| At Z Z <| Zs <| Sr <| Zqm Z Z <| JO_q (QE_ix Z Z Z Z hc0) Z <| At Z Z <| Zp <| ?_
 refine JC_cutB 26 (97 ≤ (c.toNat : Int) ∧ (c.toNat : Int) ≤ 122) ?_ ?_
 ·
  refine Zr <| Zqm Z Z <| Zqge Z Z Z <| Zqm Z Z <| ?_
  refine JO_caseD (t := 29) Z (fun c4 => ?_) (fun c4 => ?_)
  ·
   refine Zg Z Z <| Zqm Z Z <| Zg Z Z <| Zqle Z Z Z <| ZqT Z Z Z <| Zqa Z Z <| Zn <| ?_
   refine thenQ_n (MidB.mk (Lr D) Sb Z (decide_eq_decide.2 O))
  refine Wf Y4 <| Wf Y4 <| ZqF Z Z Z <| Zqa Z Z <| Zn <| ?_
  refine thenQ_n (MidB.mk (Lr D) Sb Z ((decide_eq_false O).symm))
 intro s3 h3
 refine JC_ifD Z (fun c5 => ?_) (fun c5 => ?_)
 ·
  have hq := rdS_word hu c5
  refine Sr <| Zqm Z Z <| Zqm Z Z <| Zqm Z Z <| Jc Z Z Z (span_ac D _ _ l a true ha O) ?_
  rintro _ _ s6 h6 ⟨rfl, rfl⟩
  refine JO_q (QE_cast (v' := St (wordL (l.drop a))) (QE_stH Z Z Z Z (by have := tw_le (p := spnB true) (l.drop a); omega)) (congrArg St (by rw [take_tw, word_sp]))) Z <| At Z Z <| Zs <| ?_
  refine JC_cutB 43 ((kwB (wordL (l.drop a)) || identB (wordL (l.drop a))) = true) ?_ ?_
  ·
   refine Zr <| Zqm Z Z <| Jc Z Z Z (keyword_ac D _ _ (hG.le (h1.t h3|>.t h6)) _) ?_
   rintro _ _ s8 h8 ⟨rfl, rfl⟩
   refine Zqm Z Z ?_
   refine JO_case (t := 40) Z (fun c9 => ?_) (fun c9 => ?_)
   ·
    refine Wf Y4 <| Wf Y4 <| ZqT Z Z Z <| Zn <| ?_
    refine thenQ_n (MidB.mk h8 Sb Z ((decide_eq_true (by rw [show kwB (wordL (l.drop a)) = true by assumption]; rfl)).symm))
   refine Zg Z Z <| Zqm Z Z <| Zg Z Z <| Jc Z Z Z (ident_ac D _ _ (hG.le (h1.t h3|>.t h6|>.t h8)) _) ?_
   rintro _ _ s10 h10 ⟨rfl, rfl⟩
   refine ZqF Z Z Z <| Zn <| ?_
   refine thenQ_n (MidB.mk (h8.t h10) Sb Z ((by rw [show kwB (wordL (l.drop a)) = false by assumption, Bool.false_or, Bool.decide_eq_true])))
  intro s7 h7
  refine JC_ifD Z (fun c11 => ?_) (fun c11 => ?_)
  ·
   rw [if_pos c11] at hq
   refine Sr <| Zqm Z Z <| Zqm Z Z <| JO_q (QE_build [(_, _), (_, _), (_, _), (_, _)] [_, _, _, _] Z Z Z Z Z Z) Z <| Zqm Z Z <| Zqm Z Z <| Zqlt2 Z Z Z Z <| JO_q (QE_add' (c := ((a + (wordL (l.drop a)).length : Nat) : Int)) Z Z (by rw [w64 O O]; omega)) Z <| Wt 0 [_, _, _, _] Y9 <| At Z Z <| Zo <| Zu <| Zc <| Zu <| ?_
   refine retQ_mk [_] L (.inr Z) (.agg (us := [_, _, _, _]) 0 Z Z Z Z Z (.tmp Z (.nil))) Z (h1.t h3|>.t h6|>.t h7) (fun sR hS2 => ?_)
   refine ⟨?_, Z⟩
   simp only [rdQ, hq]
   rfl
  rw [if_neg c11] at hq
  refine Zk <| Zt <| Sr <| Zqm Z Z <| JO_q (QE_build [(_, _), (_, _)] [_, _, _, _] Z Z Z Z Z Z) Z <| Zqm Z Z <| Wt 0 [_, _, _, _] Y9 <| At Z Z <| Zo <| Zc <| Zu <| ?_
  refine retQ_mk [_] L (.inr Z) (.agg (us := [_, _, _, _]) 0 Z Z Z Z Z (.tmp Z (.nil))) Z (h1.t h3|>.t h6|>.t h7) (fun sR hS2 => ?_)
  refine ⟨?_, Z⟩
  simp only [rdQ, hq]
  rfl
 refine JC_cutB 54 (48 ≤ (c.toNat : Int) ∧ (c.toNat : Int) ≤ 57) ?_ ?_
 ·
  refine Zr <| Zqm Z Z <| Zqge Z Z Z <| Zqm Z Z <| ?_
  refine JO_caseD (t := 57) Z (fun c13 => ?_) (fun c13 => ?_)
  ·
   refine Zg Z Z <| Zqm Z Z <| Zg Z Z <| Zqle Z Z Z <| ZqT Z Z Z <| Zqa Z Z <| Zn <| ?_
   refine thenQ_n (MidB.mk (Lr D) Sb Z (decide_eq_decide.2 O))
  refine Wf Y4 <| Wf Y4 <| ZqF Z Z Z <| Zqa Z Z <| Zn <| ?_
  refine thenQ_n (MidB.mk (Lr D) Sb Z ((decide_eq_false O).symm))
 intro s12 h12
 refine JC_ifD Z (fun c14 => ?_) (fun c14 => ?_)
 ·
  have hq := rdS_num hu As c14
  refine Sr <| Zqm Z Z <| Zqm Z Z <| Zqm Z Z <| Jc Z Z Z (span_ac D _ _ l a false ha O) ?_
  rintro _ _ s15 h15 ⟨rfl, rfl⟩
  refine JO_q (QE_cast (v' := St (digL (l.drop a))) (QE_stH Z Z Z Z (by have := tw_le (p := spnB false) (l.drop a); omega)) (congrArg St (by rw [take_tw, dig_sp]))) Z <| At Z Z <| Sr <| Zqm Z Z <| Jc Z Z Z (parseE_ac D _ _ ((hG.le (h1.t h3|>.t h12|>.t h15)).gw) (digL (l.drop a)) O) ?_
  rintro _ _ s16 h16 ⟨rfl, n, e, b, rfl, hE, hT, hF⟩
  refine Zqm Z Z <| Zqx Z Z Z <| Zqx Z Z Z <| Zqa Z Z <| At Z Z <| Zs <| Sr <| Zqm Z Z <| JO_q (QE_inil errT Z hE) Z <| Zqm Z Z ?_
  refine JO_case (t := 73) Z (fun c17 => ?_) (fun c17 => ?_)
  ·
   refine Zg Z Z ?_
   obtain ⟨u, rfl, hu2⟩ := hT As
   refine Zqm Z Z <| Zg Z Z <| Jc Z Z Z (fmtU_ac D _ _ ((hG.le (h1.t h3|>.t h12|>.t h15|>.t h16)).gw) u (by have := Lib.parseUintB_le hu2; omega)) ?_
   rintro _ _ s18 h18 ⟨rfl, rfl⟩
   refine Zg Z Z <| Zqm Z Z <| Zg Z Z <| Zqse Z Z Z <| ZqT Z Z Z <| Nt <| ?_
   refine JC_ifD Z (fun c19 => ?_) (fun c19 => ?_)
   ·
    rw [num_at hu2, if_pos c19] at hq
    refine Sr <| Zqm Z Z <| Zqm Z Z <| JO_q (QE_conv' Z Z Z Z Z (wrap_small (by have := Lib.parseUintB_le hu2; omega))) Z <| Zqm Z Z <| JO_q (QE_build [(_, _), (_, _), (_, _), (_, _)] [_, _, _, _] Z Z Z Z Z Z) Z <| Zqm Z Z <| Zqm Z Z <| Zqlt2 Z Z Z Z <| JO_q (QE_add' (c := ((a + (digL (l.drop a)).length : Nat) : Int)) Z Z (by rw [w64 O O]; omega)) Z <| Wt 0 [_, _, _, _] Y9 <| At Z Z <| Zo <| Zu <| Zc <| Zu <| ?_
    refine retQ_mk [_] L (.inr Z) (.agg (us := [_, _, _, _]) 0 Z Z Z Z Z (.tmp Z (.nil))) Z (h1.t h3|>.t h12|>.t h15|>.t h16|>.t h18) (fun sR hS2 => ?_)
    refine ⟨?_, Z⟩
    simp only [rdQ, hq]
    rfl
   first | rw [num_not (hF As)] at hq | rw [num_at hu2, if_neg c19] at hq
   refine Zk <| Zt <| Sr <| Zqm Z Z <| JO_q (QE_build [(_, _), (_, _)] [_, _, _, _] Z Z Z Z Z Z) Z <| Zqm Z Z <| Wt 0 [_, _, _, _] Y9 <| At Z Z <| Zo <| Zc <| Zu <| ?_
   refine retQ_mk [_] L (.inr Z) (.agg (us := [_, _, _, _]) 0 Z Z Z Z Z (.tmp Z (.nil))) Z (h1.t h3|>.t h12|>.t h15|>.t h16|>.t h18) (fun sR hS2 => ?_)
   refine ⟨?_, Z⟩
   simp only [rdQ, hq]
   rfl
  refine Wf Y4 <| Wf Y4 <| Wf Y4 <| Wf Y4 <| ZqF Z Z Z <| Nt <| Zz Z <| ?_
  first | rw [num_not (hF As)] at hq | rw [num_at hu2, if_neg trivial] at hq
  refine Zk <| Zt <| Sr <| Zqm Z Z <| JO_q (QE_build [(_, _), (_, _)] [_, _, _, _] Z Z Z Z Z Z) Z <| Zqm Z Z <| Wt 0 [_, _, _, _] Y9 <| At Z Z <| Zo <| Zc <| Zu <| ?_
  refine retQ_mk [_] L (.inr Z) (.agg (us := [_, _, _, _]) 0 Z Z Z Z Z (.tmp Z (.nil))) Z (h1.t h3|>.t h12|>.t h15|>.t h16) (fun sR hS2 => ?_)
  refine ⟨?_, Z⟩
  simp only [rdQ, hq]
  rfl
 refine Sr <| Zqm Z Z <| Zqeq Z Z Z <| At Z Z <| ?_
 refine JC_ifD Z (fun c20 => ?_) (fun c20 => ?_)
 ·
  have hq := rdS_chr hu c20
  refine Zs ?_
  refine JC_cutB 121 (chrB (l.drop a) = true) ?_ ?_
  ·
   refine Zr <| Zqm Z Z <| Zqlt2 Z Z Z Z <| Zqge Z Z Z <| Zqm Z Z <| ?_
   refine JO_caseD (t := 97) Z (fun c22 => ?_) (fun c22 => ?_)
   ·
    refine Zg Z Z <| Zqm Z Z <| Zg Z Z <| ?_
    obtain ⟨c1, hc1⟩ : ∃ c1, (l.drop a)[1]? = some c1 := ⟨_, List.getElem?_eq_getElem O⟩
    obtain ⟨c2, hc2⟩ : ∃ c2, (l.drop a)[2]? = some c2 := ⟨_, List.getElem?_eq_getElem O⟩
    refine JO_q (QE_ix Z Z Z Z hc2) Z <| Zg Z Z <| Zqeq Z Z Z <| ZqT Z Z Z <| Zqm Z Z <| ?_
    refine JO_caseD (t := 102) Z (fun c23 => ?_) (fun c23 => ?_)
    ·
     refine Zg Z Z <| Zqm Z Z <| Zg Z Z <| JO_q (QE_ix Z Z Z Z hc1) Z <| Zg Z Z <| Zqge Z Z Z <| ZqT Z Z Z <| Zqm Z Z <| ?_
     refine JO_caseD (t := 107) Z (fun c24 => ?_) (fun c24 => ?_)
     ·
      refine Zg Z Z <| Zqm Z Z <| Zg Z Z <| JO_q (QE_ix Z Z Z Z hc1) Z <| Zg Z Z <| Zqle Z Z Z <| ZqT Z Z Z <| Zqm Z Z <| ?_
      refine JO_caseD (t := 112) Z (fun c25 => ?_) (fun c25 => ?_)
      ·
       refine Zg Z Z <| Zqm Z Z <| Zg Z Z <| JO_q (QE_ix Z Z Z Z hc1) Z <| Zg Z Z <| Zqne Z Z Z <| ZqT Z Z Z <| Zqm Z Z <| ?_
       refine JO_caseN (t := 117) Z (fun c26 => ?_) (fun c26 => ?_)
       ·
        refine Zg Z Z <| Zqm Z Z <| Zg Z Z <| JO_q (QE_ix Z Z Z Z hc1) Z <| Zg Z Z <| Zqne Z Z Z <| ZqT Z Z Z <| Zn <| ?_
        refine thenQ_n (MidB.mk (Lr D) Sb Z (ndec_eq (by rw [chr_iff hc1 hc2]; omega)))
       refine Wf Y4 <| Wf Y4 <| Wf Y4 <| ZqF Z Z Z <| Zn <| ?_
       refine thenQ_n (MidB.mk (Lr D) Sb Z ((decide_eq_false (by first | exact chr_short O | (rw [chr_iff hc1 hc2]; omega))).symm))
      refine Wf Y4 <| Wf Y4 <| Wf Y4 <| ZqF Z Z Z <| Zqm Z Z <| Wf Y4 <| Wf Y4 <| Wf Y4 <| ZqF Z Z Z <| Zn <| ?_
      refine thenQ_n (MidB.mk (Lr D) Sb Z ((decide_eq_false (by first | exact chr_short O | (rw [chr_iff hc1 hc2]; omega))).symm))
     refine Wf Y4 <| Wf Y4 <| Wf Y4 <| ZqF Z Z Z <| Zqm Z Z <| Wf Y4 <| Wf Y4 <| Wf Y4 <| ZqF Z Z Z <| Zqm Z Z <| Wf Y4 <| Wf Y4 <| Wf Y4 <| ZqF Z Z Z <| Zn <| ?_
     refine thenQ_n (MidB.mk (Lr D) Sb Z ((decide_eq_false (by first | exact chr_short O | (rw [chr_iff hc1 hc2]; omega))).symm))
    refine Wf Y4 <| Wf Y4 <| Wf Y4 <| ZqF Z Z Z <| Zqm Z Z <| Wf Y4 <| Wf Y4 <| Wf Y4 <| ZqF Z Z Z <| Zqm Z Z <| Wf Y4 <| Wf Y4 <| Wf Y4 <| ZqF Z Z Z <| Zqm Z Z <| Wf Y4 <| Wf Y4 <| Wf Y4 <| ZqF Z Z Z <| Zn <| ?_
    refine thenQ_n (MidB.mk (Lr D) Sb Z ((decide_eq_false (by first | exact chr_short O | (rw [chr_iff hc1 hc2]; omega))).symm))
   refine Wf Y4 <| Wf Y4 <| Wf Y4 <| ZqF Z Z Z <| Zqm Z Z <| Wf Y4 <| Wf Y4 <| Wf Y4 <| ZqF Z Z Z <| Zqm Z Z <| Wf Y4 <| Wf Y4 <| Wf Y4 <| ZqF Z Z Z <| Zqm Z Z <| Wf Y4 <| Wf Y4 <| Wf Y4 <| ZqF Z Z Z <| Zqm Z Z <| Wf Y4 <| Wf Y4 <| Wf Y4 <| ZqF Z Z Z <| Zn ?_
   refine thenQ_n (MidB.mk (Lr D) Sb Z ((decide_eq_false (by first | exact chr_short O | (rw [chr_iff hc1 hc2]; omega))).symm))
  intro s21 h21
  refine JC_ifD Z (fun c27 => ?_) (fun c27 => ?_)
  ·
   have hz3 := chr_len c27
   obtain ⟨c1, hc1⟩ : ∃ c1, (l.drop a)[1]? = some c1 := ⟨_, List.getElem?_eq_getElem O⟩
   have e1 : (l.drop a).getD 1 0 = c1 := by rw [List.getD_eq_getElem?_getD, hc1]; rfl
   rw [if_pos c27, e1] at hq
   refine Zs <| JC_drawE drawsMixed 11 Z [0] (by intro x hx; exact eraseAll_mem hx) ?_
   intro s28 h28
   refine za 0 Z (QE_mv Z) Z <| za 1 Z (QE_stH Z Z Z Z O) Z <| za 2 Z (QE_mv Z) Z <| za 3 Z (QE_ix Z Z Z Z hc1) Z <| za 4 Z (QE_conv' Z Z Z Z Z (wrap_small (by have := c1.toNat_lt; omega))) Z <| za 5 Z (QE_mv Z) Z <| za 6 Z (QE_build [(_, _), (_, _), (_, _), (_, _)] [_, _, _, _] Z Z Z Z Z Z) Z <| za 7 Z (QE_mv Z) Z <| za 8 Z (QE_add' (c := ((a + 3 : Nat) : Int)) Z Z (by rw [w64 O O]; omega)) Z <| JA_1 9 V <| Wu Z trivial 0 [_, _, _, _] Y9 (fun _ hx => sub_mem (sbE _) hx) <| za 10 Z (QE_as Z) Z <| JA_done V <| Zt <| Zo <| Zu <| Zc <| Zu <| ?_
   refine retQ_mk [_] L (.inr Z) (.agg (us := [_, _, _, _]) 0 Z Z Z Z Z (.tmp Z (.nil))) Z (h1.t h3|>.t h12|>.t h21|>.t h28) (fun sR hS2 => ?_)
   refine ⟨?_, Z⟩
   simp only [rdQ, hq]
   rfl
  rw [if_neg c27] at hq
  refine Zk <| Zt <| Sr <| Zqm Z Z <| JO_q (QE_build [(_, _), (_, _)] [_, _, _, _] Z Z Z Z Z Z) Z <| Zqm Z Z <| Wt 0 [_, _, _, _] Y9 <| At Z Z <| Zo <| Zc <| Zu <| ?_
  refine retQ_mk [_] L (.inr Z) (.agg (us := [_, _, _, _]) 0 Z Z Z Z Z (.tmp Z (.nil))) Z (h1.t h3|>.t h12|>.t h21) (fun sR hS2 => ?_)
  refine ⟨?_, Z⟩
  simp only [rdQ, hq]
  rfl
 have hq := rdS_sign hu As As c20
 refine Zk <| Zb <| Zt <| Zs <| Sr <| Jc Z Z Z (fieldsP_ac D _ _ (hG.le (h1.t h3|>.t h12)) sqT signsP sq_flds (by decide +kernel) (by decide) (by decide) (by decide)) ?_
 rintro _ _ s29 h29 ⟨rfl, Ak, nk, ck, rfl, hK⟩
 have hnk : nk = 29 := hK.1
 refine Ws Y4 <| Zqm Z Z <| Nt <| Zp <| JC_loop (γ := Nat) (fun k => [(1, _), (4, _), (5, _), (6, _), (134, _), (135, _), (136, .int .i64 (k : Int))]) (fun _ => _) (fun k tw => Le D s29 tw ∧ (k ≤ 29 ∧ ∀ j y, j < k → signsP[j]? = some y → y.isPrefixOf (l.drop a) = false)) (fun k => 29 - k) (fun _ _ _ h hl => ⟨h.1.trans hl, h.2⟩) 0 (.cons Z (.cons Z (.cons Z (.cons Z (.cons Z (.cons Z (.cons Z (.nil _)))))))) Z ⟨Le.refl _, ⟨by omega, fun j y h => by omega⟩⟩ ?_
 intro k s30 I30
 obtain ⟨hk1, hb⟩ := I30.2
 refine Sr <| Zqlt Z Z Z <| Nt <| Zs <| ?_
 refine JC_ifD Z (fun c31 => ?_) (fun c31 => ?_)
 ·
  refine Zk <| Zt <| Zs <| Zp <| Sr <| ?_
  obtain ⟨bk, ok, xk, rfl, hxk, hck, _⟩ := Strs.at_ hK (show k < nk by omega)
  refine JO_q (QE_ia1 Z Z Z Z Z Z (show k < nk by omega)) Z <| JO_q (QE_ldsR0 Z Z Z (hck.le I30.1) Z) Z <| At Z Z <| Sr <| Zqm Z Z <| Zqm Z Z <| Jc Z Z Z (hasPre_ac D _ _ _ _) ?_
  rintro _ _ s32 h32 ⟨rfl, rfl⟩
  refine Nt <| ?_
  refine JC_if Z (fun c33 => ?_) (fun c33 => ?_)
  ·
   have hxl := (List.isPrefixOf_iff_prefix.1 c33).length_le
   rw [List.length_drop] at hxl
   rw [find_hit hxk c33 hb] at hq
   refine Sr <| Zqm Z Z <| Zqm Z Z <| JO_q (QE_build [(_, _), (_, _), (_, _), (_, _)] [_, _, _, _] Z Z Z Z Z Z) Z <| Zqm Z Z <| Zqm Z Z <| Zqlt2 Z Z Z Z <| JO_q (QE_add' (c := ((a + xk.length : Nat) : Int)) Z Z (by rw [w64 O O]; omega)) Z <| Wt 0 [_, _, _, _] Y9 <| At Z Z <| Zo <| Zc <| Zu <| Zu <| Zc <| Zu <| ?_
   refine retQ_mk [_] L (.inr Z) (.agg (us := [_, _, _, _]) 0 Z Z Z Z Z (.tmp Z (.nil))) Z (h1.t h3|>.t h12|>.t h29|>.t I30.1|>.t h32) (fun sR hS2 => ?_)
   refine ⟨?_, Z⟩
   simp only [rdQ, hq]
   rfl
  have hxf := c33
  refine Zk <| Zb <| Zt <| Zr <| JO_q (QE_add' (c := ((k + 1 : Nat) : Int)) Z Z (by rw [w64 O O]; omega)) Z <| Zqm Z Z <| Zn <| ?_
  refine thenQ_n ⟨k + 1, [], kp, Z, ⟨(I30.1.t h32), ⟨by omega, fun j y hj hy => by
    rcases (show j < k ∨ j = k by omega) with h | rfl
    · exact hb j y h hy
    · rw [hxk] at hy; injection hy with hy; rw [← hy]; exact hxf⟩⟩, O⟩
 rw [find_miss fun j y hj => hb j y O] at hq
 refine Zl <| Zv <| Zv <| Zd <| Zt <| Sr <| Zqm Z Z <| JO_q (QE_build [(_, _), (_, _)] [_, _, _, _] Z Z Z Z Z Z) Z <| Zqm Z Z <| Wt 0 [_, _, _, _] Y9 <| At Z Z <| Zo <| ?_
 refine retQ_mk [_] L (.inr Z) (.agg (us := [_, _, _, _]) 0 Z Z Z Z Z (.tmp Z (.nil))) Z (h1.t h3|>.t h12|>.t h29|>.t I30.1) (fun sR hS2 => ?_)
 refine ⟨?_, Z⟩
 simp only [rdQ, hq]
 rfl
end Go.Proofs.YtiljephghfngnaaGreatDoor
namespace Go.FL
open Go Go.RowKit
section
variable {P : Program} {TT : TyTab} {D n : Nat} {Q : APost} {fr : Fr} {L K : Hl} {s s0 : World} {ops : Array Oper} {rest : List Oper} {d ty : Nat} {pos : String} {af : Array Edge} {v : Value} {g : Option (Nat × Bool)} {fuel : Nat} {listed : Array Bool}
def AP (P : Program) (D : Nat) (f : FuncId) (args : List Value) (L : Hl) (s : World) (R : Value → Hl → World → Prop) (X : List PanicEntry → Hl → World → Prop) : Prop :=
  FnOK P f ∧ (OKL D L s → Calls P f args.toArray (fill L s) fun e w' => ∃ L' s', w' = fill L' s' ∧ OKL D L' s' ∧ Le D s s' ∧ ((∃ v, e = .returned v ∧ R v L' s') ∨ ∃ ch, e = .panicked ch ∧ X ch L' s'))
theorem AP.ac {f : FuncId} {args : List Value} {R : Value → Hl → World → Prop} {X : List PanicEntry → Hl → World → Prop} (h : AP P D f args L s R X) (hX : ∀ ch L' s', Le D s s' → ¬ X ch L' s') : AC P D f args L s R :=
  ⟨h.1, fun ho => (h.2 ho).mono fun _ _ ⟨L', s', h2, h3, h4, h5⟩ => by
    rcases h5 with ⟨v, h1, h5⟩ | ⟨ch, _, h⟩
    · exact ⟨v, L', s', h1, h2, h3, h4, h5⟩
    · exact (hX _ _ _ h4 h).elim⟩
theorem AP.mono {f : FuncId} {args : List Value} {R R' : Value → Hl → World → Prop} {X X' : List PanicEntry → Hl → World → Prop} (h : AP P D f args L s R X) (hr : ∀ v L' s', Le D s s' → R v L' s' → R' v L' s') (hx : ∀ ch L' s', Le D s s' → X ch L' s' → X' ch L' s') : AP P D f args L s R' X' :=
  ⟨h.1, fun ho => (h.2 ho).mono fun _ _ ⟨L', s', h2, h3, h4, h5⟩ => ⟨L', s', h2, h3, h4, h5.imp (fun ⟨v, a, b⟩ => ⟨v, a, hr _ _ _ h4 b⟩) fun ⟨ch, a, b⟩ => ⟨ch, a, hx _ _ _ h4 b⟩⟩⟩
theorem JO_callP {f : FuncId} {x : Operand} {xs : List Operand} {first captured vs : List Value} {ts : Array TypeId} {R : Value → Hl → World → Prop} {X : List PanicEntry → Hl → World → Prop} (hx : lk fr x = some (.func (.func f) first.toArray captured.toArray)) (hv : lks fr xs = some vs)
    (hd : Nat.blt d n = true) (h : AP P D f (first ++ vs ++ captured) L s R X) (kx : ∀ ch L' s', Le D s s' → X ch L' s' → ∀ fr', Q (.panic ch) fr' L' s') (k : ∀ v L' s', Le D s s' → R v L' s' → JO P TT D n ops Q rest ((d, v) :: fr) L' s') :
    JO P TT D n ops Q (⟨some d, .call { callee := .value x, args := xs.toArray, argTypes := ts }, ty, pos, af, none⟩ :: rest) fr L s := fun hT a hr ho => by
  obtain ⟨⟨fn, h1, h2, h3⟩, hc⟩ := h
  have hρ : ∀ x v, lk fr x = some v → a.eval x = v := fun x v hx => hr.ev hx
  simp only [wpList, Region.wanted, if_true]
  refine .inl ?_
  have hrun : (execOp a.eval ⟨some d, .call { callee := .value x, args := xs.toArray, argTypes := ts }, ty, pos, af, none⟩).run P (fill L s) = .ok (.enter f (first ++ vs ++ captured).toArray) (fill L s) := by
    have h2' : ¬ fn.name = "runtime.NumGoroutine" := by simpa using h2
    have h3' : ¬ fn.body = none := by intro e; simp [e] at h3
    simp [execOp, resolve, Deferred.ofValue, invoke, callFunc, hρ x _ hx, lks_map hρ hv, h1, h2', h3']
  simp only [Oper.wp, hrun, Oper.upon]
  refine (hc ho).mono ?_
  rintro e w' ⟨L', s', rfl, h4, h5, h6⟩
  rcases h6 with ⟨v, rfl, h6⟩ | ⟨ch, rfl, h6⟩
  · exact k v L' s' h5 h6 hT _ (hr.put hd v) h4
  · exact ⟨fr, L', s', hr, h4, rfl, kx _ _ _ h5 h6 fr⟩
theorem JB_callP {i : Nat} {f : FuncId} {x : Operand} {xs : List Operand} {first captured vs : List Value} {ts : Array TypeId} {R : Value → Hl → World → Prop} {X : List PanicEntry → Hl → World → Prop} (hi : ops[i]? = some ⟨some d, .call { callee := .value x, args := xs.toArray, argTypes := ts }, ty, pos, af, g⟩) (hg : GOK ops fr g)
    (hx : lk fr x = some (.func (.func f) first.toArray captured.toArray)) (hv : lks fr xs = some vs) (hd : Nat.blt d n = true) (h : AP P D f (first ++ vs ++ captured) L s R X) (kx : ∀ ch L' s', Le D s s' → X ch L' s' → ∀ fr', Q (.panic ch) fr' L' s')
    (k : ∀ v L' s', Le D s s' → R v L' s' → (∀ x ∈ K, x ∈ L → x ∈ L') ∧ JA P TT D n ops Q K s0 fuel (listed.setIfInBounds i true) ((d, v) :: fr) L' s') :
    JB P TT D n ops Q K s0 fuel listed i fr L s := fun hT a hf ho hl hK => by
  obtain ⟨⟨fn, h1, h2, h3⟩, hc⟩ := h
  have hρ : ∀ x v, lk fr x = some v → a.eval x = v := fun x v hx => hf.ev hx
  simp only [wpOp, hi, hg.wanted hf, if_true]
  refine .inl ?_
  have hrun : (execOp a.eval ⟨some d, .call { callee := .value x, args := xs.toArray, argTypes := ts }, ty, pos, af, g⟩).run P (fill L s) = .ok (.enter f (first ++ vs ++ captured).toArray) (fill L s) := by
    have h2' : ¬ fn.name = "runtime.NumGoroutine" := by simpa using h2
    have h3' : ¬ fn.body = none := by intro e; simp [e] at h3
    simp [execOp, resolve, Deferred.ofValue, invoke, callFunc, hρ x _ hx, lks_map hρ hv, h1, h2', h3']
  simp only [Oper.wp, hrun, Oper.upon]
  refine (hc ho).mono ?_
  rintro e w' ⟨L', s', rfl, h4, h5, h6⟩
  rcases h6 with ⟨v, rfl, h6⟩ | ⟨ch, rfl, h6⟩
  · obtain ⟨k1, k2⟩ := k v L' s' h5 h6
    have hK2 : ∀ x ∈ K, x ∈ L' := fun x hx => k1 x hx (hK x hx)
    exact ⟨⟨L', s', rfl, h4, hl.trans h5, hK2⟩, k2 hT _ (hf.put hd v) h4 (hl.trans h5) hK2⟩
  · exact ⟨hf.bare, L', s', h4, rfl, kx _ _ _ h5 h6⟩
theorem AP.mid {f : FuncId} {args : List Value} {R : Value → Hl → World → Prop} {Z : List PanicEntry → Hl → World → Prop} (X M Y : Hl) (h : AP P D f args (M ++ (X ++ Y)) s (fun v L' s' => ∃ M', L' = M' ++ (X ++ Y) ∧ R v M' s') fun ch L' s' => ∃ M', L' = M' ++ (X ++ Y) ∧ Z ch M' s') :
    AP P D f args (X ++ (M ++ Y)) s (fun v L' s' => ∃ M', L' = X ++ (M' ++ Y) ∧ R v M' s') fun ch L' s' => ∃ M', L' = X ++ (M' ++ Y) ∧ Z ch M' s' := by
  have hp : ∀ M' : Hl, (X ++ (M' ++ Y)).Perm (M' ++ (X ++ Y)) := fun M' => by
    rw [← List.append_assoc, ← List.append_assoc]
    exact (List.perm_append_comm).append_right Y
  refine ⟨h.1, fun ho => ?_⟩
  rw [fill_perm (hp M) _ ho]
  refine (h.2 (ho.perm (hp M))).mono ?_
  rintro e w' ⟨L', s', rfl, h3, h4, h5⟩
  rcases h5 with ⟨v, h1, M', rfl, h6⟩ | ⟨ch, h1, M', rfl, h6⟩
  · exact ⟨X ++ (M' ++ Y), s', (fill_perm (hp M').symm _ h3), h3.perm (hp M').symm, h4, .inl ⟨v, h1, M', rfl, h6⟩⟩
  · exact ⟨X ++ (M' ++ Y), s', (fill_perm (hp M').symm _ h3), h3.perm (hp M').symm, h4, .inr ⟨ch, h1, M', rfl, h6⟩⟩
theorem QE_bldE {K : Hl} {t : Nat} (hu : P.underlying t = some (.struct #[])) (hz : (P.info? t).bind (fun i => i.zero) = some (Value.agg #[])) : QE P TT D fr (.build t #[]) ty K s0 (.agg #[]) :=
  QE.pure fun hT dst pos af g ρ hρ w => by
    obtain ⟨i, h1, h2⟩ := Option.bind_eq_some_iff.1 hz
    simp [execOp, Instr.build, underlying, hu, zeroValue, typeInfo, h1, h2, Instr.fill, Value.cells]
theorem QE_max {K : Hl} {x y : Operand} {a b : Int} {k k' : IntKind} {ts : Array TypeId} (hx : lk fr x = some (.int k a)) (hy : lk fr y = some (.int k' b)) : QE P TT D fr (.call { callee := .builtin .max, args := #[x, y], argTypes := ts }) ty K s0 (.int k (if b > a then b else a)) :=
  QE.pure fun hT dst pos af g ρ hρ w => by simp [execOp, resolve, invoke, builtin, Builtin.max_, Builtin.max2, hρ x _ hx, hρ y _ hy]
theorem QE_min {K : Hl} {x y : Operand} {a b : Int} {k k' : IntKind} {ts : Array TypeId} (hx : lk fr x = some (.int k a)) (hy : lk fr y = some (.int k' b)) : QE P TT D fr (.call { callee := .builtin .min, args := #[x, y], argTypes := ts }) ty K s0 (.int k (if b < a then b else a)) :=
  QE.pure fun hT dst pos af g ρ hρ w => by simp [execOp, resolve, invoke, builtin, Builtin.min_, Builtin.min2, hρ x _ hx, hρ y _ hy]
theorem QE_mif {K : Hl} {t : Nat} {x : Operand} {v : Value} (hu : P.underlying t = some (.struct #[])) (hx : lk fr x = some v) : QE P TT D fr (.makeInterface t x) ty K s0 (.iface t v) :=
  QE.pure fun hT dst pos af g ρ hρ w => by simp [execOp, Instr.makeInterface, underlying, hu, hρ x _ hx]
theorem JO_panic {dst : Option Nat} {x : Operand} {t : TypeId} {u : Value} (hx : lk fr x = some (.iface t u)) (h : ∀ fr', Q (.panic [{ v := .iface t u, recovered := false }]) fr' L s) : JO P TT D n ops Q (⟨dst, .panic x, ty, pos, af, none⟩ :: rest) fr L s := fun hT a hr ho => by
  simp only [wpList, Region.wanted, if_true]
  refine .inl ?_
  have hrun : (execOp a.eval ⟨dst, .panic x, ty, pos, af, none⟩).run P (fill L s) = .halt (.panic (.iface t u)) (fill L s) := by
    simp [execOp, hr.ev hx, run_panic_iface]
  simp only [Oper.wp, hrun, Oper.upon]
  exact ⟨fr, L, s, hr, ho, rfl, h fr⟩
def retP (TT : TyTab) (D : Nat) (rs : List ResultVar) (s0 : World) (R : Value → Hl → World → Prop) (X : List PanicEntry → Hl → World → Prop) : APost
  | .panic ch, _, L, s => ∃ A L', L.Perm (A ++ L') ∧ Le D s0 s ∧ ∀ s', Le D s s' → X ch L' s'
  | e, fr, L, s => retQ TT D rs s0 R e fr L s
theorem retP_mk {rs : List ResultVar} {R : Value → Hl → World → Prop} {X : List PanicEntry → Hl → World → Prop} {e : Exit} {vs : List Value} (A L' : Hl) (he : e = .normal ∨ e = .ret) (h : Res TT fr L rs vs) (hL : L = A ++ L') (hl : Le D s0 s) (hR : ∀ s', Le D s s' → R (resV vs) L' s') : retP TT D rs s0 R X e fr L s := by
  rcases he with rfl | rfl
  · exact retQ_mk A L' (.inl rfl) h hL hl hR
  · exact retQ_mk A L' (.inr rfl) h hL hl hR
theorem retP_x {rs : List ResultVar} {R : Value → Hl → World → Prop} {X : List PanicEntry → Hl → World → Prop} {ch : List PanicEntry} (A L' : Hl) (hL : L.Perm (A ++ L')) (hl : Le D s0 s) (hX : ∀ s', Le D s s' → X ch L' s') : retP TT D rs s0 R X (.panic ch) fr L s := ⟨A, L', hL, hl, hX⟩
theorem thenQ_p {J : Fr → Hl → World → Prop} {ch : List PanicEntry} (h : Q (.panic ch) fr L s) : thenQ J Q (.panic ch) fr L s := h
theorem blockQ_p {id : Nat} {ch : List PanicEntry} (h : Q (.panic ch) fr L s) : blockQ id Q (.panic ch) fr L s := h
theorem AP_enter {f : FuncId} {fn : Func} {c : Code} {args : List Value} {R : Value → Hl → World → Prop} {X : List PanicEntry → Hl → World → Prop} (hT : TabOK P TT) (hf : P.funcs[f]? = some fn) (hn : (fn.name == "runtime.NumGoroutine") = false) (hb : fn.body = some c) (hnt : fn.ntmps = n) (hle : Nat.ble args.length n = true) {rs : List ResultVar} (hrs : fn.results.toList = rs) (fr0 : Fr) (hfr : slots 0 args = fr0)
    (h : JC P TT D n (retP TT D rs s R X) c fr0 L s) : AP P D f args L s R X := by
  subst hfr; subst hrs
  refine ⟨⟨fn, hf, hn, by simp [hb]⟩, fun ho => calls_of_wp hf hb ?_⟩
  have hle' : args.length ≤ n := Nat.le_of_ble_eq_true hle
  have hr : FrRel n { tmps := args.toArray ++ Array.replicate (fn.ntmps - args.toArray.size) undef, defers := [] } (slots 0 args) := by
    refine ⟨by simp [hnt]; omega, Z, fun t ht v hv => ?_, fun t v hv => ?_⟩
    · rw [flook_slots] at hv
      simp at hv
      obtain ⟨hlt, _⟩ := List.getElem?_eq_some_iff.1 hv
      simp [Array.getElem?_append, hlt]
      exact (List.getElem?_eq_some_iff.1 hv).2
    · rw [flook_slots] at hv
      simp at hv
      obtain ⟨hlt, _⟩ := List.getElem?_eq_some_iff.1 hv
      omega
  refine wp_mono (h hT _ hr ho) ?_
  rintro e a w ⟨fr', L1, s1, k1, k2, rfl, hq⟩
  have good : ∀ {e : Exit}, retQ TT D fn.results.toList s R e fr' L1 s1 → bodyPost P fn (fun e w' => ∃ L' s', w' = fill L' s' ∧ OKL D L' s' ∧ Le D s s' ∧ ((∃ v, e = .returned v ∧ R v L' s') ∨ ∃ ch, e = .panicked ch ∧ X ch L' s')) e a (fill L1 s1) := by
    rintro e ⟨he, vs, A, L', hres, rfl, hle1, hR⟩
    obtain ⟨d1, d2, d3⟩ := drop_own k2
    have hrun : (results fn a.tmps).run P (fill (A ++ L') s1) = .ok (resV vs) (fill (A ++ L') s1) := by
      have h1 := Res.run hT k1 k2 hres
      have h2 : (fn.results.mapM (resF a.tmps)).run P (fill (A ++ L') s1) = .ok vs.toArray (fill (A ++ L') s1) := by
        rw [Array.mapM_eq_mapM_toList]
        simp only [map_eq_pure_bind, Sem.run_bind, h1, Result.andThen_ok, Sem.run_pure]
      rw [results_eq]
      simp only [Sem.run_bind, h2, Result.andThen_ok, Sem.run_pure]
      congr 1
      match vs with
      | [] => rfl
      | [v] => rfl
      | v :: u :: r => simp [resV]
    have hpost : ∃ v, (results fn a.tmps).run P (fill (A ++ L') s1) = .ok v (fill (A ++ L') s1) ∧ ∃ L'_1 s', fill (A ++ L') s1 = fill L'_1 s' ∧ OKL D L'_1 s' ∧ Le D s s' ∧ ((∃ v_1, Ending.returned v = .returned v_1 ∧ R v_1 L'_1 s') ∨ ∃ ch, Ending.returned v = .panicked ch ∧ X ch L'_1 s') :=
      ⟨_, hrun, L', fill A s1, d1, d2, hle1.trans d3, .inl ⟨_, rfl, hR _ d3⟩⟩
    rcases he with rfl | rfl
    · exact ⟨k1.defers, hpost⟩
    · exact ⟨k1.defers, hpost⟩
  cases e with
  | panic ch =>
    obtain ⟨A, L', hp, hle1, hX⟩ := hq
    obtain ⟨d1, d2, d3⟩ := drop_own (k2.perm hp)
    rw [fill_perm hp _ k2]
    exact ⟨k1.defers, L', fill A s1, d1, d2, hle1.trans d3, .inr ⟨ch, rfl, hX _ d3⟩⟩
  | _ => exact good hq
end
end Go.FL
namespace Go.Proofs.YtiljephghfngnaaGreatDoor
open Go.FL
attribute [local irreducible] JC JO JA JB thenQ blockQ retQ AC fill CellsAt QE Ev Mid
def psv (l : Str) (t : PS) : List Value := [St l, .int .i64 t.next.kind, St t.next.text, .int .u32 t.next.num, .int .i64 (t.next.off : Int), .int .i64 (t.behind : Int)]
def psB (b : Nat) (l : Str) (t : PS) : Nat × Obj := (b, cb (psv l t) 69)
theorem AC.cell {f : FuncId} {args : List Value} {D : Nat} {s : World} {x : Nat × Obj} {R : Value → (Nat × Obj) → Prop} (h : ∀ L, AC Tryz.prog D f args (x :: L) s fun v L' _ => ∃ y, R v y ∧ L' = y :: L) (X L : Hl) : AC Tryz.prog D f args (X ++ x :: L) s fun v L' _ => ∃ y, R v y ∧ L' = X ++ y :: L :=
  (AC.mid (R := fun v M' _ => ∃ y, R v y ∧ M' = [y]) X [x] L ((h (X ++ L)).mono fun v L' s' _ ⟨y, h1, h2⟩ => ⟨[y], h2, y, h1, rfl⟩)).mono fun v L' s' _ ⟨M', h1, y, h2, h3⟩ => ⟨y, h2, by rw [h1, h3]; rfl⟩
def okP (l : Str) (b : Nat) (X L : Hl) {α : Type} (r : PR α) (V : World → α → Value → Prop) (v : Value) (L' : Hl) (s' : World) : Prop := ∃ x t', r = .ok x t' ∧ PG l t' ∧ V s' x v ∧ L' = X ++ psB b l t' :: L
def Pan (ch : List PanicEntry) : Prop := ∃ t u, ch = [{ v := .iface t u, recovered := false }]
def erP (l : Str) (b : Nat) (X L : Hl) {α : Type} (r : PR α) (ch : List PanicEntry) (L' : Hl) (_ : World) : Prop := Pan ch ∧ ∃ t', r = .er t' ∧ PG l t' ∧ L' = X ++ psB b l t' :: L
theorem AP.cell {f : FuncId} {args : List Value} {D : Nat} {s : World} {l : Str} {b : Nat} {t : PS} {α : Type} {r : PR α} {V : World → α → Value → Prop} (h : ∀ L, AP Tryz.prog D f args (psB b l t :: L) s (okP l b [] L r V) (erP l b [] L r)) (X L : Hl) : AP Tryz.prog D f args (X ++ psB b l t :: L) s (okP l b X L r V) (erP l b X L r) :=
  (AP.mid (R := fun v M' s' => ∃ x t', r = .ok x t' ∧ PG l t' ∧ V s' x v ∧ M' = [psB b l t']) (Z := fun ch M' _ => Pan ch ∧ ∃ t', r = .er t' ∧ PG l t' ∧ M' = [psB b l t']) X [psB b l t] L ((h (X ++ L)).mono (fun v L' s' _ ⟨x, t', h1, h2, h3, h4⟩ => ⟨[psB b l t'], h4, x, t', h1, h2, h3, rfl⟩) fun ch L' s' _ ⟨h1, t', h2, h3, h4⟩ => ⟨[psB b l t'], h4, h1, t', h2, h3, rfl⟩)).mono
    (fun v L' s' _ ⟨M', h0, x, t', h1, h2, h3, h4⟩ => ⟨x, t', h1, h2, h3, by rw [h0, h4]; rfl⟩) fun ch L' s' _ ⟨M', h0, h1, t', h2, h3, h4⟩ => ⟨h1, t', h2, h3, by rw [h0, h4]; rfl⟩
theorem and_out {α β : Type} {a : PR α} {k : α → PS → PR β} {r : PR β} (h : r = a.and k) (hr : r ≠ .out) : a ≠ .out := by rintro rfl; exact hr h
theorem bNe {b : Bool} (h : b = false) : ¬ b = true := by rw [h]; decide
theorem adv0_ac (D : Nat) (L : Hl) (s : World) (hG : GP s) (l : List UInt8) (t : PS) (bp : Nat) (hl : l.length ≤ 12000) (hb : t.behind ≤ l.length) : AC Tryz.prog D 32 [.pointer (some ⟨bp, 0, none⟩)] (psB bp l t :: L) s fun v L' _ => ∃ y, y = psB bp l (advP l t) ∧ L' = y :: L := by
 unfold psB psv
 have hsk : t.behind + skL false (l.drop t.behind) ≤ l.length := by have := skL_le false (l.drop t.behind); rw [List.length_drop] at this; omega
 refine AC_enter (TT := TT) (fn := Tryz.f32) TT_ok Tryz.func32 V Z Tryz.ntmps32 Z (rs := []) Z [(0, _)] Z <| JC_drawE drawsMixed 25 Z [0] (by intro x hx; exact eraseAll_mem hx) ?_
 intro s1 h1
 refine za 0 Z (QE_mv Z) Z <| za 1 Z (QE_mv Z) Z <| za 2 Z (QE_mv Z) Z <| za 3 Z (QE_nil Z) Z <| za 4 Z (QE_fa0 Z Z Z Z) Z <| za 6 Z (QE_mv Z) Z <| za 7 Z (QE_nil Z) Z <| za 8 Z (QE_fa0 Z Z Z Z) Z <| za 10 Z (QE_mv Z) Z <| za 11 Z (QE_nil Z) Z <| za 12 Z (We Y4) Z ?_
 refine JA_3 5 9 13 V ?_ ?_ ?_
 ·
  refine JB_q Z trivial (Wd 0 Y5) Z ?_
  refine JA_2 9 13 V ?_ ?_
  ·
   refine JB_q Z trivial (Wd 0 Y5) Z <| JA_1 13 V <| JB_q Z trivial (Wd 0 Y5) Z <| JA_1 14 V <| Jb Z trivial Z Z Z (skip_ac D _ _ l t.behind hb O) ?_
   rintro _ _ s2 h2 ⟨rfl, rfl⟩
   refine ⟨fun _ _ h => h, ?_⟩
   refine JA_1 15 V <| Jb Z trivial Z Z Z (read_ac D _ _ (hG.le (h1.t h2)) l _ hsk hl) ?_
   rintro _ _ s3 h3 ⟨rfl, rfl⟩
   refine ⟨fun _ _ h => h, ?_⟩
   refine za 16 Z (QE_mv Z) Z <| za 17 Z (QE_ext Z Z) Z <| za 18 Z (QE_ext Z Z) Z <| za 19 Z (QE_nil Z) Z <| za 20 Z (We Y4) Z <| JA_1 21 V <| Wu Z trivial 0 [_, _, _, _, _, _] Y9 (fun _ hx => sub_mem (sbE _) hx) <| za 22 Z (QE_nil Z) Z <| za 23 Z (We Y4) Z <| JA_1 24 V <| Wu Z trivial 0 [_, _, _, _, _, _] Y9 (fun _ hx => sub_mem (sbE _) hx) <| JA_done V ?_
   refine retQ_mk [] _ (.inl Z) (.nil) Z (h1.t h2|>.t h3) (fun sR hS2 => ?_)
   exact ⟨_, rfl, rfl⟩
  refine JB_q Z trivial (Wd 0 Y5) Z <| JA_1 9 V <| JB_q Z trivial (Wd 0 Y5) Z <| JA_1 14 V <| Jb Z trivial Z Z Z (skip_ac D _ _ l t.behind hb O) ?_
  rintro _ _ s4 h4 ⟨rfl, rfl⟩
  refine ⟨fun _ _ h => h, ?_⟩
  refine JA_1 15 V <| Jb Z trivial Z Z Z (read_ac D _ _ (hG.le (h1.t h4)) l _ hsk hl) ?_
  rintro _ _ s5 h5 ⟨rfl, rfl⟩
  refine ⟨fun _ _ h => h, ?_⟩
  refine za 16 Z (QE_mv Z) Z <| za 17 Z (QE_ext Z Z) Z <| za 18 Z (QE_ext Z Z) Z <| za 19 Z (QE_nil Z) Z <| za 20 Z (We Y4) Z <| JA_1 21 V <| Wu Z trivial 0 [_, _, _, _, _, _] Y9 (fun _ hx => sub_mem (sbE _) hx) <| za 22 Z (QE_nil Z) Z <| za 23 Z (We Y4) Z <| JA_1 24 V <| Wu Z trivial 0 [_, _, _, _, _, _] Y9 (fun _ hx => sub_mem (sbE _) hx) <| JA_done V ?_
  refine retQ_mk [] _ (.inl Z) (.nil) Z (h1.t h4|>.t h5) (fun sR hS2 => ?_)
  exact ⟨_, rfl, rfl⟩
 ·
  refine JB_q Z trivial (Wd 0 Y5) Z ?_
  refine JA_2 5 13 V ?_ ?_
  ·
   refine JB_q Z trivial (Wd 0 Y5) Z <| JA_1 13 V <| JB_q Z trivial (Wd 0 Y5) Z <| JA_1 14 V <| Jb Z trivial Z Z Z (skip_ac D _ _ l t.behind hb O) ?_
   rintro _ _ s6 h6 ⟨rfl, rfl⟩
   refine ⟨fun _ _ h => h, ?_⟩
   refine JA_1 15 V <| Jb Z trivial Z Z Z (read_ac D _ _ (hG.le (h1.t h6)) l _ hsk hl) ?_
   rintro _ _ s7 h7 ⟨rfl, rfl⟩
   refine ⟨fun _ _ h => h, ?_⟩
   refine za 16 Z (QE_mv Z) Z <| za 17 Z (QE_ext Z Z) Z <| za 18 Z (QE_ext Z Z) Z <| za 19 Z (QE_nil Z) Z <| za 20 Z (We Y4) Z <| JA_1 21 V <| Wu Z trivial 0 [_, _, _, _, _, _] Y9 (fun _ hx => sub_mem (sbE _) hx) <| za 22 Z (QE_nil Z) Z <| za 23 Z (We Y4) Z <| JA_1 24 V <| Wu Z trivial 0 [_, _, _, _, _, _] Y9 (fun _ hx => sub_mem (sbE _) hx) <| JA_done V ?_
   refine retQ_mk [] _ (.inl Z) (.nil) Z (h1.t h6|>.t h7) (fun sR hS2 => ?_)
   exact ⟨_, rfl, rfl⟩
  refine JB_q Z trivial (Wd 0 Y5) Z ?_
  refine JA_2 5 14 V ?_ ?_
  ·
   refine JB_q Z trivial (Wd 0 Y5) Z <| JA_1 14 V <| Jb Z trivial Z Z Z (skip_ac D _ _ l t.behind hb O) ?_
   rintro _ _ s8 h8 ⟨rfl, rfl⟩
   refine ⟨fun _ _ h => h, ?_⟩
   refine JA_1 15 V <| Jb Z trivial Z Z Z (read_ac D _ _ (hG.le (h1.t h8)) l _ hsk hl) ?_
   rintro _ _ s9 h9 ⟨rfl, rfl⟩
   refine ⟨fun _ _ h => h, ?_⟩
   refine za 16 Z (QE_mv Z) Z <| za 17 Z (QE_ext Z Z) Z <| za 18 Z (QE_ext Z Z) Z <| za 19 Z (QE_nil Z) Z <| za 20 Z (We Y4) Z <| JA_1 21 V <| Wu Z trivial 0 [_, _, _, _, _, _] Y9 (fun _ hx => sub_mem (sbE _) hx) <| za 22 Z (QE_nil Z) Z <| za 23 Z (We Y4) Z <| JA_1 24 V <| Wu Z trivial 0 [_, _, _, _, _, _] Y9 (fun _ hx => sub_mem (sbE _) hx) <| JA_done V ?_
   refine retQ_mk [] _ (.inl Z) (.nil) Z (h1.t h8|>.t h9) (fun sR hS2 => ?_)
   exact ⟨_, rfl, rfl⟩
  refine Jb Z trivial Z Z Z (skip_ac D _ _ l t.behind hb O) ?_
  rintro _ _ s10 h10 ⟨rfl, rfl⟩
  refine ⟨fun _ _ h => h, ?_⟩
  refine JA_1 5 V <| JB_q Z trivial (Wd 0 Y5) Z <| JA_1 15 V <| Jb Z trivial Z Z Z (read_ac D _ _ (hG.le (h1.t h10)) l _ hsk hl) ?_
  rintro _ _ s11 h11 ⟨rfl, rfl⟩
  refine ⟨fun _ _ h => h, ?_⟩
  refine za 16 Z (QE_mv Z) Z <| za 17 Z (QE_ext Z Z) Z <| za 18 Z (QE_ext Z Z) Z <| za 19 Z (QE_nil Z) Z <| za 20 Z (We Y4) Z <| JA_1 21 V <| Wu Z trivial 0 [_, _, _, _, _, _] Y9 (fun _ hx => sub_mem (sbE _) hx) <| za 22 Z (QE_nil Z) Z <| za 23 Z (We Y4) Z <| JA_1 24 V <| Wu Z trivial 0 [_, _, _, _, _, _] Y9 (fun _ hx => sub_mem (sbE _) hx) <| JA_done V ?_
  refine retQ_mk [] _ (.inl Z) (.nil) Z (h1.t h10|>.t h11) (fun sR hS2 => ?_)
  exact ⟨_, rfl, rfl⟩
 refine JB_q Z trivial (Wd 0 Y5) Z ?_
 refine JA_2 5 9 V ?_ ?_
 ·
  refine JB_q Z trivial (Wd 0 Y5) Z <| JA_1 9 V <| JB_q Z trivial (Wd 0 Y5) Z <| JA_1 14 V <| Jb Z trivial Z Z Z (skip_ac D _ _ l t.behind hb O) ?_
  rintro _ _ s12 h12 ⟨rfl, rfl⟩
  refine ⟨fun _ _ h => h, ?_⟩
  refine JA_1 15 V <| Jb Z trivial Z Z Z (read_ac D _ _ (hG.le (h1.t h12)) l _ hsk hl) ?_
  rintro _ _ s13 h13 ⟨rfl, rfl⟩
  refine ⟨fun _ _ h => h, ?_⟩
  refine za 16 Z (QE_mv Z) Z <| za 17 Z (QE_ext Z Z) Z <| za 18 Z (QE_ext Z Z) Z <| za 19 Z (QE_nil Z) Z <| za 20 Z (We Y4) Z <| JA_1 21 V <| Wu Z trivial 0 [_, _, _, _, _, _] Y9 (fun _ hx => sub_mem (sbE _) hx) <| za 22 Z (QE_nil Z) Z <| za 23 Z (We Y4) Z <| JA_1 24 V <| Wu Z trivial 0 [_, _, _, _, _, _] Y9 (fun _ hx => sub_mem (sbE _) hx) <| JA_done V ?_
  refine retQ_mk [] _ (.inl Z) (.nil) Z (h1.t h12|>.t h13) (fun sR hS2 => ?_)
  exact ⟨_, rfl, rfl⟩
 refine JB_q Z trivial (Wd 0 Y5) Z ?_
 refine JA_2 5 14 V ?_ ?_
 ·
  refine JB_q Z trivial (Wd 0 Y5) Z <| JA_1 14 V <| Jb Z trivial Z Z Z (skip_ac D _ _ l t.behind hb O) ?_
  rintro _ _ s14 h14 ⟨rfl, rfl⟩
  refine ⟨fun _ _ h => h, ?_⟩
  refine JA_1 15 V <| Jb Z trivial Z Z Z (read_ac D _ _ (hG.le (h1.t h14)) l _ hsk hl) ?_
  rintro _ _ s15 h15 ⟨rfl, rfl⟩
  refine ⟨fun _ _ h => h, ?_⟩
  refine za 16 Z (QE_mv Z) Z <| za 17 Z (QE_ext Z Z) Z <| za 18 Z (QE_ext Z Z) Z <| za 19 Z (QE_nil Z) Z <| za 20 Z (We Y4) Z <| JA_1 21 V <| Wu Z trivial 0 [_, _, _, _, _, _] Y9 (fun _ hx => sub_mem (sbE _) hx) <| za 22 Z (QE_nil Z) Z <| za 23 Z (We Y4) Z <| JA_1 24 V <| Wu Z trivial 0 [_, _, _, _, _, _] Y9 (fun _ hx => sub_mem (sbE _) hx) <| JA_done V ?_
  refine retQ_mk [] _ (.inl Z) (.nil) Z (h1.t h14|>.t h15) (fun sR hS2 => ?_)
  exact ⟨_, rfl, rfl⟩
 refine Jb Z trivial Z Z Z (skip_ac D _ _ l t.behind hb O) ?_
 rintro _ _ s16 h16 ⟨rfl, rfl⟩
 refine ⟨fun _ _ h => h, ?_⟩
 refine JA_1 5 V <| JB_q Z trivial (Wd 0 Y5) Z <| JA_1 15 V <| Jb Z trivial Z Z Z (read_ac D _ _ (hG.le (h1.t h16)) l _ hsk hl) ?_
 rintro _ _ s17 h17 ⟨rfl, rfl⟩
 refine ⟨fun _ _ h => h, ?_⟩
 refine za 16 Z (QE_mv Z) Z <| za 17 Z (QE_ext Z Z) Z <| za 18 Z (QE_ext Z Z) Z <| za 19 Z (QE_nil Z) Z <| za 20 Z (We Y4) Z <| JA_1 21 V <| Wu Z trivial 0 [_, _, _, _, _, _] Y9 (fun _ hx => sub_mem (sbE _) hx) <| za 22 Z (QE_nil Z) Z <| za 23 Z (We Y4) Z <| JA_1 24 V <| Wu Z trivial 0 [_, _, _, _, _, _] Y9 (fun _ hx => sub_mem (sbE _) hx) <| JA_done V ?_
 refine retQ_mk [] _ (.inl Z) (.nil) Z (h1.t h16|>.t h17) (fun sR hS2 => ?_)
 exact ⟨_, rfl, rfl⟩
theorem adv_ac (D : Nat) (X L : Hl) (s : World) (hG : GP s) (l : List UInt8) (t : PS) (bp : Nat) (hl : l.length ≤ 12000) (hb : t.behind ≤ l.length) : AC Tryz.prog D 32 [.pointer (some ⟨bp, 0, none⟩)] (X ++ psB bp l t :: L) s fun v L' _ => ∃ y, y = psB bp l (advP l t) ∧ L' = X ++ y :: L :=
  AC.cell (fun L => adv0_ac D L s hG l t bp hl hb) X L
theorem is0_ac (D : Nat) (L : Hl) (s : World) (l : List UInt8) (t : PS) (bp : Nat) (w : List UInt8) : AC Tryz.prog D 90 [.pointer (some ⟨bp, 0, none⟩), St w] (psB bp l t :: L) s fun v L' _ => ∃ y, (y = psB bp l t ∧ v = .bool (isP t w)) ∧ L' = y :: L := by
 refine AC_enter (TT := TT) (fn := Tryz.f90) TT_ok Tryz.func90 V Z Tryz.ntmps90 Z (rs := [.tmp 4]) Z [(0, _), (1, _)] Z <| Sr <| At Z Z <| Sr <| Zqm Z Z <| Zqni Z Z <| Wb Y5 <| W0 Y5 <| Wl 0 Y6 <| Zqeq Z Z Z <| Zqm Z Z <| ?_
 refine JO_caseD (t := 11) Z (fun c1 => ?_) (fun c1 => ?_)
 ·
  refine Wf Y4 <| Wf Y4 <| Wf Y4 <| Wf Y4 <| Wf Y4 <| Wf Y4 <| ZqT Z Z Z <| Zqm Z Z <| Zg Z Z <| Zqm Z Z <| Zg Z Z <| Zqni Z Z <| Zg Z Z <| Wb Y5 <| Zg Z Z <| JO_q (QE_fa Z Z Z Z) Z <| Zg Z Z <| Wl 0 Y6 <| Zg Z Z <| Zqm Z Z <| Zg Z Z <| Zqse Z Z Z <| ZqT Z Z Z <| At Z Z <| Zo <| ?_
  refine retQ_mk [] _ (.inr Z) (.tmp Z (.nil)) Z (Lr D) (fun sR hS2 => ?_)
  refine ⟨_, ⟨Z, ?_⟩, Z⟩
  simp [resV, isP, *]
 refine Zg Z Z <| Zqm Z Z <| Zg Z Z <| Zqni Z Z <| Zg Z Z <| Wb Y5 <| Zg Z Z <| W0 Y5 <| Zg Z Z <| Wl 0 Y6 <| Zg Z Z <| Zqeq Z Z Z <| ZqF Z Z Z <| Zqm Z Z <| ?_
 refine JO_caseD (t := 19) Z (fun c2 => ?_) (fun c2 => ?_)
 ·
  refine Zg Z Z <| Zqm Z Z <| Zg Z Z <| Zqni Z Z <| Zg Z Z <| Wb Y5 <| Zg Z Z <| JO_q (QE_fa Z Z Z Z) Z <| Zg Z Z <| Wl 0 Y6 <| Zg Z Z <| Zqm Z Z <| Zg Z Z <| Zqse Z Z Z <| ZqT Z Z Z <| At Z Z <| Zo <| ?_
  refine retQ_mk [] _ (.inr Z) (.tmp Z (.nil)) Z (Lr D) (fun sR hS2 => ?_)
  refine ⟨_, ⟨Z, ?_⟩, Z⟩
  simp [resV, isP, *]
 refine Wf Y4 <| Wf Y4 <| Wf Y4 <| Wf Y4 <| Wf Y4 <| Wf Y4 <| Wf Y4 <| ZqF Z Z Z <| At Z Z <| Zo <| ?_
 refine retQ_mk [] _ (.inr Z) (.tmp Z (.nil)) Z (Lr D) (fun sR hS2 => ?_)
 refine ⟨_, ⟨Z, ?_⟩, Z⟩
 simp [resV, isP, *]
theorem isNm0_ac (D : Nat) (L : Hl) (s : World) (hG : GP s) (l : List UInt8) (t : PS) (bp : Nat) : AC Tryz.prog D 119 [.pointer (some ⟨bp, 0, none⟩)] (psB bp l t :: L) s fun v L' _ => ∃ y, (y = psB bp l t ∧ v = .bool (isNm t)) ∧ L' = y :: L := by
 refine AC_enter (TT := TT) (fn := Tryz.f119) TT_ok Tryz.func119 V Z Tryz.ntmps119 Z (rs := [.tmp 2]) Z [(0, _)] Z <| Sr <| At Z Z <| Sr <| Zqm Z Z <| Zqni Z Z <| Wb Y5 <| W0 Y5 <| Wl 0 Y6 <| Zqeq Z Z Z <| Zqm Z Z <| ?_
 refine JO_caseD (t := 9) Z (fun c1 => ?_) (fun c1 => ?_)
 ·
  refine Zg Z Z <| Zqm Z Z <| Zg Z Z <| Zqni Z Z <| Zg Z Z <| Wb Y5 <| Zg Z Z <| JO_q (QE_fa Z Z Z Z) Z <| Zg Z Z <| Wl 0 Y6 <| Zg Z Z <| Jc Z Z Z (keyword_ac D _ _ (hG.le (Lr D)) _) ?_
  rintro _ _ s2 h2 ⟨rfl, rfl⟩
  refine Zg Z Z <| Zqno Z Z <| ZqT Z Z Z <| At Z Z <| Zo <| ?_
  refine retQ_mk [] _ (.inr Z) (.tmp Z (.nil)) Z h2 (fun sR hS2 => ?_)
  refine ⟨_, ⟨Z, ?_⟩, Z⟩
  simp [resV, isNm, *]
 refine Wf Y4 <| Wf Y4 <| Wf Y4 <| Wf Y4 <| Wf Y4 <| Wf Y4 <| Wf Y4 <| ZqF Z Z Z <| At Z Z <| Zo <| ?_
 refine retQ_mk [] _ (.inr Z) (.tmp Z (.nil)) Z (Lr D) (fun sR hS2 => ?_)
 refine ⟨_, ⟨Z, ?_⟩, Z⟩
 simp [resV, isNm, *]
theorem tfB (b : Bool) (v : Value) (h : v = .bool b) : (b = true ∧ v = .bool true) ∨ (b = false ∧ v = .bool false) := by
  subst h; cases b
  · exact .inr ⟨rfl, rfl⟩
  · exact .inl ⟨rfl, rfl⟩
theorem is_ac (D : Nat) (X L : Hl) (s : World) (l : List UInt8) (t : PS) (bp : Nat) (w : List UInt8) : AC Tryz.prog D 90 [.pointer (some ⟨bp, 0, none⟩), St w] (X ++ psB bp l t :: L) s fun v L' _ => ∃ y, (y = psB bp l t ∧ ((isP t w = true ∧ v = .bool true) ∨ (isP t w = false ∧ v = .bool false))) ∧ L' = X ++ y :: L :=
  (AC.cell (fun L => is0_ac D L s l t bp w) X L).mono fun v L' s' _ ⟨y, ⟨h1, h2⟩, h3⟩ => ⟨y, ⟨h1, tfB _ _ h2⟩, h3⟩
theorem isNm_ac (D : Nat) (X L : Hl) (s : World) (hG : GP s) (l : List UInt8) (t : PS) (bp : Nat) : AC Tryz.prog D 119 [.pointer (some ⟨bp, 0, none⟩)] (X ++ psB bp l t :: L) s fun v L' _ => ∃ y, (y = psB bp l t ∧ ((isNm t = true ∧ v = .bool true) ∨ (isNm t = false ∧ v = .bool false))) ∧ L' = X ++ y :: L :=
  (AC.cell (fun L => isNm0_ac D L s hG l t bp) X L).mono fun v L' s' _ ⟨y, ⟨h1, h2⟩, h3⟩ => ⟨y, ⟨h1, tfB _ _ h2⟩, h3⟩
theorem acc0_ac (D : Nat) (L : Hl) (s : World) (hG : GP s) (l : List UInt8) (t : PS) (bp : Nat) (w : List UInt8) (hl : l.length ≤ 12000) (hg : PG l t) : AC Tryz.prog D 61 [.pointer (some ⟨bp, 0, none⟩), St w] (psB bp l t :: L) s fun v L' _ => ∃ y, ((isP t w = true ∧ v = .bool true ∧ y = psB bp l (advP l t)) ∨ (isP t w = false ∧ v = .bool false ∧ y = psB bp l t)) ∧ L' = y :: L := by
 refine AC_enter (TT := TT) (fn := Tryz.f61) TT_ok Tryz.func61 V Z Tryz.ntmps61 Z (rs := [.tmp 4]) Z [(0, _), (1, _)] Z <| Sr <| At Z Z <| Zs <| Sr <| Zqm Z Z <| Zqm Z Z <| Jc Z Z Z (is_ac D [] _ _ l t bp _) ?_
 rintro _ _ s1 h1 ⟨_, ⟨rfl, (⟨hb1, rfl⟩ | ⟨hb1, rfl⟩)⟩, rfl⟩
 ·
  simp only [cQ9, nQ9]
  refine ZqnT Z Z <| Nt <| Zz Z <| Zk <| Zt <| Sr <| Zqm Z Z <| Jc Z Z Z (adv_ac D [] _ _ (hG.le h1) l t bp hl hg.hb) ?_
  rintro _ _ s2 h2 ⟨_, rfl, rfl⟩
  simp only [cQ9, nQ9]
  refine Nt <| Sr <| At Z Z <| Zo <| ?_
  refine retQ_mk [] _ (.inr Z) (.tmp Z (.nil)) Z (h1.t h2) (fun sR hS2 => ?_)
  first
    | exact ⟨_, .inl ⟨by assumption, rfl, rfl⟩, rfl⟩
    | exact ⟨_, .inr ⟨by assumption, rfl, rfl⟩, rfl⟩
 simp only [cQ9, nQ9]
 refine ZqnF Z Z <| Nt <| Zy Z <| Sr <| At Z Z <| Zo <| Zu <| ?_
 refine retQ_mk [] _ (.inr Z) (.tmp Z (.nil)) Z h1 (fun sR hS2 => ?_)
 first
   | exact ⟨_, .inl ⟨by assumption, rfl, rfl⟩, rfl⟩
   | exact ⟨_, .inr ⟨by assumption, rfl, rfl⟩, rfl⟩
theorem acc_ac (D : Nat) (X L : Hl) (s : World) (hG : GP s) (l : List UInt8) (t : PS) (bp : Nat) (w : List UInt8) (hl : l.length ≤ 12000) (hg : PG l t) : AC Tryz.prog D 61 [.pointer (some ⟨bp, 0, none⟩), St w] (X ++ psB bp l t :: L) s fun v L' _ => ∃ y, ((isP t w = true ∧ v = .bool true ∧ y = psB bp l (advP l t)) ∨ (isP t w = false ∧ v = .bool false ∧ y = psB bp l t)) ∧ L' = X ++ y :: L :=
  AC.cell (fun L => acc0_ac D L s hG l t bp w hl hg) X L
theorem drop_atL {α : Type} {ws : List α} {k : Nat} {x : α} (h : ws[k]? = some x) : ws.drop k = x :: ws.drop (k + 1) := by
  obtain ⟨hk, rfl⟩ := List.getElem?_eq_some_iff.1 h
  exact List.drop_eq_getElem_cons hk
theorem name_ap0 (D : Nat) (L : Hl) (s : World) (hG : GP s) (l : List UInt8) (t : PS) (bp : Nat) (hl : l.length ≤ 12000) (hg : PG l t)  : AP Tryz.prog D 91 [.pointer (some ⟨bp, 0, none⟩)] (psB bp l t :: L) s (okP l bp [] L (nameP l t) (fun _ x v => v = St x ∧ x.length ≤ l.length)) (erP l bp [] L (nameP l t)) := by
 obtain ⟨r, hq⟩ : ∃ r, r = nameP l t := ⟨_, rfl⟩
 rw [← hq] at ⊢
 unfold nameP at hq
 refine AP_enter (TT := TT) (fn := Tryz.f91) TT_ok Tryz.func91 V Z Tryz.ntmps91 Z (rs := [.tmp 2]) Z [(0, _)] Z <| Sr <| At Z Z <| Zs <| Sr <| Zqm Z Z <| Jc Z Z Z (isNm_ac D [] _ _ (hG.le (Lr D)) l t bp) ?_
 rintro _ _ s1 h1 ⟨_, ⟨rfl, (⟨hb1, rfl⟩ | ⟨hb1, rfl⟩)⟩, rfl⟩
 ·
  simp only [cQ9, nQ9]
  rw [if_pos hb1] at hq
  refine ZqnT Z Z <| Nt <| Zz Z <| Zk <| Zt <| Sr <| Zqm Z Z <| Zqni Z Z <| Wb Y5 <| JO_q (QE_fa Z Z Z Z) Z <| Wl 0 Y6 <| At Z Z <| Sr <| Zqm Z Z <| Jc Z Z Z (adv_ac D [] _ _ (hG.le h1) l t bp hl hg.hb) ?_
  rintro _ _ s2 h2 ⟨_, rfl, rfl⟩
  simp only [cQ9, nQ9]
  refine Nt <| Sr <| Zqm Z Z <| At Z Z <| Zo <| ?_
  refine retP_mk [] _ (.inr Z) (.tmp Z (.nil)) Z (h1.t h2) (fun sR hS2 => ?_)
  exact ⟨_, _, hq, hg.adv, ⟨rfl, hg.ht⟩, rfl⟩
 simp only [cQ9, nQ9]
 rw [if_neg (bNe hb1)] at hq
 refine ZqnF Z Z <| Nt <| Zy Z <| Zr <| JO_q (QE_bldE V V) Z <| JO_q (QE_mif V Z) Z ?_
 refine JO_panic Z (fun fr9 => ?_)
 repeat (first | refine thenQ_p ?_ | refine blockQ_p ?_)
 refine retP_x [] _ (List.Perm.refl _) h1 (fun sR hS2 => ?_)
 exact ⟨⟨_, _, rfl⟩, t, hq, hg, rfl⟩
theorem name_ap (D : Nat) (L : Hl) (s : World) (hG : GP s) (l : List UInt8) (t : PS) (bp : Nat) (hl : l.length ≤ 12000) (hg : PG l t) (X : Hl)  : AP Tryz.prog D 91 [.pointer (some ⟨bp, 0, none⟩)] (X ++ psB bp l t :: L) s (okP l bp X L (nameP l t) (fun _ x v => v = St x ∧ x.length ≤ l.length)) (erP l bp X L (nameP l t)) :=
  AP.cell (fun L => name_ap0 D L s hG l t bp hl hg  ) X L
theorem numb_ap0 (D : Nat) (L : Hl) (s : World) (hG : GP s) (l : List UInt8) (t : PS) (bp : Nat) (hl : l.length ≤ 12000) (hg : PG l t)  : AP Tryz.prog D 97 [.pointer (some ⟨bp, 0, none⟩)] (psB bp l t :: L) s (okP l bp [] L (numbP l t) (fun _ x v => v = .int .u32 x ∧ U32 x)) (erP l bp [] L (numbP l t)) := by
 obtain ⟨r, hq⟩ : ∃ r, r = numbP l t := ⟨_, rfl⟩
 rw [← hq] at ⊢
 unfold numbP at hq
 refine AP_enter (TT := TT) (fn := Tryz.f97) TT_ok Tryz.func97 V Z Tryz.ntmps97 Z (rs := [.tmp 2]) Z [(0, _)] Z <| Sr <| At Z Z <| Zs <| Sr <| Zqm Z Z <| Zqni Z Z <| Wb Y5 <| W0 Y5 <| Wl 0 Y6 <| Zqne Z Z Z <| Nt <| ?_
 refine JC_ifN Z (fun c1 => ?_) (fun c1 => ?_)
 ·
  rw [if_neg c1] at hq
  refine Zr <| JO_q (QE_bldE V V) Z <| JO_q (QE_mif V Z) Z ?_
  refine JO_panic Z (fun fr9 => ?_)
  repeat (first | refine thenQ_p ?_ | refine blockQ_p ?_)
  refine retP_x [] _ (List.Perm.refl _) (Lr D) (fun sR hS2 => ?_)
  exact ⟨⟨_, _, rfl⟩, t, hq, hg, rfl⟩
 rw [if_pos c1] at hq
 refine Zk <| Zt <| Sr <| Zqm Z Z <| Zqni Z Z <| Wb Y5 <| JO_q (QE_fa Z Z Z Z) Z <| Wl 0 Y6 <| At Z Z <| Sr <| Zqm Z Z <| Jc Z Z Z (adv_ac D [] _ _ (hG.le (Lr D)) l t bp hl hg.hb) ?_
 rintro _ _ s2 h2 ⟨_, rfl, rfl⟩
 simp only [cQ9, nQ9]
 refine Nt <| Sr <| Zqm Z Z <| At Z Z <| Zo <| ?_
 refine retP_mk [] _ (.inr Z) (.tmp Z (.nil)) Z h2 (fun sR hS2 => ?_)
 exact ⟨_, _, hq, hg.adv, ⟨rfl, hg.hn⟩, rfl⟩
theorem numb_ap (D : Nat) (L : Hl) (s : World) (hG : GP s) (l : List UInt8) (t : PS) (bp : Nat) (hl : l.length ≤ 12000) (hg : PG l t) (X : Hl)  : AP Tryz.prog D 97 [.pointer (some ⟨bp, 0, none⟩)] (X ++ psB bp l t :: L) s (okP l bp X L (numbP l t) (fun _ x v => v = .int .u32 x ∧ U32 x)) (erP l bp X L (numbP l t)) :=
  AP.cell (fun L => numb_ap0 D L s hG l t bp hl hg  ) X L
theorem exp_ap0 (D : Nat) (L : Hl) (s : World) (hG : GP s) (l : List UInt8) (t : PS) (bp : Nat) (hl : l.length ≤ 12000) (hg : PG l t) (ws : List Str) (A : Option Addr) (n c : Nat) (hA : Strs s A n c ws) : AP Tryz.prog D 92 [.pointer (some ⟨bp, 0, none⟩), .slice A n c] (psB bp l t :: L) s (okP l bp [] L (expP l ws t) (fun _ _ _ => True)) (erP l bp [] L (expP l ws t)) := by
 obtain ⟨r, hq⟩ : ∃ r, r = expP l ws t := ⟨_, rfl⟩
 rw [← hq] at ⊢
 have hn := hA.1
 have hn2 := hA.2.1
 have hn3 := hA.2.2.1
 refine AP_enter (TT := TT) (fn := Tryz.f92) TT_ok Tryz.func92 V Z Tryz.ntmps92 Z (rs := []) Z [(0, _), (1, _)] Z <| Sr <| Zqm Z Z <| Ws Y4 <| Zqm Z Z <| Nt <| Zp <| JC_loop (γ := Nat × PS) (fun g => [(0, _), (6, _), (7, _), (8, .int .i64 (g.1 : Int))]) (fun g => psB bp l g.2 :: L) (fun g tw => Le D s tw ∧ (g.1 ≤ ws.length ∧ PG l g.2 ∧ r = expP l (ws.drop g.1) g.2)) (fun g => ws.length - g.1) (fun _ _ _ h hl => ⟨h.1.trans hl, h.2⟩) (0, t) (.cons Z (.cons Z (.cons Z (.cons Z (.nil _))))) Z ⟨Le.refl _, ⟨Nat.zero_le _, hg, hq⟩⟩ ?_
 intro g s1 I1
 obtain ⟨k, t1⟩ := g
 obtain ⟨hk, hg1, hq⟩ := I1.2
 refine Sr <| Zqlt Z Z Z <| Nt <| Zs <| ?_
 refine JC_ifD Z (fun c2 => ?_) (fun c2 => ?_)
 ·
  refine Zk <| Zt <| Zs <| Zp <| Sr <| ?_
  obtain ⟨bk, ok, xk, rfl, hxk, hck, _⟩ := Strs.at_ hA (show k < n by omega)
  rw [drop_atL hxk, expP] at hq
  refine JO_q (QE_ia1 Z Z Z Z Z Z (show k < n by omega)) Z <| JO_q (QE_ldsR0 Z Z Z (hck.le I1.1) Z) Z <| At Z Z <| Sr <| Zqm Z Z <| Zqm Z Z <| Jc Z Z Z (acc_ac D [] _ _ (hG.le I1.1) l t1 bp _ hl hg1) ?_
  rintro _ _ s3 h3 ⟨_, (⟨hb3, rfl, rfl⟩ | ⟨hb3, rfl, rfl⟩), rfl⟩
  ·
   simp only [cQ9, nQ9]
   rw [if_pos hb3] at hq
   refine ZqnT Z Z <| Nt <| Zz Z <| Zk <| Zb <| Zt <| Zr <| JO_q (QE_add' (c := ((k + 1 : Nat) : Int)) Z Z (by rw [w64 O O]; omega)) Z <| Zqm Z Z <| Zn <| ?_
   refine thenQ_n ⟨(k + 1, advP l t1), [], kp, Z, ⟨(I1.1.t h3), ⟨by omega, hg1.adv, hq⟩⟩, (by show ws.length - (k + 1) < ws.length - k; omega)⟩
  simp only [cQ9, nQ9]
  rw [if_neg (bNe hb3)] at hq
  refine ZqnF Z Z <| Nt <| Zy Z <| Zr <| JO_q (QE_bldE V V) Z <| JO_q (QE_mif V Z) Z ?_
  refine JO_panic Z (fun fr9 => ?_)
  repeat (first | refine thenQ_p ?_ | refine blockQ_p ?_)
  refine retP_x [] _ (List.Perm.refl _) (I1.1.t h3) (fun sR hS2 => ?_)
  exact ⟨⟨_, _, rfl⟩, t1, hq, hg1, rfl⟩
 rw [List.drop_eq_nil_of_le O, expP] at hq
 refine Zl <| Zv <| Zv <| Zd <| ?_
 refine retP_mk [] _ (.inl Z) (.nil) Z I1.1 (fun sR hS2 => ?_)
 exact ⟨(), _, hq, hg1, trivial, rfl⟩
theorem exp_ap (D : Nat) (L : Hl) (s : World) (hG : GP s) (l : List UInt8) (t : PS) (bp : Nat) (hl : l.length ≤ 12000) (hg : PG l t) (X : Hl) (ws : List Str) (A : Option Addr) (n c : Nat) (hA : Strs s A n c ws) : AP Tryz.prog D 92 [.pointer (some ⟨bp, 0, none⟩), .slice A n c] (X ++ psB bp l t :: L) s (okP l bp X L (expP l ws t) (fun _ _ _ => True)) (erP l bp X L (expP l ws t)) :=
  AP.cell (fun L => exp_ap0 D L s hG l t bp hl hg ws A n c hA ) X L
theorem Strs.drop {s : World} {A : Option Addr} {n c : Nat} {l : List (List UInt8)} (h : Strs s A n c l) {k : Nat} (hk : k ≤ n) : ∃ A1 c1, (Value.slice (if c = k then A else A.map (·.add (k * 1))) (n - k) (c - k)) = Value.slice A1 (n - k) c1 ∧ Strs s A1 (n - k) c1 (l.drop k) := by
  obtain ⟨h1, h2, h3, h4⟩ := h
  refine ⟨_, _, Z, by rw [List.length_drop]; omega, by omega, by omega, fun i x hi => ?_⟩
  rw [List.getElem?_drop] at hi
  obtain ⟨b, off, cs, hA, hc, hl, hr⟩ := h4 (k + i) x hi
  have hlt := (List.getElem?_eq_some_iff.1 hi).1
  refine ⟨b, off + k, cs, ?_, ?_, hl, hr⟩
  · rw [if_neg O, hA]
    simp [add_lit]
  · rw [show off + k + i * 1 = off + (k + i) * 1 by omega]; exact hc
theorem idx_rng {α : Type} {p : α → Bool} : ∀ (l : List α) (k : Nat), idxOf p l k = -1 ∨ ((k : Int) ≤ idxOf p l k ∧ idxOf p l k < (k : Int) + l.length)
  | [], k => .inl rfl
  | x :: r, k => by
    rw [idxOf]
    split
    · exact .inr ⟨Int.le_refl _, by rw [List.length_cons]; omega⟩
    · rcases idx_rng r (k + 1) with h | h
      · exact .inl h
      · exact .inr ⟨by omega, by rw [List.length_cons]; omega⟩
theorem op_rng (w : Str) : -1 ≤ idxOf (fun x => decide (w = x)) (signL.drop 4) 0 ∧ idxOf (fun x => decide (w = x)) (signL.drop 4) 0 < 18 := by
  have h := idx_rng (p := fun x => decide (w = x)) (signL.drop 4) 0
  have hl : (signL.drop 4).length = 18 := rfl
  omega
theorem op0_ac (D : Nat) (L : Hl) (s : World) (hG : GP s) (l : List UInt8) (t : PS) (bp : Nat) : AC Tryz.prog D 167 [.pointer (some ⟨bp, 0, none⟩)] (psB bp l t :: L) s fun v L' _ => ∃ y, (y = psB bp l t ∧ v = .int .i64 (binP t)) ∧ L' = y :: L := by
 refine AC_enter (TT := TT) (fn := Tryz.f167) TT_ok Tryz.func167 V Z Tryz.ntmps167 Z (rs := [.tmp 2]) Z [(0, _)] Z <| Sr <| At Z Z <| Zs <| Sr <| Zqm Z Z <| Zqni Z Z <| Wb Y5 <| W0 Y5 <| Wl 0 Y6 <| Zqne Z Z Z <| Nt <| ?_
 refine JC_ifN Z (fun c1 => ?_) (fun c1 => ?_)
 ·
  have hb0 : binP t = 0 := if_pos c1
  refine Sr <| At Z Z <| Zo <| Zu <| ?_
  refine retQ_mk [] _ (.inr Z) (.tmp Z (.nil)) Z (Lr D) (fun sR hS2 => ?_)
  refine ⟨_, ⟨Z, ?_⟩, Z⟩
  rw [hb0]
  rfl
 have hb0 : binP t = _ := if_neg (fun h => h As)
 refine Zk <| Zt <| Zs <| JC_draw drawsMixed 9 Z _ (fun _ h => h) ?_
 intro s2 h2
 refine za 2 Z (QE_mv Z) Z <| za 3 Z (QE_nil Z) Z <| za 4 Z (We Y4) Z <| za 5 Z (QE_fa Z Z Z Z) Z <| za 6 Z (Wd 0 Y5) Z <| JA_1 0 V <| Jb Z trivial Z Z Z (fieldsP_ac D _ _ (hG.le h2) sgT signL.tail sg_flds (by decide +kernel) (by decide) (by decide) (by decide)) ?_
 rintro _ _ s3 h3 ⟨rfl, Ak, nk, ck, rfl, hK⟩
 refine ⟨fun _ _ h => h, ?_⟩
 have hnk : nk = 21 := hK.1
 obtain ⟨A1, c1, e1, hD⟩ := hK.drop (k := 3) O
 refine za 1 Z (QE_cast (v' := .slice A1 (nk - 3) c1) (QE_slL (j := 3) Z Z Z Z Z O) e1) Z <| JA_1 7 V <| Jb Z trivial Z Z Z (sidx_ac D _ _ A1 (nk - 3) c1 (signL.drop 4) (hD.le (Lr D)) t.next.text) ?_
 rintro _ _ s4 h4 ⟨rfl, rfl⟩
 refine ⟨fun _ _ h => h, ?_⟩
 have hib := op_rng t.next.text
 generalize idxOf (fun x => decide (t.next.text = x)) (signL.drop 4) 0 = i at *
 refine za 8 Z (QE_as Z) Z <| JA_done V <| Zt <| Sr <| Zqm Z Z <| Zqadd Z Z Z (w64 O O) <| JO_q (QE_cast (v' := .int .i64 (i + 4)) (QE_max Z Z) (by rw [if_neg O])) Z <| Zqm Z Z <| Zqadd Z Z Z (w64 O O) <| JO_q (QE_cast (v' := .int .i64 (if i < 0 then 0 else 1)) (QE_min Z Z) (congrArg (Value.int .i64) (by split <;> split <;> omega))) Z <| JO_q (QE_mul' (c := if i < 0 then 0 else i + 4) Z Z (by split <;> rw [w64 O O] <;> omega)) Z <| At Z Z <| Zo <| ?_
 refine retQ_mk [] _ (.inr Z) (.tmp Z (.nil)) Z (h2.t h3|>.t h4) (fun sR hS2 => ?_)
 refine ⟨_, ⟨Z, ?_⟩, Z⟩
 rw [hb0]
 rfl
theorem list_ap {σ : Type} (D : Nat) (s : World) (hG : GP s) (l : List UInt8) (bp fe : Nat) (cap : List Value) (hl : l.length ≤ 12000) (H : σ → Hl) (I F : σ → PS → World → Prop) (Ypan : List PanicEntry → Hl → World → Prop) (μ : σ → Nat) (mI : (∀ (g : σ) (t : PS) (s1 s2 : World), I g t s1 → Le D s1 s2 → I g t s2)) (mF : (∀ (g : σ) (t : PS) (s1 s2 : World), F g t s1 → Le D s1 s2 → F g t s2)) (mZ : ∀ ch L1 s1 s2, Ypan ch L1 s1 → Le D s1 s2 → Ypan ch L1 s2) (hE : ∀ (g : σ) (t : PS) (s1 : World), Le D s s1 → PG l t → I g t s1 → AP Tryz.prog D fe cap (psB bp l t :: H g) s1 (fun _ L' s2 => ∃ g' t', L' = psB bp l t' :: H g' ∧ PG l t' ∧ μ g' < μ g ∧ (isP t' [44] = true → I g' (advP l t') s2) ∧ (isP t' [44] = false → F g' t' s2)) Ypan) (g0 : σ) (t : PS) (hg : PG l t) (hI0 : I g0 t s) : AP Tryz.prog D 93 [.pointer (some ⟨bp, 0, none⟩), .func (.func fe) #[] cap.toArray] (psB bp l t :: H g0) s (fun _ L' s2 => ∃ g' t', L' = psB bp l t' :: H g' ∧ PG l t' ∧ F g' t' s2) Ypan := by
 refine AP_enter (TT := TT) (fn := Tryz.f93) TT_ok Tryz.func93 V Z Tryz.ntmps93 Z (rs := []) Z [(0, _), (1, _)] Z <| Sr <| Zqm Z Z <| ?_
 refine JO_callP (first := []) (captured := cap) Z Z Z (hE g0 t _ (Lr D) hg (mI _ _ _ _ hI0 (Lr D))) ?_ ?_
 ·
  rintro _ _ sx1 hx1 hx9 fr9
  repeat (first | refine thenQ_p ?_ | refine blockQ_p ?_)
  refine retP_x [] _ (List.Perm.refl _) hx1 (fun sR hS2 => ?_)
  exact mZ _ _ _ _ hx9 hS2
 rintro _ _ s1 h1 ⟨g1, t1, rfl, hg1, hm1, hT1, hF1⟩
 refine Nt <| Zp <| JC_loop (γ := σ × PS) (fun g => [(0, _), (1, _)]) (fun g => psB bp l g.2 :: H g.1) (fun g tw => Le D s1 tw ∧ (PG l g.2 ∧ (isP g.2 [44] = true → I g.1 (advP l g.2) tw) ∧ (isP g.2 [44] = false → F g.1 g.2 tw))) (fun g => μ g.1) (fun _ _ _ h hl => ⟨h.1.trans hl, ⟨h.2.1, fun hh => mI _ _ _ _ (h.2.2.1 hh) hl, fun hh => mF _ _ _ _ (h.2.2.2 hh) hl⟩⟩) (g1, t1) (.cons Z (.cons Z (.nil _))) Z ⟨Le.refl _, ⟨hg1, hT1, hF1⟩⟩ ?_
 intro g s2 I2
 obtain ⟨g, t1⟩ := g
 obtain ⟨hg1, hT1, hF1⟩ := I2.2
 refine Zs <| Sr <| Zqm Z Z <| Jc Z Z Z (acc_ac D [] _ _ (hG.le (h1.t I2.1)) l t1 bp [44] hl hg1) ?_
 rintro _ _ s3 h3 ⟨_, (⟨hb3, rfl, rfl⟩ | ⟨hb3, rfl, rfl⟩), rfl⟩
 ·
  simp only [cQ9, nQ9]
  refine Nt <| Zy Z <| ?_
  have hT0 := hT1 As
  replace hg1 := hg1.adv
  generalize advP l t1 = t1 at *
  refine Zk <| Zt <| Zp <| Zr <| Zqm Z Z <| ?_
  refine JO_callP (first := []) (captured := cap) Z Z Z (hE g t1 _ (h1.t I2.1|>.t h3) hg1 (mI _ _ _ _ hT0 h3)) ?_ ?_
  ·
   rintro _ _ sx4 hx4 hx9 fr9
   repeat (first | refine thenQ_p ?_ | refine blockQ_p ?_)
   refine retP_x [] _ (List.Perm.refl _) (h1.t I2.1|>.t h3|>.t hx4) (fun sR hS2 => ?_)
   exact mZ _ _ _ _ hx9 hS2
  rintro _ _ s4 h4 ⟨g2, t2, rfl, hg2, hm2, hT2, hF2⟩
  refine Zn <| Zb <| ?_
  refine thenQ_n ⟨(g2, t2), [], kp, Z, ⟨(I2.1.t h3|>.t h4), ⟨hg2, hT2, hF2⟩⟩, hm2⟩
 simp only [cQ9, nQ9]
 refine Nt <| Zz Z <| ?_
 have hF0 := hF1 As
 refine Zl <| Zv <| Zv <| Zd <| ?_
 refine retP_mk [] _ (.inl Z) (.nil) Z (h1.t I2.1|>.t h3) (fun sR hS2 => ?_)
 exact ⟨g, t1, rfl, hg1, mF _ _ _ _ hF0 (h3.t hS2)⟩
theorem exs_nil (d : Nat) (s : World) : Exs d s none 0 0 [] := ⟨rfl, Nat.le_refl _, by omega, fun i x h => by cases h⟩
theorem stms_nil (d : Nat) (s : World) : Stms d s none 0 0 [] := ⟨rfl, Nat.le_refl _, by omega, fun i x h => by cases h⟩
theorem strs_nil (s : World) : Strs s none 0 0 [] := ⟨rfl, Nat.le_refl _, by omega, fun i x h => by cases h⟩
theorem wds_nil (s : World) : Wds s none 0 0 [] := ⟨rfl, Nat.le_refl _, by omega, fun i x h => by cases h⟩
theorem str1 {s : World} {b : Nat} {w : Str} (hc : CellsAt s b 0 [St w]) (hw : w.length ≤ 1000) : Strs s (some ⟨b, 0, none⟩) 1 1 [w] := Sl.lit [[_]] hc rfl (.cons ⟨rfl, rfl, by omega⟩ .nil) 1 rfl O
theorem str2 {s : World} {b : Nat} {w x : Str} (hc : CellsAt s b 0 [St w, St x]) (hw : w.length ≤ 1000 ∧ x.length ≤ 1000) : Strs s (some ⟨b, 0, none⟩) 2 2 [w, x] := Sl.lit [[_], [_]] hc rfl (.cons ⟨rfl, rfl, by omega⟩ (.cons ⟨rfl, rfl, by omega⟩ .nil)) 2 rfl O
def ExV (s : World) (x : Ex) (v : Value) : Prop := ∃ d A n c, v = .agg #[.int .i64 x.kind, .int .i64 x.op, .int .u32 x.num, St x.name, .slice A n c] ∧ Exs d s A n c x.args ∧ U32 x.num ∧ x.name.length ≤ 9223372036854775807
def ExsV (s : World) (x : List Ex) (v : Value) : Prop := ∃ d A n c, v = .slice A n c ∧ Exs d s A n c x
theorem ex_one {s : World} {b d : Nat} {A : Option Addr} {n c : Nat} {x : Ex} (hc : CellsAt s b 0 [.int .i64 x.kind, .int .i64 x.op, .int .u32 x.num, St x.name, .slice A n c]) (h : Exs d s A n c x.args) (hu : U32 x.num) (hn : x.name.length ≤ 9223372036854775807) : Exs (d + 1) s (some ⟨b, 0, none⟩) 1 1 [x] :=
  Sl.lit [[_, _, _, _, _]] hc rfl (.cons ⟨rfl, A, n, c, rfl, h, hu, hn⟩ .nil) 1 rfl O
theorem ex_two {s : World} {b d e : Nat} {A B : Option Addr} {n c m g : Nat} {x y : Ex} (hc : CellsAt s b 0 [.int .i64 x.kind, .int .i64 x.op, .int .u32 x.num, St x.name, .slice A n c, .int .i64 y.kind, .int .i64 y.op, .int .u32 y.num, St y.name, .slice B m g]) (h : Exs d s A n c x.args) (hu : U32 x.num) (hn : x.name.length ≤ 9223372036854775807) (h2 : Exs e s B m g y.args) (hu2 : U32 y.num) (hn2 : y.name.length ≤ 9223372036854775807) : Exs (d + e + 1) s (some ⟨b, 0, none⟩) 2 2 [x, y] :=
  Sl.lit [[_, _, _, _, _], [_, _, _, _, _]] hc rfl (.cons ⟨rfl, A, n, c, rfl, h.up O, hu, hn⟩ (.cons ⟨rfl, B, m, g, rfl, h2.up O, hu2, hn2⟩ .nil)) 2 rfl O
def CP (f : FuncId) (args : List Value) {α : Type} (R : Str → PS → PR α) (V : World → α → Value → Prop) : Prop := ∀ (D : Nat) (L : Hl) (s : World) (hG : GP s) (l : Str) (t : PS) (bp : Nat) (hl : l.length ≤ 12000) (hg : PG l t) (hr : R l t ≠ .out), AP Tryz.prog D f (.pointer (some ⟨bp, 0, none⟩) :: args) (psB bp l t :: L) s (okP l bp [] L (R l t) V) (erP l bp [] L (R l t))
theorem CP.at_ {f : FuncId} {args : List Value} {α : Type} {R : Str → PS → PR α} {V : World → α → Value → Prop} (h : CP f args R V) (D : Nat) (X L : Hl) (s : World) (hG : GP s) (l : Str) (t : PS) (bp : Nat) (hl : l.length ≤ 12000) (hg : PG l t) (hr : R l t ≠ .out) : AP Tryz.prog D f (.pointer (some ⟨bp, 0, none⟩) :: args) (X ++ psB bp l t :: L) s (okP l bp X L (R l t) V) (erP l bp X L (R l t)) :=
  AP.cell (fun L => h D L s hG l t bp hl hg hr) X L
def CE (k : Nat) : Prop := ∀ least : Int, CP 150 [.int .i64 least] (fun l t => pExpr l k least t) ExV
def CA (k : Nat) : Prop := CP 166 [] (fun l t => pArg l k t) ExV
def CS (k : Nat) : Prop := CP 165 [] (fun l t => pArgs l k t) ExsV
theorem strg_rng (o : Int) : 1 ≤ strg o ∧ strg o ≤ 5 := by
  unfold strg
  repeat' split
  all_goals omega
structure XG where
  k : Nat
  x : Ex
  t : PS
  A : Option Addr
  n : Nat
  c : Nat
theorem loop_pos {l : Str} {k : Nat} {least : Int} {x : Ex} {t : PS} {r : PR Ex} (h : r = pLoop l k least x t) (hr : r ≠ .out) : ∃ m, k = m + 1 := by
  cases k with
  | zero => exact absurd h hr
  | succ m => exact ⟨m, rfl⟩
theorem op_ac (D : Nat) (X L : Hl) (s : World) (hG : GP s) (l : List UInt8) (t : PS) (bp : Nat) : AC Tryz.prog D 167 [.pointer (some ⟨bp, 0, none⟩)] (X ++ psB bp l t :: L) s fun v L' _ => ∃ y, (y = psB bp l t ∧ v = .int .i64 (binP t)) ∧ L' = X ++ y :: L := AC.cell (fun L => op0_ac D L s hG l t bp) X L
theorem expr_st (n : Nat) (ihA : CA n) (ihE : ∀ j, j ≤ n → CE j) (least : Int) : CP 150 [.int .i64 least] (fun l t => pExpr l (n + 1) least t) ExV := by
 intro D L s hG l t bp hl hg hr
 dsimp only at hr ⊢
 obtain ⟨r, hq⟩ : ∃ r, r = pExpr l (n + 1) least t := ⟨_, rfl⟩
 rw [← hq] at hr ⊢
 rw [pExpr] at hq
 refine AP_enter (TT := TT) (fn := Tryz.f150) TT_ok Tryz.func150 V Z Tryz.ntmps150 Z (rs := [.cell 4 97]) Z [(0, _), (1, _)] Z <| Sr <| JO_allocZ Z [_, _, _, _, _] Z Z ?_
 intro β1 s1 h1
 refine Nt <| Sr <| Zqm Z Z <| ?_
 refine JO_callP (first := []) (captured := []) Z Z Z (CP.at_ (ihA) D [_] _ _ (hG.le h1) l t bp hl hg (and_out hq hr)) ?_ ?_
 ·
  rintro _ _ sx2 hx2 ⟨hp9, t9, he9, hg9, rfl⟩ fr9
  repeat (first | refine thenQ_p ?_ | refine blockQ_p ?_)
  refine retP_x [_] _ (List.Perm.refl _) (h1.t hx2) (fun sR hS2 => ?_)
  rw [he9] at hq
  exact ⟨hp9, t9, hq, hg9, rfl⟩
 rintro _ _ s2 h2 ⟨x2, t2, he2, hg2, ⟨d2, A2, n2, c2, rfl, hE2, hu2, hn2⟩, rfl⟩
 rw [he2] at hq
 simp only [PR.and] at hq
 simp only [cQ9, nQ9]
 refine JO_allocZ Z [_, _, _, _, _] Z Z ?_
 intro β3 s3 h3
 refine Wt 0 [_, _, _, _, _] Y9 <| Nt <| Zs <| Sr <| Zqm Z Z <| Jc Z Z Z (op_ac D [_, _] _ _ (hG.le (h1.t h2|>.t h3)) l t2 bp) ?_
 rintro _ _ s4 h4 ⟨_, ⟨rfl, rfl⟩, rfl⟩
 simp only [cQ9, nQ9]
 refine At Z Z <| Zp <| ?_
 refine JC_loop (γ := XG) (fun g => [(0, _), (1, _), (4, _), (5, _), (6, .int .i64 (binP g.t))]) (fun g => (β3, cb [.int .i64 g.x.kind, .int .i64 g.x.op, .int .u32 g.x.num, St g.x.name, .slice g.A g.n g.c] 97) :: (β1, cb [.int .i64 0, .int .i64 0, .int .u32 0, St [], .slice none 0 0] 97) :: psB bp l g.t :: L) (fun g tw => Le D s4 tw ∧ (PG l g.t ∧ r = pLoop l g.k least g.x g.t ∧ g.k ≤ n ∧ (∃ d, Exs d tw g.A g.n g.c g.x.args) ∧ U32 g.x.num ∧ g.x.name.length ≤ 9223372036854775807)) (fun g => g.k) (fun _ _ _ h hl => ⟨h.1.trans hl, ⟨h.2.1, h.2.2.1, h.2.2.2.1, ⟨_, h.2.2.2.2.1.choose_spec.le hl⟩, h.2.2.2.2.2⟩⟩) ⟨n, x2, t2, A2, n2, c2⟩ (.cons Z (.cons Z (.cons Z (.cons Z (.cons Z (.nil _)))))) Z ⟨Le.refl _, ⟨hg2, hq, Nat.le_refl _, ⟨_, hE2.le (h3.t h4)⟩, hu2, hn2⟩⟩ ?_
 intro g s5 I5
 obtain ⟨k, x, t1, A1, n1, c1⟩ := g
 obtain ⟨hg1, hq, hkn, ⟨d1, hX⟩, hu1, hn1⟩ : PG l t1 ∧ r = pLoop l k least x t1 ∧ k ≤ n ∧ (∃ d, Exs d s5 A1 n1 c1 x.args) ∧ U32 x.num ∧ x.name.length ≤ 9223372036854775807 := I5.2
 obtain ⟨k, rfl⟩ := loop_pos hq hr
 rw [pLoop] at hq
 dsimp only
 refine Zs ?_
 refine JC_cutB 18 (binP t1 ≠ 0 ∧ least ≤ strg (binP t1)) ?_ ?_
 ·
  refine Zr <| Zqm Z Z <| Zqne Z Z Z <| Zqm Z Z <| ?_
  refine JO_caseN (t := 13) Z (fun c7 => ?_) (fun c7 => ?_)
  ·
   refine Zg Z Z <| Zqm Z Z <| Zg Z Z <| Jc Z Z Z (strength_ac D _ _ _) ?_
   rintro _ _ s8 h8 ⟨rfl, rfl⟩
   refine Zg Z Z <| Zqm Z Z <| Zg Z Z <| Zqge Z Z Z <| ZqT Z Z Z <| Zn <| ?_
   refine thenQ_n (MidB.mk h8 Sb Z (decide_eq_decide.2 O))
  refine Wf Y4 <| Wf Y4 <| Wf Y4 <| Wf Y4 <| ZqF Z Z Z <| Zn <| ?_
  refine thenQ_n (MidB.mk (Lr D) Sb Z ((decide_eq_false O).symm))
 intro s6 h6
 refine JC_ifD Z (fun c9 => ?_) (fun c9 => ?_)
 ·
  rw [if_pos c9] at hq
  refine Zk <| Zt <| Zs <| Zp <| Sr <| Zqm Z Z <| Jc Z Z Z (adv_ac D [_, _] _ _ (hG.le (h1.t h2|>.t h3|>.t h4|>.t I5.1|>.t h6)) l t1 bp hl hg1.hb) ?_
  rintro _ _ s10 h10 ⟨_, rfl, rfl⟩
  simp only [cQ9, nQ9]
  refine Nt <| JC_drawE drawsMixed 10 Z [2, 0] (by intro x hx; exact eraseAll_mem hx) ?_
  intro s11 h11
  refine za 0 Z (QE_mv Z) Z <| za 2 Z (QE_mv Z) Z <| za 3 Z (QE_mv Z) Z ?_
  refine JA_2 1 4 V ?_ ?_
  ·
   refine JB_q Z trivial (QE_ldA 0 [_, _, _, _, _] Z Z Z Z Z) Z <| JA_1 4 V <| Jb Z trivial Z Z Z (strength_ac D _ _ _) ?_
   rintro _ _ s12 h12 ⟨rfl, rfl⟩
   refine ⟨fun _ _ h => h, ?_⟩
   refine za 5 Z (QE_add' (c := strg (binP t1) + 1) Z Z (by have := strg_rng (binP t1); rw [w64 O O])) Z <| JA_1 6 V ?_
   refine JB_callP Z trivial (first := []) (captured := []) Z Z Z (CP.at_ (ihE k O (strg (binP t1) + 1)) D [_, _] _ _ (hG.le (h1.t h2|>.t h3|>.t h4|>.t I5.1|>.t h6|>.t h10|>.t h11|>.t h12)) l (advP l t1) bp hl hg1.adv (and_out hq hr)) ?_ ?_
   ·
    rintro _ _ sx13 hx13 ⟨hp9, t9, he9, hg9, rfl⟩ fr9
    repeat (first | refine thenQ_p ?_ | refine blockQ_p ?_)
    refine retP_x [_, _] _ (List.Perm.refl _) (h1.t h2|>.t h3|>.t h4|>.t I5.1|>.t h6|>.t h10|>.t h11|>.t h12|>.t hx13) (fun sR hS2 => ?_)
    rw [he9] at hq
    exact ⟨hp9, t9, hq, hg9, rfl⟩
   rintro _ _ s13 h13 ⟨x13, t13, he13, hg13, ⟨d13, A13, n13, c13, rfl, hE13, hu13, hn13⟩, rfl⟩
   refine ⟨(fun x hx _ => (fun _ hx => sub_mem (sbN (sbY (sbN (sbE _)))) hx) x hx), ?_⟩
   rw [he13] at hq
   simp only [PR.and] at hq
   simp only [cQ9, nQ9]
   refine JA_1 7 V <| JB_bs Z trivial [(_, _), (_, _)] [_, _, _, _, _, _, _, _, _, _] Z Z Z Z Z Z Z Z Z ?_
   intro β14 s14 h14 hc14
   refine za 8 Z (QE_build [(_, _), (_, _), (_, _)] [_, _, _, _, _] Z Z Z Z Z Z) Z <| JA_1 9 V <| Wu Z trivial 0 [_, _, _, _, _] Y9 (fun _ hx => sub_mem (sbY (sbN (sbE _))) hx) <| JA_done V <| Zb <| Zt <| Zr <| Zqm Z Z <| Jc Z Z Z (op_ac D [_, _] _ _ (hG.le (h1.t h2|>.t h3|>.t h4|>.t I5.1|>.t h6|>.t h10|>.t h11|>.t h12|>.t h13|>.t h14)) l t13 bp) ?_
   rintro _ _ s15 h15 ⟨_, ⟨rfl, rfl⟩, rfl⟩
   simp only [cQ9, nQ9]
   refine Zqa Z Z <| Zn <| ?_
   refine thenQ_n ⟨⟨k, .mk 7 (binP t1) 0 [] [x, x13], t13, some ⟨β14, 0, none⟩, 2, 2⟩, [], kp, Z, ⟨(I5.1.t h6|>.t h10|>.t h11|>.t h12|>.t h13|>.t h14|>.t h15), ⟨hg13, hq, (show k ≤ n by omega), ⟨_, ex_two (hc14.le h15) (hX.le (h6.t h10|>.t h11|>.t h12|>.t h13|>.t h14|>.t h15)) hu1 hn1 (hE13.le (h14.t h15)) hu13 hn13⟩, (show U32 0 from ⟨by decide, by decide⟩), (show ([] : Str).length ≤ 9223372036854775807 by decide)⟩⟩, (by show k < k + 1; omega)⟩
  refine Jb Z trivial Z Z Z (strength_ac D _ _ _) ?_
  rintro _ _ s16 h16 ⟨rfl, rfl⟩
  refine ⟨fun _ _ h => h, ?_⟩
  refine za 5 Z (QE_add' (c := strg (binP t1) + 1) Z Z (by have := strg_rng (binP t1); rw [w64 O O])) Z ?_
  refine JA_2 1 6 V ?_ ?_
  ·
   refine JB_q Z trivial (QE_ldA 0 [_, _, _, _, _] Z Z Z Z Z) Z <| JA_1 6 V ?_
   refine JB_callP Z trivial (first := []) (captured := []) Z Z Z (CP.at_ (ihE k O (strg (binP t1) + 1)) D [_, _] _ _ (hG.le (h1.t h2|>.t h3|>.t h4|>.t I5.1|>.t h6|>.t h10|>.t h11|>.t h16)) l (advP l t1) bp hl hg1.adv (and_out hq hr)) ?_ ?_
   ·
    rintro _ _ sx17 hx17 ⟨hp9, t9, he9, hg9, rfl⟩ fr9
    repeat (first | refine thenQ_p ?_ | refine blockQ_p ?_)
    refine retP_x [_, _] _ (List.Perm.refl _) (h1.t h2|>.t h3|>.t h4|>.t I5.1|>.t h6|>.t h10|>.t h11|>.t h16|>.t hx17) (fun sR hS2 => ?_)
    rw [he9] at hq
    exact ⟨hp9, t9, hq, hg9, rfl⟩
   rintro _ _ s17 h17 ⟨x17, t17, he17, hg17, ⟨d17, A17, n17, c17, rfl, hE17, hu17, hn17⟩, rfl⟩
   refine ⟨(fun x hx _ => (fun _ hx => sub_mem (sbN (sbY (sbN (sbE _)))) hx) x hx), ?_⟩
   rw [he17] at hq
   simp only [PR.and] at hq
   simp only [cQ9, nQ9]
   refine JA_1 7 V <| JB_bs Z trivial [(_, _), (_, _)] [_, _, _, _, _, _, _, _, _, _] Z Z Z Z Z Z Z Z Z ?_
   intro β18 s18 h18 hc18
   refine za 8 Z (QE_build [(_, _), (_, _), (_, _)] [_, _, _, _, _] Z Z Z Z Z Z) Z <| JA_1 9 V <| Wu Z trivial 0 [_, _, _, _, _] Y9 (fun _ hx => sub_mem (sbY (sbN (sbE _))) hx) <| JA_done V <| Zb <| Zt <| Zr <| Zqm Z Z <| Jc Z Z Z (op_ac D [_, _] _ _ (hG.le (h1.t h2|>.t h3|>.t h4|>.t I5.1|>.t h6|>.t h10|>.t h11|>.t h16|>.t h17|>.t h18)) l t17 bp) ?_
   rintro _ _ s19 h19 ⟨_, ⟨rfl, rfl⟩, rfl⟩
   simp only [cQ9, nQ9]
   refine Zqa Z Z <| Zn <| ?_
   refine thenQ_n ⟨⟨k, .mk 7 (binP t1) 0 [] [x, x17], t17, some ⟨β18, 0, none⟩, 2, 2⟩, [], kp, Z, ⟨(I5.1.t h6|>.t h10|>.t h11|>.t h16|>.t h17|>.t h18|>.t h19), ⟨hg17, hq, (show k ≤ n by omega), ⟨_, ex_two (hc18.le h19) (hX.le (h6.t h10|>.t h11|>.t h16|>.t h17|>.t h18|>.t h19)) hu1 hn1 (hE17.le (h18.t h19)) hu17 hn17⟩, (show U32 0 from ⟨by decide, by decide⟩), (show ([] : Str).length ≤ 9223372036854775807 by decide)⟩⟩, (by show k < k + 1; omega)⟩
  refine JB_callP Z trivial (first := []) (captured := []) Z Z Z (CP.at_ (ihE k O (strg (binP t1) + 1)) D [_, _] _ _ (hG.le (h1.t h2|>.t h3|>.t h4|>.t I5.1|>.t h6|>.t h10|>.t h11|>.t h16)) l (advP l t1) bp hl hg1.adv (and_out hq hr)) ?_ ?_
  ·
   rintro _ _ sx20 hx20 ⟨hp9, t9, he9, hg9, rfl⟩ fr9
   repeat (first | refine thenQ_p ?_ | refine blockQ_p ?_)
   refine retP_x [_, _] _ (List.Perm.refl _) (h1.t h2|>.t h3|>.t h4|>.t I5.1|>.t h6|>.t h10|>.t h11|>.t h16|>.t hx20) (fun sR hS2 => ?_)
   rw [he9] at hq
   exact ⟨hp9, t9, hq, hg9, rfl⟩
  rintro _ _ s20 h20 ⟨x20, t20, he20, hg20, ⟨d20, A20, n20, c20, rfl, hE20, hu20, hn20⟩, rfl⟩
  refine ⟨(fun x hx _ => (fun _ hx => sub_mem (sbN (sbY (sbN (sbE _)))) hx) x hx), ?_⟩
  rw [he20] at hq
  simp only [PR.and] at hq
  simp only [cQ9, nQ9]
  refine JA_1 1 V <| JB_q Z trivial (QE_ldA 0 [_, _, _, _, _] Z Z Z Z Z) Z <| JA_1 7 V <| JB_bs Z trivial [(_, _), (_, _)] [_, _, _, _, _, _, _, _, _, _] Z Z Z Z Z Z Z Z Z ?_
  intro β21 s21 h21 hc21
  refine za 8 Z (QE_build [(_, _), (_, _), (_, _)] [_, _, _, _, _] Z Z Z Z Z Z) Z <| JA_1 9 V <| Wu Z trivial 0 [_, _, _, _, _] Y9 (fun _ hx => sub_mem (sbY (sbN (sbE _))) hx) <| JA_done V <| Zb <| Zt <| Zr <| Zqm Z Z <| Jc Z Z Z (op_ac D [_, _] _ _ (hG.le (h1.t h2|>.t h3|>.t h4|>.t I5.1|>.t h6|>.t h10|>.t h11|>.t h16|>.t h20|>.t h21)) l t20 bp) ?_
  rintro _ _ s22 h22 ⟨_, ⟨rfl, rfl⟩, rfl⟩
  simp only [cQ9, nQ9]
  refine Zqa Z Z <| Zn <| ?_
  refine thenQ_n ⟨⟨k, .mk 7 (binP t1) 0 [] [x, x20], t20, some ⟨β21, 0, none⟩, 2, 2⟩, [], kp, Z, ⟨(I5.1.t h6|>.t h10|>.t h11|>.t h16|>.t h20|>.t h21|>.t h22), ⟨hg20, hq, (show k ≤ n by omega), ⟨_, ex_two (hc21.le h22) (hX.le (h6.t h10|>.t h11|>.t h16|>.t h20|>.t h21|>.t h22)) hu1 hn1 (hE20.le (h21.t h22)) hu20 hn20⟩, (show U32 0 from ⟨by decide, by decide⟩), (show ([] : Str).length ≤ 9223372036854775807 by decide)⟩⟩, (by show k < k + 1; omega)⟩
 rw [if_neg c9] at hq
 refine Zl <| Zv <| Zv <| Zd <| Zt <| Sr <| JO_q (QE_ldA 0 [_, _, _, _, _] Z Z Z Z Z) Z <| Wt 1 [_, _, _, _, _] Y9 <| Nt <| Zo <| ?_
 refine retP_mk [_, _] _ (.inr Z) (.agg (us := [_, _, _, _, _]) 1 Z Z Z Z Z (.nil)) Z (h1.t h2|>.t h3|>.t h4|>.t I5.1|>.t h6) (fun sR hS2 => ?_)
 exact ⟨_, _, hq, hg1, ⟨d1, A1, n1, c1, rfl, hX.le (h6.t hS2), hu1, hn1⟩, rfl⟩
end Go.Proofs.YtiljephghfngnaaGreatDoor
namespace Go.FL
open Go Go.RowKit
theorem nth_mid {P c Q : List Value} {off j : Nat} (h : P.length = off) (hj : j < c.length) : nth (P ++ (c ++ Q)) (off + j) = nth c j := by
  rw [nth_eq, nth_eq, List.getElem?_append_right O, show off + j - P.length = j by omega, List.getElem?_append_left hj]
theorem cut_of {zs vs : List Value} {off n : Nat} (hn : vs.length = n) (h : ∀ j v, vs[j]? = some v → zs[off + j]? = some v) : cut zs off n = some vs := by
  induction n generalizing off vs with
  | zero => rw [List.eq_nil_of_length_eq_zero hn]; rfl
  | succ n ih =>
    cases vs with
    | nil => cases hn
    | cons v vs =>
      have h1 := ih (off := off + 1) (vs := vs) (by simpa using hn) fun j u hj => by
        have := h (j + 1) u (by simpa using hj)
        rwa [show off + 1 + j = off + (j + 1) by omega]
      have h0 := h 0 v rfl
      simp only [cut, nth_eq]
      rw [show zs[off]? = some v from h0]
      simp only [h1]
theorem cut_mid {P c Q : List Value} {off n : Nat} (h : P.length = off) (hn : c.length = n) : cut (P ++ (c ++ Q)) off n = some c := by
  refine cut_of hn fun j v hj => ?_
  have hl := (List.getElem?_eq_some_iff.1 hj).1
  rw [List.getElem?_append_right O, show off + j - P.length = j by omega, List.getElem?_append_left hl]; exact hj
theorem splice_mid {P c v Q : List Value} {off : Nat} (h : P.length = off) (hv : v.length = c.length) : splice (P ++ (c ++ Q)) off v = P ++ (v ++ Q) := by
  rw [splice_eq _ _ _ (by simp only [List.length_append]; omega), List.take_append_of_le_length O, List.take_of_length_le O, List.append_assoc]
  congr 2
  rw [← List.append_assoc, List.drop_append_of_le_length (by simp only [List.length_append]; omega), List.drop_of_length_le (by simp only [List.length_append]; omega)]; rfl
theorem ble_mid {P c Q : List Value} {off n : Nat} (h : P.length = off) (hn : c.length = n) : Nat.ble (off + n) (P ++ (c ++ Q)).length = true := Nat.ble_eq_true_of_le (by simp only [List.length_append]; omega)
end Go.FL
namespace Go.Proofs.YtiljephghfngnaaGreatDoor
open Go Go.FL Go.RowKit
open Go.FL
attribute [local irreducible] JC JO JA JB thenQ blockQ retQ AC fill CellsAt QE Ev Mid
theorem own_some {e sz n : Nat} {M : Hl} {v : Value} {xs : List Value} (h : FL.Own e sz M v n xs) (hn : 0 < n) : ∃ b cap ys, M = [(b, cb (xs ++ ys) e)] ∧ v = .slice (some ⟨b, 0, none⟩) n cap ∧ xs.length = n * sz ∧ xs.length + ys.length = cap * sz ∧ n ≤ cap ∧ cap ≤ 9223372036854775807 := by
  cases h with
  | nil => omega
  | blk b cap n xs ys h1 h2 h3 h4 => exact ⟨b, cap, ys, rfl, rfl, h1, h2, h3, h4⟩
theorem mK {x a : Nat × Obj} {l : Hl} (i : Nat) (hx : x ∈ [a]) (h : l[i]? = some a) : x ∈ l := by
  cases List.mem_singleton.1 hx
  exact List.mem_of_getElem? h
theorem all2_flat {α : Type} {sz : Nat} {R : α → List Value → Prop} {l : List α} {css : List (List Value)} (h : All2 (fun x cs => cs.length = sz ∧ R x cs) l css) : css.flatten.length = l.length * sz := by
  induction h with
  | nil => simp
  | cons h _ ih => rw [List.flatten_cons, List.length_append, ih, h.1, List.length_cons, Nat.succ_mul]; omega
theorem all2_snoc {α : Type} {R : α → List Value → Prop} {l : List α} {css : List (List Value)} {x : α} {cs : List Value} (h : All2 R l css) (hx : R x cs) : All2 R (l ++ [x]) (css ++ [cs]) := by
  induction h with
  | nil => exact .cons hx .nil
  | cons h _ ih => exact .cons h ih
theorem all2_imp {α : Type} {R R' : α → List Value → Prop} {l : List α} {css : List (List Value)} (h : All2 R l css) (hi : ∀ x cs, R x cs → R' x cs) : All2 R' l css := by
  induction h with
  | nil => exact .nil
  | cons h _ ih => exact .cons (hi _ _ h) ih
theorem args1_ap (k : Nat) (ihE : CE k) (D : Nat) (L : Hl) (s : World) (hG : GP s) (l : List UInt8) (t : PS) (bp bo b1 : Nat) (hl : l.length ≤ 12000) (hg : PG l t) (xs : List Ex) (v : Value) (M : Hl) (css : List (List Value)) (d : Nat) (hO : FL.Own 97 5 M v xs.length css.flatten) (hA : All2 (fun x cs => cs.length = 5 ∧ ExR d s x cs) xs css) (hx : xs.length ≤ 1000000) (hr : pExpr l k 1 t ≠ .out) : AP Tryz.prog D 173 [.pointer (some ⟨bo, 0, none⟩), .pointer (some ⟨b1, 0, none⟩)] (psB bp l t :: (bo, cb [v] 95) :: (b1, cb [.pointer (some ⟨bp, 0, none⟩)] 65) :: (M ++ L)) s (fun _ L' s' => ∃ x t' v' M' css' d', pExpr l k 1 t = .ok x t' ∧ PG l t' ∧ L' = psB bp l t' :: (bo, cb [v'] 95) :: (b1, cb [.pointer (some ⟨bp, 0, none⟩)] 65) :: (M' ++ L) ∧ FL.Own 97 5 M' v' (xs ++ [x]).length css'.flatten ∧ All2 (fun x cs => cs.length = 5 ∧ ExR d' s' x cs) (xs ++ [x]) css') (fun ch L' _ => Pan ch ∧ ∃ t' v' M', pExpr l k 1 t = .er t' ∧ PG l t' ∧ L' = psB bp l t' :: (bo, cb [v'] 95) :: (b1, cb [.pointer (some ⟨bp, 0, none⟩)] 65) :: (M' ++ L)) := by
 obtain ⟨r, hq⟩ : ∃ r, r = pExpr l k 1 t := ⟨_, rfl⟩
 rw [← hq] at hr ⊢
 obtain ⟨A0, c0, rfl, hc1, hc2⟩ := Own.slice hO
 refine AP_enter (TT := TT) (fn := Tryz.f173) TT_ok Tryz.func173 V Z Tryz.ntmps173 Z (rs := []) Z [(0, _), (1, _)] Z <| JC_draw drawsMixed 9 Z [(b1, cb [.pointer (some ⟨bp, 0, none⟩)] 65)] (fun x hx => mK 2 hx Z) ?_
 intro s1 h1
 refine za 1 Z (Wd 0 Y5) Z ?_
 refine JA_3 0 2 4 V ?_ ?_ ?_
 ·
  refine JB_q Z trivial (Wd 1 Y5) Z <| za 3 Z (QE_lenS Z Z Z) Z ?_
  refine JA_2 2 4 V ?_ ?_
  ·
   refine JB_callP Z trivial (first := []) (captured := []) Z Z Z (CP.at_ (ihE 1) D [] _ _ (hG.le h1) l t bp hl hg (by rw [← hq]; exact hr)) ?_ ?_
   ·
    rintro _ _ sx2 hx2 ⟨hp9, t9, he9, hg9, rfl⟩ fr9
    repeat (first | refine thenQ_p ?_ | refine blockQ_p ?_)
    refine retP_x [] _ (List.Perm.refl _) (h1.t hx2) (fun sR hS2 => ?_)
    rw [he9] at hq
    exact ⟨hp9, t9, _, M, hq, hg9, rfl⟩
   rintro _ _ s2 h2 ⟨x2, t2, he2, hg2, ⟨d2, A2, n2, c2, rfl, hE2, hu2, hn2⟩, rfl⟩
   refine ⟨(fun x hx _ => mK 2 hx Z), ?_⟩
   rw [he2] at hq
   simp only [cQ9, nQ9]
   refine JA_1 4 V <| JB_bs Z trivial [(_, _)] [_, _, _, _, _] Z Z Z Z Z Z Z Z Z ?_
   intro β3 s3 h3 hc3
   refine JA_1 5 V <| JB_app (sz := 5) Z trivial [_, _, _] M L Z Z Z Z Z Z Z hO (Row.of_cells (hc3.le (Lr D)) Z Z) ⟨by simp [ti97]; omega, by omega⟩ Z (fun _ x hx _ => mK 2 hx Z) ?_
   intro v9 M9 s4 h4 oq
   obtain ⟨b9, cap9, ys9, rfl, rfl, hl9, hy9, hn9, hm9⟩ := own_some oq O
   have hP : css.flatten.length = 0 + xs.length * 5 := by rw [all2_flat hA]; omega
   simp only [List.cons_append, List.nil_append, List.append_assoc]
   refine za 6 Z (QE_iaN (j := xs.length) Z Z Z Z Z Z O) Z ?_
   refine JA_2 7 8 V ?_ ?_
   ·
    refine JB_st Z trivial 3 (css.flatten ++ ([.int .i64 x2.kind, .int .i64 x2.op, .int .u32 x2.num, St x2.name, .slice A2 n2 c2] ++ ys9)) Z Z Z Z Z (ble_mid (c := [_, _, _, _, _]) (Q := ys9) (n := 5) hP Z) Z (splice_mid (c := [_, _, _, _, _]) (Q := ys9) hP Z) Z (fun x hx => mK 2 hx Z) <| JA_1 8 V <| Wu Z trivial 1 [_] Y9 (fun x hx => mK 1 hx Z) <| JA_done V ?_
    refine retP_mk [] _ (.inl Z) (.nil) Z (h1.t h2|>.t h3|>.t h4) (fun sR hS2 => ?_)
    refine ⟨x2, t2, _, [_], css ++ [[.int .i64 x2.kind, .int .i64 x2.op, .int .u32 x2.num, St x2.name, .slice A2 n2 c2]], d + d2 + 1, hq, hg2, Z, ?_, all2_snoc (all2_imp hA fun x cs hx => ⟨hx.1, (hx.2.le (h1.t h2|>.t h3|>.t h4|>.t hS2)).up O⟩) ⟨Z, _, _, _, Z, (hE2.le (h3.t h4|>.t hS2)).up O, hu2, hn2⟩⟩
    rw [List.flatten_append, List.length_append]
    simp only [List.flatten_cons, List.flatten_nil, List.append_nil, List.length_cons, List.length_nil]
    rw [← List.append_assoc]
    exact .blk _ _ _ _ _ (by rw [List.length_append, hP]; simp only [List.length_cons, List.length_nil]; omega) (by rw [List.length_append] at hy9 ⊢; exact hy9) hn9 hm9
   refine Wu Z trivial 1 [_] Y9 (fun x hx => mK 1 hx Z) <| JA_1 7 V <| JB_st Z trivial 3 (css.flatten ++ ([.int .i64 x2.kind, .int .i64 x2.op, .int .u32 x2.num, St x2.name, .slice A2 n2 c2] ++ ys9)) Z Z Z Z Z (ble_mid (c := [_, _, _, _, _]) (Q := ys9) (n := 5) hP Z) Z (splice_mid (c := [_, _, _, _, _]) (Q := ys9) hP Z) Z (fun x hx => mK 2 hx Z) <| JA_done V ?_
   refine retP_mk [] _ (.inl Z) (.nil) Z (h1.t h2|>.t h3|>.t h4) (fun sR hS2 => ?_)
   refine ⟨x2, t2, _, [_], css ++ [[.int .i64 x2.kind, .int .i64 x2.op, .int .u32 x2.num, St x2.name, .slice A2 n2 c2]], d + d2 + 1, hq, hg2, Z, ?_, all2_snoc (all2_imp hA fun x cs hx => ⟨hx.1, (hx.2.le (h1.t h2|>.t h3|>.t h4|>.t hS2)).up O⟩) ⟨Z, _, _, _, Z, (hE2.le (h3.t h4|>.t hS2)).up O, hu2, hn2⟩⟩
   rw [List.flatten_append, List.length_append]
   simp only [List.flatten_cons, List.flatten_nil, List.append_nil, List.length_cons, List.length_nil]
   rw [← List.append_assoc]
   exact .blk _ _ _ _ _ (by rw [List.length_append, hP]; simp only [List.length_cons, List.length_nil]; omega) (by rw [List.length_append] at hy9 ⊢; exact hy9) hn9 hm9
  refine JB_bs Z trivial [(_, _)] [_, _, _, _, _] Z Z Z Z Z Z Z Z Z ?_
  intro β7 s7 h7 hc7
  refine JA_1 2 V ?_
  refine JB_callP Z trivial (first := []) (captured := []) Z Z Z (CP.at_ (ihE 1) D [] _ _ (hG.le (h1.t h7)) l t bp hl hg (by rw [← hq]; exact hr)) ?_ ?_
  ·
   rintro _ _ sx8 hx8 ⟨hp9, t9, he9, hg9, rfl⟩ fr9
   repeat (first | refine thenQ_p ?_ | refine blockQ_p ?_)
   refine retP_x [] _ (List.Perm.refl _) (h1.t h7|>.t hx8) (fun sR hS2 => ?_)
   rw [he9] at hq
   exact ⟨hp9, t9, _, M, hq, hg9, rfl⟩
  rintro _ _ s8 h8 ⟨x8, t8, he8, hg8, ⟨d8, A8, n8, c8, rfl, hE8, hu8, hn8⟩, rfl⟩
  refine ⟨(fun x hx _ => mK 2 hx Z), ?_⟩
  rw [he8] at hq
  simp only [cQ9, nQ9]
  refine JA_1 5 V <| JB_app (sz := 5) Z trivial [_, _, _] M L Z Z Z Z Z Z Z hO (Row.of_cells (hc7.le h8) Z Z) ⟨by simp [ti97]; omega, by omega⟩ Z (fun _ x hx _ => mK 2 hx Z) ?_
  intro v9 M9 s9 h9 oq
  obtain ⟨b9, cap9, ys9, rfl, rfl, hl9, hy9, hn9, hm9⟩ := own_some oq O
  have hP : css.flatten.length = 0 + xs.length * 5 := by rw [all2_flat hA]; omega
  simp only [List.cons_append, List.nil_append, List.append_assoc]
  refine za 6 Z (QE_iaN (j := xs.length) Z Z Z Z Z Z O) Z ?_
  refine JA_2 7 8 V ?_ ?_
  ·
   refine JB_st Z trivial 3 (css.flatten ++ ([.int .i64 x8.kind, .int .i64 x8.op, .int .u32 x8.num, St x8.name, .slice A8 n8 c8] ++ ys9)) Z Z Z Z Z (ble_mid (c := [_, _, _, _, _]) (Q := ys9) (n := 5) hP Z) Z (splice_mid (c := [_, _, _, _, _]) (Q := ys9) hP Z) Z (fun x hx => mK 2 hx Z) <| JA_1 8 V <| Wu Z trivial 1 [_] Y9 (fun x hx => mK 1 hx Z) <| JA_done V ?_
   refine retP_mk [] _ (.inl Z) (.nil) Z (h1.t h7|>.t h8|>.t h9) (fun sR hS2 => ?_)
   refine ⟨x8, t8, _, [_], css ++ [[.int .i64 x8.kind, .int .i64 x8.op, .int .u32 x8.num, St x8.name, .slice A8 n8 c8]], d + d8 + 1, hq, hg8, Z, ?_, all2_snoc (all2_imp hA fun x cs hx => ⟨hx.1, (hx.2.le (h1.t h7|>.t h8|>.t h9|>.t hS2)).up O⟩) ⟨Z, _, _, _, Z, (hE8.le (h9.t hS2)).up O, hu8, hn8⟩⟩
   rw [List.flatten_append, List.length_append]
   simp only [List.flatten_cons, List.flatten_nil, List.append_nil, List.length_cons, List.length_nil]
   rw [← List.append_assoc]
   exact .blk _ _ _ _ _ (by rw [List.length_append, hP]; simp only [List.length_cons, List.length_nil]; omega) (by rw [List.length_append] at hy9 ⊢; exact hy9) hn9 hm9
  refine Wu Z trivial 1 [_] Y9 (fun x hx => mK 1 hx Z) <| JA_1 7 V <| JB_st Z trivial 3 (css.flatten ++ ([.int .i64 x8.kind, .int .i64 x8.op, .int .u32 x8.num, St x8.name, .slice A8 n8 c8] ++ ys9)) Z Z Z Z Z (ble_mid (c := [_, _, _, _, _]) (Q := ys9) (n := 5) hP Z) Z (splice_mid (c := [_, _, _, _, _]) (Q := ys9) hP Z) Z (fun x hx => mK 2 hx Z) <| JA_done V ?_
  refine retP_mk [] _ (.inl Z) (.nil) Z (h1.t h7|>.t h8|>.t h9) (fun sR hS2 => ?_)
  refine ⟨x8, t8, _, [_], css ++ [[.int .i64 x8.kind, .int .i64 x8.op, .int .u32 x8.num, St x8.name, .slice A8 n8 c8]], d + d8 + 1, hq, hg8, Z, ?_, all2_snoc (all2_imp hA fun x cs hx => ⟨hx.1, (hx.2.le (h1.t h7|>.t h8|>.t h9|>.t hS2)).up O⟩) ⟨Z, _, _, _, Z, (hE8.le (h9.t hS2)).up O, hu8, hn8⟩⟩
  rw [List.flatten_append, List.length_append]
  simp only [List.flatten_cons, List.flatten_nil, List.append_nil, List.length_cons, List.length_nil]
  rw [← List.append_assoc]
  exact .blk _ _ _ _ _ (by rw [List.length_append, hP]; simp only [List.length_cons, List.length_nil]; omega) (by rw [List.length_append] at hy9 ⊢; exact hy9) hn9 hm9
 ·
  refine JB_callP Z trivial (first := []) (captured := []) Z Z Z (CP.at_ (ihE 1) D [] _ _ (hG.le h1) l t bp hl hg (by rw [← hq]; exact hr)) ?_ ?_
  ·
   rintro _ _ sx12 hx12 ⟨hp9, t9, he9, hg9, rfl⟩ fr9
   repeat (first | refine thenQ_p ?_ | refine blockQ_p ?_)
   refine retP_x [] _ (List.Perm.refl _) (h1.t hx12) (fun sR hS2 => ?_)
   rw [he9] at hq
   exact ⟨hp9, t9, _, M, hq, hg9, rfl⟩
  rintro _ _ s12 h12 ⟨x12, t12, he12, hg12, ⟨d12, A12, n12, c12, rfl, hE12, hu12, hn12⟩, rfl⟩
  refine ⟨(fun x hx _ => mK 2 hx Z), ?_⟩
  rw [he12] at hq
  simp only [cQ9, nQ9]
  refine JA_2 0 4 V ?_ ?_
  ·
   refine JB_q Z trivial (Wd 1 Y5) Z <| za 3 Z (QE_lenS Z Z Z) Z <| JA_1 4 V <| JB_bs Z trivial [(_, _)] [_, _, _, _, _] Z Z Z Z Z Z Z Z Z ?_
   intro β13 s13 h13 hc13
   refine JA_1 5 V <| JB_app (sz := 5) Z trivial [_, _, _] M L Z Z Z Z Z Z Z hO (Row.of_cells (hc13.le (Lr D)) Z Z) ⟨by simp [ti97]; omega, by omega⟩ Z (fun _ x hx _ => mK 2 hx Z) ?_
   intro v9 M9 s14 h14 oq
   obtain ⟨b9, cap9, ys9, rfl, rfl, hl9, hy9, hn9, hm9⟩ := own_some oq O
   have hP : css.flatten.length = 0 + xs.length * 5 := by rw [all2_flat hA]; omega
   simp only [List.cons_append, List.nil_append, List.append_assoc]
   refine za 6 Z (QE_iaN (j := xs.length) Z Z Z Z Z Z O) Z ?_
   refine JA_2 7 8 V ?_ ?_
   ·
    refine JB_st Z trivial 3 (css.flatten ++ ([.int .i64 x12.kind, .int .i64 x12.op, .int .u32 x12.num, St x12.name, .slice A12 n12 c12] ++ ys9)) Z Z Z Z Z (ble_mid (c := [_, _, _, _, _]) (Q := ys9) (n := 5) hP Z) Z (splice_mid (c := [_, _, _, _, _]) (Q := ys9) hP Z) Z (fun x hx => mK 2 hx Z) <| JA_1 8 V <| Wu Z trivial 1 [_] Y9 (fun x hx => mK 1 hx Z) <| JA_done V ?_
    refine retP_mk [] _ (.inl Z) (.nil) Z (h1.t h12|>.t h13|>.t h14) (fun sR hS2 => ?_)
    refine ⟨x12, t12, _, [_], css ++ [[.int .i64 x12.kind, .int .i64 x12.op, .int .u32 x12.num, St x12.name, .slice A12 n12 c12]], d + d12 + 1, hq, hg12, Z, ?_, all2_snoc (all2_imp hA fun x cs hx => ⟨hx.1, (hx.2.le (h1.t h12|>.t h13|>.t h14|>.t hS2)).up O⟩) ⟨Z, _, _, _, Z, (hE12.le (h13.t h14|>.t hS2)).up O, hu12, hn12⟩⟩
    rw [List.flatten_append, List.length_append]
    simp only [List.flatten_cons, List.flatten_nil, List.append_nil, List.length_cons, List.length_nil]
    rw [← List.append_assoc]
    exact .blk _ _ _ _ _ (by rw [List.length_append, hP]; simp only [List.length_cons, List.length_nil]; omega) (by rw [List.length_append] at hy9 ⊢; exact hy9) hn9 hm9
   refine Wu Z trivial 1 [_] Y9 (fun x hx => mK 1 hx Z) <| JA_1 7 V <| JB_st Z trivial 3 (css.flatten ++ ([.int .i64 x12.kind, .int .i64 x12.op, .int .u32 x12.num, St x12.name, .slice A12 n12 c12] ++ ys9)) Z Z Z Z Z (ble_mid (c := [_, _, _, _, _]) (Q := ys9) (n := 5) hP Z) Z (splice_mid (c := [_, _, _, _, _]) (Q := ys9) hP Z) Z (fun x hx => mK 2 hx Z) <| JA_done V ?_
   refine retP_mk [] _ (.inl Z) (.nil) Z (h1.t h12|>.t h13|>.t h14) (fun sR hS2 => ?_)
   refine ⟨x12, t12, _, [_], css ++ [[.int .i64 x12.kind, .int .i64 x12.op, .int .u32 x12.num, St x12.name, .slice A12 n12 c12]], d + d12 + 1, hq, hg12, Z, ?_, all2_snoc (all2_imp hA fun x cs hx => ⟨hx.1, (hx.2.le (h1.t h12|>.t h13|>.t h14|>.t hS2)).up O⟩) ⟨Z, _, _, _, Z, (hE12.le (h13.t h14|>.t hS2)).up O, hu12, hn12⟩⟩
   rw [List.flatten_append, List.length_append]
   simp only [List.flatten_cons, List.flatten_nil, List.append_nil, List.length_cons, List.length_nil]
   rw [← List.append_assoc]
   exact .blk _ _ _ _ _ (by rw [List.length_append, hP]; simp only [List.length_cons, List.length_nil]; omega) (by rw [List.length_append] at hy9 ⊢; exact hy9) hn9 hm9
  refine JB_bs Z trivial [(_, _)] [_, _, _, _, _] Z Z Z Z Z Z Z Z Z ?_
  intro β17 s17 h17 hc17
  refine JA_1 0 V <| JB_q Z trivial (Wd 1 Y5) Z <| za 3 Z (QE_lenS Z Z Z) Z <| JA_1 5 V <| JB_app (sz := 5) Z trivial [_, _, _] M L Z Z Z Z Z Z Z hO (Row.of_cells (hc17.le (Lr D)) Z Z) ⟨by simp [ti97]; omega, by omega⟩ Z (fun _ x hx _ => mK 2 hx Z) ?_
  intro v9 M9 s18 h18 oq
  obtain ⟨b9, cap9, ys9, rfl, rfl, hl9, hy9, hn9, hm9⟩ := own_some oq O
  have hP : css.flatten.length = 0 + xs.length * 5 := by rw [all2_flat hA]; omega
  simp only [List.cons_append, List.nil_append, List.append_assoc]
  refine za 6 Z (QE_iaN (j := xs.length) Z Z Z Z Z Z O) Z ?_
  refine JA_2 7 8 V ?_ ?_
  ·
   refine JB_st Z trivial 3 (css.flatten ++ ([.int .i64 x12.kind, .int .i64 x12.op, .int .u32 x12.num, St x12.name, .slice A12 n12 c12] ++ ys9)) Z Z Z Z Z (ble_mid (c := [_, _, _, _, _]) (Q := ys9) (n := 5) hP Z) Z (splice_mid (c := [_, _, _, _, _]) (Q := ys9) hP Z) Z (fun x hx => mK 2 hx Z) <| JA_1 8 V <| Wu Z trivial 1 [_] Y9 (fun x hx => mK 1 hx Z) <| JA_done V ?_
   refine retP_mk [] _ (.inl Z) (.nil) Z (h1.t h12|>.t h17|>.t h18) (fun sR hS2 => ?_)
   refine ⟨x12, t12, _, [_], css ++ [[.int .i64 x12.kind, .int .i64 x12.op, .int .u32 x12.num, St x12.name, .slice A12 n12 c12]], d + d12 + 1, hq, hg12, Z, ?_, all2_snoc (all2_imp hA fun x cs hx => ⟨hx.1, (hx.2.le (h1.t h12|>.t h17|>.t h18|>.t hS2)).up O⟩) ⟨Z, _, _, _, Z, (hE12.le (h17.t h18|>.t hS2)).up O, hu12, hn12⟩⟩
   rw [List.flatten_append, List.length_append]
   simp only [List.flatten_cons, List.flatten_nil, List.append_nil, List.length_cons, List.length_nil]
   rw [← List.append_assoc]
   exact .blk _ _ _ _ _ (by rw [List.length_append, hP]; simp only [List.length_cons, List.length_nil]; omega) (by rw [List.length_append] at hy9 ⊢; exact hy9) hn9 hm9
  refine Wu Z trivial 1 [_] Y9 (fun x hx => mK 1 hx Z) <| JA_1 7 V <| JB_st Z trivial 3 (css.flatten ++ ([.int .i64 x12.kind, .int .i64 x12.op, .int .u32 x12.num, St x12.name, .slice A12 n12 c12] ++ ys9)) Z Z Z Z Z (ble_mid (c := [_, _, _, _, _]) (Q := ys9) (n := 5) hP Z) Z (splice_mid (c := [_, _, _, _, _]) (Q := ys9) hP Z) Z (fun x hx => mK 2 hx Z) <| JA_done V ?_
  refine retP_mk [] _ (.inl Z) (.nil) Z (h1.t h12|>.t h17|>.t h18) (fun sR hS2 => ?_)
  refine ⟨x12, t12, _, [_], css ++ [[.int .i64 x12.kind, .int .i64 x12.op, .int .u32 x12.num, St x12.name, .slice A12 n12 c12]], d + d12 + 1, hq, hg12, Z, ?_, all2_snoc (all2_imp hA fun x cs hx => ⟨hx.1, (hx.2.le (h1.t h12|>.t h17|>.t h18|>.t hS2)).up O⟩) ⟨Z, _, _, _, Z, (hE12.le (h17.t h18|>.t hS2)).up O, hu12, hn12⟩⟩
  rw [List.flatten_append, List.length_append]
  simp only [List.flatten_cons, List.flatten_nil, List.append_nil, List.length_cons, List.length_nil]
  rw [← List.append_assoc]
  exact .blk _ _ _ _ _ (by rw [List.length_append, hP]; simp only [List.length_cons, List.length_nil]; omega) (by rw [List.length_append] at hy9 ⊢; exact hy9) hn9 hm9
 refine JB_bs Z trivial [(_, _)] [_, _, _, _, _] Z Z Z Z Z Z Z Z Z ?_
 intro β21 s21 h21 hc21
 refine JA_2 0 2 V ?_ ?_
 ·
  refine JB_q Z trivial (Wd 1 Y5) Z <| za 3 Z (QE_lenS Z Z Z) Z <| JA_1 2 V ?_
  refine JB_callP Z trivial (first := []) (captured := []) Z Z Z (CP.at_ (ihE 1) D [] _ _ (hG.le (h1.t h21)) l t bp hl hg (by rw [← hq]; exact hr)) ?_ ?_
  ·
   rintro _ _ sx22 hx22 ⟨hp9, t9, he9, hg9, rfl⟩ fr9
   repeat (first | refine thenQ_p ?_ | refine blockQ_p ?_)
   refine retP_x [] _ (List.Perm.refl _) (h1.t h21|>.t hx22) (fun sR hS2 => ?_)
   rw [he9] at hq
   exact ⟨hp9, t9, _, M, hq, hg9, rfl⟩
  rintro _ _ s22 h22 ⟨x22, t22, he22, hg22, ⟨d22, A22, n22, c22, rfl, hE22, hu22, hn22⟩, rfl⟩
  refine ⟨(fun x hx _ => mK 2 hx Z), ?_⟩
  rw [he22] at hq
  simp only [cQ9, nQ9]
  refine JA_1 5 V <| JB_app (sz := 5) Z trivial [_, _, _] M L Z Z Z Z Z Z Z hO (Row.of_cells (hc21.le h22) Z Z) ⟨by simp [ti97]; omega, by omega⟩ Z (fun _ x hx _ => mK 2 hx Z) ?_
  intro v9 M9 s23 h23 oq
  obtain ⟨b9, cap9, ys9, rfl, rfl, hl9, hy9, hn9, hm9⟩ := own_some oq O
  have hP : css.flatten.length = 0 + xs.length * 5 := by rw [all2_flat hA]; omega
  simp only [List.cons_append, List.nil_append, List.append_assoc]
  refine za 6 Z (QE_iaN (j := xs.length) Z Z Z Z Z Z O) Z ?_
  refine JA_2 7 8 V ?_ ?_
  ·
   refine JB_st Z trivial 3 (css.flatten ++ ([.int .i64 x22.kind, .int .i64 x22.op, .int .u32 x22.num, St x22.name, .slice A22 n22 c22] ++ ys9)) Z Z Z Z Z (ble_mid (c := [_, _, _, _, _]) (Q := ys9) (n := 5) hP Z) Z (splice_mid (c := [_, _, _, _, _]) (Q := ys9) hP Z) Z (fun x hx => mK 2 hx Z) <| JA_1 8 V <| Wu Z trivial 1 [_] Y9 (fun x hx => mK 1 hx Z) <| JA_done V ?_
   refine retP_mk [] _ (.inl Z) (.nil) Z (h1.t h21|>.t h22|>.t h23) (fun sR hS2 => ?_)
   refine ⟨x22, t22, _, [_], css ++ [[.int .i64 x22.kind, .int .i64 x22.op, .int .u32 x22.num, St x22.name, .slice A22 n22 c22]], d + d22 + 1, hq, hg22, Z, ?_, all2_snoc (all2_imp hA fun x cs hx => ⟨hx.1, (hx.2.le (h1.t h21|>.t h22|>.t h23|>.t hS2)).up O⟩) ⟨Z, _, _, _, Z, (hE22.le (h23.t hS2)).up O, hu22, hn22⟩⟩
   rw [List.flatten_append, List.length_append]
   simp only [List.flatten_cons, List.flatten_nil, List.append_nil, List.length_cons, List.length_nil]
   rw [← List.append_assoc]
   exact .blk _ _ _ _ _ (by rw [List.length_append, hP]; simp only [List.length_cons, List.length_nil]; omega) (by rw [List.length_append] at hy9 ⊢; exact hy9) hn9 hm9
  refine Wu Z trivial 1 [_] Y9 (fun x hx => mK 1 hx Z) <| JA_1 7 V <| JB_st Z trivial 3 (css.flatten ++ ([.int .i64 x22.kind, .int .i64 x22.op, .int .u32 x22.num, St x22.name, .slice A22 n22 c22] ++ ys9)) Z Z Z Z Z (ble_mid (c := [_, _, _, _, _]) (Q := ys9) (n := 5) hP Z) Z (splice_mid (c := [_, _, _, _, _]) (Q := ys9) hP Z) Z (fun x hx => mK 2 hx Z) <| JA_done V ?_
  refine retP_mk [] _ (.inl Z) (.nil) Z (h1.t h21|>.t h22|>.t h23) (fun sR hS2 => ?_)
  refine ⟨x22, t22, _, [_], css ++ [[.int .i64 x22.kind, .int .i64 x22.op, .int .u32 x22.num, St x22.name, .slice A22 n22 c22]], d + d22 + 1, hq, hg22, Z, ?_, all2_snoc (all2_imp hA fun x cs hx => ⟨hx.1, (hx.2.le (h1.t h21|>.t h22|>.t h23|>.t hS2)).up O⟩) ⟨Z, _, _, _, Z, (hE22.le (h23.t hS2)).up O, hu22, hn22⟩⟩
  rw [List.flatten_append, List.length_append]
  simp only [List.flatten_cons, List.flatten_nil, List.append_nil, List.length_cons, List.length_nil]
  rw [← List.append_assoc]
  exact .blk _ _ _ _ _ (by rw [List.length_append, hP]; simp only [List.length_cons, List.length_nil]; omega) (by rw [List.length_append] at hy9 ⊢; exact hy9) hn9 hm9
 refine JB_callP Z trivial (first := []) (captured := []) Z Z Z (CP.at_ (ihE 1) D [] _ _ (hG.le (h1.t h21)) l t bp hl hg (by rw [← hq]; exact hr)) ?_ ?_
 ·
  rintro _ _ sx26 hx26 ⟨hp9, t9, he9, hg9, rfl⟩ fr9
  repeat (first | refine thenQ_p ?_ | refine blockQ_p ?_)
  refine retP_x [] _ (List.Perm.refl _) (h1.t h21|>.t hx26) (fun sR hS2 => ?_)
  rw [he9] at hq
  exact ⟨hp9, t9, _, M, hq, hg9, rfl⟩
 rintro _ _ s26 h26 ⟨x26, t26, he26, hg26, ⟨d26, A26, n26, c26, rfl, hE26, hu26, hn26⟩, rfl⟩
 refine ⟨(fun x hx _ => mK 2 hx Z), ?_⟩
 rw [he26] at hq
 simp only [cQ9, nQ9]
 refine JA_1 0 V <| JB_q Z trivial (Wd 1 Y5) Z <| za 3 Z (QE_lenS Z Z Z) Z <| JA_1 5 V <| JB_app (sz := 5) Z trivial [_, _, _] M L Z Z Z Z Z Z Z hO (Row.of_cells (hc21.le h26) Z Z) ⟨by simp [ti97]; omega, by omega⟩ Z (fun _ x hx _ => mK 2 hx Z) ?_
 intro v9 M9 s27 h27 oq
 obtain ⟨b9, cap9, ys9, rfl, rfl, hl9, hy9, hn9, hm9⟩ := own_some oq O
 have hP : css.flatten.length = 0 + xs.length * 5 := by rw [all2_flat hA]; omega
 simp only [List.cons_append, List.nil_append, List.append_assoc]
 refine za 6 Z (QE_iaN (j := xs.length) Z Z Z Z Z Z O) Z ?_
 refine JA_2 7 8 V ?_ ?_
 ·
  refine JB_st Z trivial 3 (css.flatten ++ ([.int .i64 x26.kind, .int .i64 x26.op, .int .u32 x26.num, St x26.name, .slice A26 n26 c26] ++ ys9)) Z Z Z Z Z (ble_mid (c := [_, _, _, _, _]) (Q := ys9) (n := 5) hP Z) Z (splice_mid (c := [_, _, _, _, _]) (Q := ys9) hP Z) Z (fun x hx => mK 2 hx Z) <| JA_1 8 V <| Wu Z trivial 1 [_] Y9 (fun x hx => mK 1 hx Z) <| JA_done V ?_
  refine retP_mk [] _ (.inl Z) (.nil) Z (h1.t h21|>.t h26|>.t h27) (fun sR hS2 => ?_)
  refine ⟨x26, t26, _, [_], css ++ [[.int .i64 x26.kind, .int .i64 x26.op, .int .u32 x26.num, St x26.name, .slice A26 n26 c26]], d + d26 + 1, hq, hg26, Z, ?_, all2_snoc (all2_imp hA fun x cs hx => ⟨hx.1, (hx.2.le (h1.t h21|>.t h26|>.t h27|>.t hS2)).up O⟩) ⟨Z, _, _, _, Z, (hE26.le (h27.t hS2)).up O, hu26, hn26⟩⟩
  rw [List.flatten_append, List.length_append]
  simp only [List.flatten_cons, List.flatten_nil, List.append_nil, List.length_cons, List.length_nil]
  rw [← List.append_assoc]
  exact .blk _ _ _ _ _ (by rw [List.length_append, hP]; simp only [List.length_cons, List.length_nil]; omega) (by rw [List.length_append] at hy9 ⊢; exact hy9) hn9 hm9
 refine Wu Z trivial 1 [_] Y9 (fun x hx => mK 1 hx Z) <| JA_1 7 V <| JB_st Z trivial 3 (css.flatten ++ ([.int .i64 x26.kind, .int .i64 x26.op, .int .u32 x26.num, St x26.name, .slice A26 n26 c26] ++ ys9)) Z Z Z Z Z (ble_mid (c := [_, _, _, _, _]) (Q := ys9) (n := 5) hP Z) Z (splice_mid (c := [_, _, _, _, _]) (Q := ys9) hP Z) Z (fun x hx => mK 2 hx Z) <| JA_done V ?_
 refine retP_mk [] _ (.inl Z) (.nil) Z (h1.t h21|>.t h26|>.t h27) (fun sR hS2 => ?_)
 refine ⟨x26, t26, _, [_], css ++ [[.int .i64 x26.kind, .int .i64 x26.op, .int .u32 x26.num, St x26.name, .slice A26 n26 c26]], d + d26 + 1, hq, hg26, Z, ?_, all2_snoc (all2_imp hA fun x cs hx => ⟨hx.1, (hx.2.le (h1.t h21|>.t h26|>.t h27|>.t hS2)).up O⟩) ⟨Z, _, _, _, Z, (hE26.le (h27.t hS2)).up O, hu26, hn26⟩⟩
 rw [List.flatten_append, List.length_append]
 simp only [List.flatten_cons, List.flatten_nil, List.append_nil, List.length_cons, List.length_nil]
 rw [← List.append_assoc]
 exact .blk _ _ _ _ _ (by rw [List.length_append, hP]; simp only [List.length_cons, List.length_nil]; omega) (by rw [List.length_append] at hy9 ⊢; exact hy9) hn9 hm9
theorem exA_le {D d : Nat} {s s' : World} {l : List Ex} {css : List (List Value)} (hle : Le D s s') (h : All2 (fun x cs => cs.length = 5 ∧ ExR d s x cs) l css) : All2 (fun x cs => cs.length = 5 ∧ ExR d s' x cs) l css := all2_imp h fun x cs hx => ⟨hx.1, hx.2.le hle⟩
structure SG where
  xs : List Ex
  v : Value
  M : Hl
  css : List (List Value)
  k : Nat
theorem args_list (n : Nat) (hN : n ≤ 1000000) (ihE : ∀ j, j < n → CE j) (D : Nat) (L : Hl) (s : World) (hG : GP s) (l : List UInt8) (t : PS) (bp b3 b1 : Nat) (hl : l.length ≤ 12000) (hg : PG l t) (hr : pElems l n [] t ≠ .out) :
    AP Tryz.prog D 93 [.pointer (some ⟨bp, 0, none⟩), .func (.func 173) #[] [.pointer (some ⟨b3, 0, none⟩), .pointer (some ⟨b1, 0, none⟩)].toArray] (psB bp l t :: (b3, cb [.slice none 0 0] 95) :: (b1, cb [.pointer (some ⟨bp, 0, none⟩)] 65) :: L) s
      (fun _ L' s' => ∃ xs t' v M css d, pElems l n [] t = .ok xs t' ∧ PG l t' ∧ L' = psB bp l t' :: (b3, cb [v] 95) :: (b1, cb [.pointer (some ⟨bp, 0, none⟩)] 65) :: (M ++ L) ∧ FL.Own 97 5 M v xs.length css.flatten ∧ All2 (fun x cs => cs.length = 5 ∧ ExR d s' x cs) xs css)
      fun ch L' _ => Pan ch ∧ ∃ t' v M, pElems l n [] t = .er t' ∧ PG l t' ∧ L' = psB bp l t' :: (b3, cb [v] 95) :: (b1, cb [.pointer (some ⟨bp, 0, none⟩)] 65) :: (M ++ L) := by
  obtain ⟨e, he⟩ : ∃ e, e = pElems l n [] t := ⟨_, rfl⟩
  rw [← he] at hr ⊢
  refine (list_ap (σ := SG) D s hG l bp 173 [.pointer (some ⟨b3, 0, none⟩), .pointer (some ⟨b1, 0, none⟩)] hl (fun g => (b3, cb [g.v] 95) :: (b1, cb [.pointer (some ⟨bp, 0, none⟩)] 65) :: (g.M ++ L))
    (fun g t tw => e = pElems l g.k g.xs t ∧ g.xs.length + g.k ≤ n ∧ FL.Own 97 5 g.M g.v g.xs.length g.css.flatten ∧ ∃ d, All2 (fun x cs => cs.length = 5 ∧ ExR d tw x cs) g.xs g.css)
    (fun g t tw => e = .ok g.xs t ∧ FL.Own 97 5 g.M g.v g.xs.length g.css.flatten ∧ ∃ d, All2 (fun x cs => cs.length = 5 ∧ ExR d tw x cs) g.xs g.css)
    (fun ch L' _ => Pan ch ∧ ∃ t' v M, e = .er t' ∧ PG l t' ∧ L' = psB bp l t' :: (b3, cb [v] 95) :: (b1, cb [.pointer (some ⟨bp, 0, none⟩)] 65) :: (M ++ L)) (fun g => g.k)
    (fun g t s1 s2 ⟨h1, h2, h3, d, h4⟩ hle => ⟨h1, h2, h3, d, exA_le hle h4⟩) (fun g t s1 s2 ⟨h1, h3, d, h4⟩ hle => ⟨h1, h3, d, exA_le hle h4⟩) (fun _ _ _ _ h _ => h)
    (fun g t s1 hl1 hg1 hI => ?_) ⟨[], .slice none 0 0, [], [], n⟩ t hg ⟨he, by simp, .nil, 0, .nil⟩).mono (fun v L' s' _ ⟨g, t', h1, h2, h3, h4, d, h5⟩ => ⟨g.xs, t', g.v, g.M, g.css, d, h3, h2, h1, h4, h5⟩) fun _ _ _ _ h => h
  obtain ⟨xs, v, M, css, k⟩ := g
  obtain ⟨hq, hk, hO, d, hA⟩ : e = pElems l k xs t ∧ xs.length + k ≤ n ∧ FL.Own 97 5 M v xs.length css.flatten ∧ ∃ d, All2 (fun x cs => cs.length = 5 ∧ ExR d s1 x cs) xs css := hI
  obtain ⟨j, rfl⟩ : ∃ j, k = j + 1 := by
    cases k with
    | zero => exact absurd hq hr
    | succ j => exact ⟨j, rfl⟩
  rw [pElems] at hq
  refine (args1_ap j (ihE j O) D L s1 (hG.le hl1) l t bp b3 b1 hl hg1 xs v M css d hO hA O (and_out hq hr)).mono ?_ ?_
  · rintro _ L' s' _ ⟨x, t', v', M', css', d', hx, hg', rfl, hO', hA'⟩
    rw [hx] at hq
    simp only [PR.and] at hq
    refine ⟨⟨xs ++ [x], v', M', css', j⟩, t', Z, hg', Nat.lt_succ_self j, fun hb => ⟨by rw [hq, if_pos hb], by show (xs ++ [x]).length + j ≤ n; rw [List.length_append]; simp only [List.length_cons, List.length_nil]; omega, hO', d', hA'⟩, fun hb => ⟨by rw [hq, if_neg (bNe hb)], hO', d', hA'⟩⟩
  · rintro ch L' s' _ ⟨hp, t', v', M', hx, hg', rfl⟩
    rw [hx] at hq
    exact ⟨hp, t', v', M', hq, hg', rfl⟩
theorem args_st (n : Nat) (hN : n ≤ 1000000) (ihE : ∀ j, j < n → CE j) : CP 165 [] (fun l t => pArgs l (n + 1) t) ExsV := by
 intro D L s hG l t bp hl hg hr
 dsimp only at hr ⊢
 obtain ⟨r, hq⟩ : ∃ r, r = pArgs l (n + 1) t := ⟨_, rfl⟩
 rw [← hq] at hr ⊢
 rw [pArgs] at hq
 refine AP_enter (TT := TT) (fn := Tryz.f165) TT_ok Tryz.func165 V Z Tryz.ntmps165 Z (rs := [.tmp 2]) Z [(0, _)] Z <| Sr <| JO_box Z Z Z ?_
 intro β1 s1 h1
 refine At Z Z <| Sr <| JO_allocZ Z [_] Z Z ?_
 intro β2 s2 h2
 refine Nt <| Zs <| Sr <| Wl 1 Y6 <| Jc Z Z Z (is_ac D [_, _] _ _ l t bp [41]) ?_
 rintro _ _ s3 h3 ⟨_, ⟨rfl, (⟨hb3, rfl⟩ | ⟨hb3, rfl⟩)⟩, rfl⟩
 ·
  simp only [cQ9, nQ9]
  rw [if_pos hb3] at hq
  replace hq : r = (expP l [[41]] t).and fun _ t => .ok [] t := by rw [hq, expP, if_pos hb3]; rfl
  refine ZqnT Z Z <| Nt <| Zz Z <| Zk <| Zt <| Sr <| Wl 1 Y6 <| JO_bs [(_, _)] [_] Z Z Z Z Z Z Z Z Z ?_
  intro β4 s4 h4 hc4
  refine JO_callP (first := []) (captured := []) Z Z Z (exp_ap D _ _ (hG.le (h1.t h2|>.t h3|>.t h4)) l t bp hl hg [_, _] [[41]] _ _ _ (str1 (hc4.le (Lr D)) (by decide)) ) ?_ ?_
  ·
   rintro _ _ sx5 hx5 ⟨hp9, t9, he9, hg9, rfl⟩ fr9
   repeat (first | refine thenQ_p ?_ | refine blockQ_p ?_)
   refine retP_x [_, _] _ (List.Perm.refl _) (h1.t h2|>.t h3|>.t h4|>.t hx5) (fun sR hS2 => ?_)
   rw [he9] at hq
   exact ⟨hp9, t9, hq, hg9, rfl⟩
  rintro _ _ s5 h5 ⟨_, t5, he5, hg5, _, rfl⟩
  rw [he5] at hq
  simp only [PR.and] at hq
  simp only [cQ9, nQ9]
  refine Nt <| Sr <| Wl 0 Y6 <| At Z Z <| Zo <| ?_
  refine retP_mk [_, _] _ (.inr Z) (.tmp Z (.nil)) Z (h1.t h2|>.t h3|>.t h4|>.t h5) (fun sR hS2 => ?_)
  exact ⟨_, _, hq, hg5, ⟨0, none, 0, 0, rfl, exs_nil 0 _⟩, rfl⟩
 simp only [cQ9, nQ9]
 rw [if_neg (bNe hb3)] at hq
 refine ZqnF Z Z <| Nt <| Zy Z <| JC_front 2 <| Zr <| Wl 2 Y6 <| JO_q (QE_func Z) Z ?_
 refine JO_callP (first := []) (captured := []) Z Z Z (args_list n hN ihE D L _ (hG.le (h1.t h2|>.t h3)) l t bp β2 β1 hl hg (and_out hq hr)) ?_ ?_
 ·
  rintro _ _ sx6 hx6 ⟨hp9, t9, v9, M9, he9, hg9, rfl⟩ fr9
  repeat (first | refine thenQ_p ?_ | refine blockQ_p ?_)
  refine retP_x (_ :: _ :: M9) _ (List.perm_middle (l₁ := _ :: _ :: M9)).symm (h1.t h2|>.t h3|>.t hx6) (fun sR hS2 => ?_)
  rw [he9] at hq
  exact ⟨hp9, t9, hq, hg9, rfl⟩
 rintro _ _ s6 h6 ⟨xs9, t9, v9, M9, css9, d9, he9, hg9, rfl, hO9, hA9⟩
 rw [he9] at hq
 simp only [PR.and] at hq
 obtain ⟨A9, c9, rfl, hk9, hm9⟩ := Own.slice hO9
 refine Nt <| Zs <| JC_front 2 <| JC_front 2 <| JC_pubX [_, _, _] M9 _ ?_
 intro s7 h7 hpub7
 simp only [cQ9, nQ9]
 have hEx : Exs d9 s7 A9 xs9.length c9 xs9 := Own.rows (R := ExR d9) hO9 hpub7 (exA_le h7 hA9) rfl
 refine Zr <| Wl 1 Y6 <| JO_bs [(_, _)] [_] Z Z Z Z Z Z Z Z Z ?_
 intro β8 s8 h8 hc8
 refine JO_callP (first := []) (captured := []) Z Z Z (exp_ap D _ _ (hG.le (h1.t h2|>.t h3|>.t h6|>.t h7|>.t h8)) l t9 bp hl hg9 [_, _] [[41]] _ _ _ (str1 (hc8.le (Lr D)) (by decide)) ) ?_ ?_
 ·
  rintro _ _ sx9 hx9 ⟨hp9, t9, he9, hg9, rfl⟩ fr9
  repeat (first | refine thenQ_p ?_ | refine blockQ_p ?_)
  refine retP_x [_, _] _ (List.Perm.refl _) (h1.t h2|>.t h3|>.t h6|>.t h7|>.t h8|>.t hx9) (fun sR hS2 => ?_)
  rw [he9] at hq
  exact ⟨hp9, t9, hq, hg9, rfl⟩
 rintro _ _ s9 h9 ⟨_, t9, he9, hg9, _, rfl⟩
 rw [he9] at hq
 simp only [PR.and] at hq
 simp only [cQ9, nQ9]
 refine Nt <| Sr <| Wl 0 Y6 <| At Z Z <| Zo <| ?_
 refine retP_mk [_, _] _ (.inr Z) (.tmp Z (.nil)) Z (h1.t h2|>.t h3|>.t h6|>.t h7|>.t h8|>.t h9) (fun sR hS2 => ?_)
 exact ⟨_, _, hq, hg9, ⟨d9, A9, _, c9, rfl, hEx.le (h8.t h9|>.t hS2)⟩, rfl⟩
end Go.Proofs.YtiljephghfngnaaGreatDoor
