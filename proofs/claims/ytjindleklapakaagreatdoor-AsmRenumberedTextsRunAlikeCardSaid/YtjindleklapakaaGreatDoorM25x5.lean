/- Part 5. -/
import Derived.Test.YtjindleklapakaaGreatDoorM25x4
set_option linter.unusedVariables false
set_option linter.unusedSimpArgs false
set_option linter.unnecessarySimpa false
set_option maxRecDepth 100000
set_option maxHeartbeats 8000000
namespace Go.Proofs.YtjindleklapakaaGreatDoor
open Go.Proofs.Tryz
open Go.FL
attribute [local irreducible] JC JO JA JB qa7 qaP qdj AC fill CellsAt QE Ev Mid
theorem qn1(D:Nat)(L:Hl)(s:World)(hG:GW s)(u:Nat)(hu:u < 4294967296):AC prog D 137 [.int .u64 (u:Int),.int .i64 10] L s fun v L' _=>v=St (Lib.decDigits u)∧L=L':=by
 refine qai (fn:=f137) qaG func137 V Z ntmps137 Z (rs:=[.tmp 4]) Z [(0,_),(1,_)] Z<|Sr<|At Z Z<|Zs<|Sr<|Zqm Z Z<|qaJ Z Z Z<|Nt<|?_
 refine qab Z (fun c1=>?_) (fun c1=>?_)
 ·
  refine Zs<|Sr<|Zqm Z Z<|qbY Z Z Z<|Nt<|?_
  refine qab Z (fun c2=>?_) (fun c2=>?_)
  ·
   refine Sr<|Zqm Z Z<|qae (qaH Z Z Z Z Z (w64 O O)) Z<|Jc Z Z Z (qo2 D _ _ u O) ?_
   rintro _ _ s3 h3 ⟨rfl,rfl⟩
   refine At Z Z<|Zo<|Zu<|Zu<|?_
   refine rR [] L (.t1 Z) Z h3 fun _ hS2=>?_
   exact ⟨rfl,rfl⟩
  refine Zk<|Zt<|Sr<|qag Z [_,_,_,_,_,_,_,_,_,_,_,_,_,_,_,_,_,_,_,_,_,_,_,_] Z Z ?_
  intro β4 s4 h4
  refine Nt<|Sr<|Zqm Z Z<|Jc Z Z Z (qtW D _ _ (hG.le h4) u O hu) ?_
  rintro _ _ s5 h5 ⟨rfl,rfl⟩
  refine At Z Z<|Sr<|Zqm Z Z<|qae (qpr Z Z Z Z Z (by have:=qq2 hu;omega)) Z<|Zqm Z Z<|Jc Z Z Z (qlX D _ _ u hu _ _) ?_
  rintro _ _ s6 h6 ⟨rfl,ys,rfl,hys⟩
  refine Nt<|Zs<|qhx [] [_] _ ?_
  intro s7 h7 hpub7
  simp only [cQ9,nQ9]
  have hbt:=qlf (l:=Lib.decDigits u) (hpub7 _ _ _ Mc) hys O
  rw [Lib.decDigits_length] at hbt
  refine Zr<|Zqm Z Z<|qae (qpr Z Z Z Z Z (by have:=qq2 hu;omega)) Z<|qae (qiL Z Z Z Z Z Z Z (hbt.le (Lr D))) Z<|At Z Z<|Zo<|Zu<|?_
  refine rR [] L (.t1 Z) Z (h4.t h5|>.t h6|>.t h7) fun _ hS2=>?_
  exact ⟨rfl,rfl⟩
 exact absurd rfl c1 --end
theorem qqc(D:Nat)(L:Hl)(s:World)(hG:GW s)(u:Nat)(hu:u < 4294967296):AC prog D 130 [.int .u64 (u:Int),.int .i64 10] L s fun v L' _=>v=St (Lib.decDigits u)∧L=L':=by
 refine qai (fn:=f130) qaG func130 V Z ntmps130 Z (rs:=[.tmp 4]) Z [(0,_),(1,_)] Z<|Sr<|At Z Z<|Sr<|Zqm Z Z<|Zqm Z Z<|Jc Z Z Z (qn1 D _ _ (hG.le (Lr D)) u hu) ?_
 rintro _ _ s1 h1 ⟨rfl,rfl⟩
 refine At Z Z<|Zo<|?_
 refine rR [] L (.t1 Z) Z h1 fun _ hS2=>?_
 exact ⟨rfl,rfl⟩
theorem errT:prog.underlying 106=some (.interface (prog.methodsAt 106)):=by kernel_rfl
theorem qlP(D:Nat)(L:Hl)(s:World)(hG:GW s)(l:List UInt8)(hl:l.length≤281474976710656):AC prog D 129 [St l,.int .i64 10,.int .i64 32] L s fun v L' _=>L=L'∧∃ n e b,v=.tuple #[.int .u64 n,e]∧qtq e b∧(b=true→∃ u:Nat,n=(u:Int)∧Lib.parseUintB 32 l=.ok u)∧(b=false→∀ u,Lib.parseUintB 32 l≠.ok u):=
 (qoD D L s hG l hl).mono fun v L' s' _ ⟨hv,hL⟩=>by
  refine ⟨hL,?_⟩
  cases hv with
  | ok u h=>exact ⟨_,_,true,rfl,.inl ⟨rfl,rfl⟩,fun _=>⟨u,rfl,h⟩,fun h=>by cases h⟩
  | bad h n t p=>exact ⟨_,_,false,rfl,.inr ⟨_,_,rfl,rfl⟩,(fun h=>by cases h),fun _=>h⟩
theorem qgO(D:Nat)(L:Hl)(s:World)(hG:GW s)(l:List UInt8)(hl:l.length≤281474976710656):AC prog D 115 [St l] L s fun v L' _=>L=L'∧∃ k,v=.tuple #[.int .u32 k,.bool (qdf l).isSome]∧U32 k∧∀ u,qdf l=some u→k=(u:Int):=by
 refine qai (fn:=f115) qaG func115 V Z ntmps115 Z (rs:=[.tmp 2,.tmp 3]) Z [(0,_)] Z<|Sr<|Zqa Z Z<|At Z Z<|Sr<|Zqm Z Z<|Jc Z Z Z (qlP D _ _ (hG.le (Lr D)) l hl) ?_
 rintro _ _ s1 h1 ⟨rfl,n,e,b,rfl,hE,hT,hF⟩
 refine Zqm Z Z<|Zqx Z Z Z<|Zqx Z Z Z<|Zqa Z Z<|At Z Z<|Sr<|Zqm Z Z<|qae (qb9 Z Z Z Z Z) Z<|Zqm Z Z<|qae (qqu errT Z hE) Z<|Zqm Z Z ?_
 refine qfF (t:=15) Z (fun c2=>?_) (fun c2=>?_)
 ·
  refine Zg Z Z ?_
  obtain ⟨u,rfl,hu⟩:=hT As
  refine Zqm Z Z<|Zg Z Z<|Jc Z Z Z (qqc D _ _ (hG.le h1) u (by have:=Lib.parseUintB_le hu;omega)) ?_
  rintro _ _ s3 h3 ⟨rfl,rfl⟩
  refine Zg Z Z<|Zqm Z Z<|Zg Z Z<|qjv Z Z Z<|ZqT Z Z Z<|Zqa Z Z<|At Z Z<|Zo<|?_
  refine rR [] L (.tmp Z (.t1 Z)) Z (h1.t h3) fun _ hS2=>?_
  first
    | (refine ⟨rfl,IntKind.u32.wrap (u:Int),?_,qhs _,fun v hv=>?_⟩
       · rw [← qmL hu];rfl
       · have:=qk3 hu hv;subst this;exact qcz (by have:=Lib.parseUintB_le hu;omega))
    | (refine ⟨rfl,IntKind.u32.wrap n,?_,qhs _,fun v hv=>?_⟩
       · rw [qhK (hF As)];rfl
       · rw [qhK (hF As)] at hv;cases hv)
 refine Wf Y4<|Wf Y4<|Wf Y4<|Wf Y4<|ZqF Z Z Z<|Zqa Z Z<|At Z Z<|Zo<|?_
 refine rR [] L (.tmp Z (.t1 Z)) Z h1 fun _ hS2=>?_
 first
   | (refine ⟨rfl,IntKind.u32.wrap (u:Int),?_,qhs _,fun v hv=>?_⟩
      · rw [← qmL hu];rfl
      · have:=qk3 hu hv;subst this;exact qcz (by have:=Lib.parseUintB_le hu;omega))
   | (refine ⟨rfl,IntKind.u32.wrap n,?_,qhs _,fun v hv=>?_⟩
      · rw [qhK (hF As)];rfl
      · rw [qhK (hF As)] at hv;cases hv)
theorem qgN(D:Nat)(L:Hl)(s:World)(hG:GW s)(l:List UInt8)(hl:l.length≤281474976710656):AC prog D 95 [St l] L s fun v L' _=>L=L'∧∃ nm k,v=.tuple #[.agg #[St nm,.int .u32 k],.bool (qdG l).isSome]∧U32 k∧∀ x,qdG l=some x→(nm,k)=x:=by
 have hl1:=(qiW 43 l).2
 refine qai (fn:=f95) qaG func95 V Z ntmps95 Z (rs:=[.cell 2 125,.tmp 3]) Z [(0,_)] Z<|Sr<|qag Z [_,_] Z Z ?_
 intro β1 s1 h1
 refine At Z Z<|Sr<|Zqm Z Z<|Jc Z Z Z (qpA D _ _ l 43 O) ?_
 rintro _ _ s2 h2 ⟨rfl,rfl⟩
 refine Zqm Z Z<|Zqx Z Z Z<|Zqx Z Z Z<|Zqx Z Z Z<|Zqa Z Z<|Zqa Z Z<|At Z Z<|Zs<|Sr<|Zqm Z Z<|Jc Z Z Z (qen D _ _ _) ?_
 rintro _ _ s3 h3 ⟨rfl,rfl⟩
 refine Nt<|?_
 refine qcW Z (fun c4=>?_) (fun c4=>?_)
 ·
  have hlb:=c4
  refine Zs<|Sr<|Zqm Z Z<|qcQ Z Z<|Nt<|?_
  refine qbU Z (fun c5=>?_) (fun c5=>?_)
  ·
   have hpl:=c5
   refine Sr<|Zqm Z Z<|qae (qal [(_,_)] [_,_] Z Z Z Z Z Z) Z<|Wt 0 [_,_] Y9<|At Z Z<|Zo<|Zu<|Zu<|?_
   refine rR [_] L (.agg (us:=[_,_]) 0 Z Z Z Z Z (.t1 Z)) Z (h1.t h2|>.t h3) fun _ hS2=>?_
   first
     | (refine ⟨rfl,(qcn 43 l).1,0,?_,qaj,fun x hx=>?_⟩
        · rw [show qdG l=some ((qcn 43 l).1,0) by rw [qdG,if_pos hlb,if_neg (by rw [hpl];decide)]];rfl
        · rw [show qdG l=some ((qcn 43 l).1,0) by rw [qdG,if_pos hlb,if_neg (by rw [hpl];decide)]] at hx;injection hx)
     | (have he:qdG l=(qdf (qcn 43 l).2.1).map (fun (n:Nat)=>((qcn 43 l).1,(n:Int))):=by rw [qdG,if_pos hlb,if_pos hpl]
        refine ⟨Z,(qcn 43 l).1,k,?_,hku,fun x hx=>?_⟩
        · rw [he,Option.isSome_map];rfl
        · rw [he] at hx
          obtain ⟨u,hu,rfl⟩:=Option.map_eq_some_iff.1 hx
          rw [hkv u hu])
     | (have he:qdG l=(qdf l).map (fun (n:Nat)=>([],(n:Int))):=by rw [qdG,if_neg (by rw [hlb];decide)]
        refine ⟨Z,[],k,?_,hku,fun x hx=>?_⟩
        · rw [he,Option.isSome_map];rfl
        · rw [he] at hx
          obtain ⟨u,hu,rfl⟩:=Option.map_eq_some_iff.1 hx
          rw [hkv u hu])
  have hpl:=c5
  refine Zk<|Zt<|Sr<|Zqm Z Z<|Jc Z Z Z (qgO D _ _ (hG.le (h1.t h2|>.t h3)) _ O) ?_
  rintro _ _ s6 h6 ⟨rfl,k,rfl,hku,hkv⟩
  refine Zqm Z Z<|Zqx Z Z Z<|Zqx Z Z Z<|Zqa Z Z<|At Z Z<|Sr<|Zqm Z Z<|Zqm Z Z<|qae (qal [(_,_),(_,_)] [_,_] Z Z Z Z Z Z) Z<|Zqm Z Z<|Wt 0 [_,_] Y9<|At Z Z<|Zo<|Zu<|?_
  refine rR [_] L (.agg (us:=[_,_]) 0 Z Z Z Z Z (.t1 Z)) Z (h1.t h2|>.t h3|>.t h6) fun _ hS2=>?_
  first
    | (refine ⟨rfl,(qcn 43 l).1,0,?_,qaj,fun x hx=>?_⟩
       · rw [show qdG l=some ((qcn 43 l).1,0) by rw [qdG,if_pos hlb,if_neg (by rw [hpl];decide)]];rfl
       · rw [show qdG l=some ((qcn 43 l).1,0) by rw [qdG,if_pos hlb,if_neg (by rw [hpl];decide)]] at hx;injection hx)
    | (have he:qdG l=(qdf (qcn 43 l).2.1).map (fun (n:Nat)=>((qcn 43 l).1,(n:Int))):=by rw [qdG,if_pos hlb,if_pos hpl]
       refine ⟨Z,(qcn 43 l).1,k,?_,hku,fun x hx=>?_⟩
       · rw [he,Option.isSome_map];rfl
       · rw [he] at hx
         obtain ⟨u,hu,rfl⟩:=Option.map_eq_some_iff.1 hx
         rw [hkv u hu])
    | (have he:qdG l=(qdf l).map (fun (n:Nat)=>([],(n:Int))):=by rw [qdG,if_neg (by rw [hlb];decide)]
       refine ⟨Z,[],k,?_,hku,fun x hx=>?_⟩
       · rw [he,Option.isSome_map];rfl
       · rw [he] at hx
         obtain ⟨u,hu,rfl⟩:=Option.map_eq_some_iff.1 hx
         rw [hkv u hu])
 have hlb:=c4
 refine Zk<|Zt<|Sr<|Zqm Z Z<|Jc Z Z Z (qgO D _ _ (hG.le (h1.t h2|>.t h3)) _ hl) ?_
 rintro _ _ s7 h7 ⟨rfl,k,rfl,hku,hkv⟩
 refine Zqm Z Z<|Zqx Z Z Z<|Zqx Z Z Z<|Zqa Z Z<|At Z Z<|Sr<|Zqm Z Z<|qae (qal [(_,_)] [_,_] Z Z Z Z Z Z) Z<|Zqm Z Z<|Wt 0 [_,_] Y9<|At Z Z<|Zo<|?_
 refine rR [_] L (.agg (us:=[_,_]) 0 Z Z Z Z Z (.t1 Z)) Z (h1.t h2|>.t h3|>.t h7) fun _ hS2=>?_
 first
   | (refine ⟨rfl,(qcn 43 l).1,0,?_,qaj,fun x hx=>?_⟩
      · rw [show qdG l=some ((qcn 43 l).1,0) by rw [qdG,if_pos hlb,if_neg (by rw [hpl];decide)]];rfl
      · rw [show qdG l=some ((qcn 43 l).1,0) by rw [qdG,if_pos hlb,if_neg (by rw [hpl];decide)]] at hx;injection hx)
   | (have he:qdG l=(qdf (qcn 43 l).2.1).map (fun (n:Nat)=>((qcn 43 l).1,(n:Int))):=by rw [qdG,if_pos hlb,if_pos hpl]
      refine ⟨Z,(qcn 43 l).1,k,?_,hku,fun x hx=>?_⟩
      · rw [he,Option.isSome_map];rfl
      · rw [he] at hx
        obtain ⟨u,hu,rfl⟩:=Option.map_eq_some_iff.1 hx
        rw [hkv u hu])
   | (have he:qdG l=(qdf l).map (fun (n:Nat)=>([],(n:Int))):=by rw [qdG,if_neg (by rw [hlb];decide)]
      refine ⟨Z,[],k,?_,hku,fun x hx=>?_⟩
      · rw [he,Option.isSome_map];rfl
      · rw [he] at hx
        obtain ⟨u,hu,rfl⟩:=Option.map_eq_some_iff.1 hx
        rw [hkv u hu])
theorem qjh(D:Nat)(L:Hl)(s:World)(hG:GW s)(l:List UInt8)(hl:l.length≤400000):AC Tryz.prog D 71 [St l] L s fun v L' _=>L=L'∧∃ x:Ln,v=.tuple #[.agg x.cs.toArray,.bool (qa6 l).isSome]∧U32 x.num∧∀ y,qa6 l=some y→x=y:=by
 have hl1:=(qiW 59 l).1
 refine qai (fn:=Tryz.f71) qaG Tryz.func71 V Z Tryz.ntmps71 Z (rs:=[.cell 2 149,.tmp 3]) Z [(0,_)] Z<|Sr<|qag Z [_,_,_,_,_] Z Z ?_
 intro β1 s1 h1
 refine At Z Z<|Sr<|Zqm Z Z<|Jc Z Z Z (qpA D _ _ l 59 O) ?_
 rintro _ _ s2 h2 ⟨rfl,rfl⟩
 refine Zqm Z Z<|Zqx Z Z Z<|Zqx Z Z Z<|Zqx Z Z Z<|At Z Z<|Sr<|Zqm Z Z<|Jc Z Z Z (qml D _ _ _ O) ?_
 rintro _ _ s3 h3 ⟨rfl,Aw,nw,cw,rfl,hW⟩
 have hn:=hW.1
 have hmem:∀ x∈qh3 (qcn 59 l).1,x.length≤400000:=fun x hx=>by have:=(qhj hx).2;omega
 generalize hWW:qh3 (qcn 59 l).1=W at hW hmem hn
 refine At Z Z<|Sr<|qag Z [_,_,_,_,_] Z Z ?_
 intro β4 s4 h4
 refine Nt<|Zs<|Sr<|Zqm Z Z<|Ws Y4<|qdP Z Z Z<|Nt<|?_
 refine qab Z (fun c5=>?_) (fun c5=>?_)
 ·
  obtain ⟨b0,off0,w0,R,rfl,hWc,hc0,hlw0⟩:=Strs.head (hW.le h4) (show 0 < nw by omega)
  subst hWc
  refine Sr<|Zqm Z Z<|qae (qaX (j:=0) Z Z Z Z Z Z (show 0 < nw by omega)) Z<|qae (qaq Z Z Z (hc0.le (Lr D)) Z) Z<|Jc Z Z Z (qie D _ _ _ 58 hlw0) ?_
  rintro _ _ s6 h6 ⟨rfl,rfl⟩
  refine Zqm Z Z<|Zqx Z Z Z<|Zqx Z Z Z<|Zqa Z Z<|At Z Z<|Sr<|Zqm Z Z<|Nt<|?_
  refine qcW Z (fun c7=>?_) (fun c7=>?_)
  ·
   have he:=c7
   rw [if_pos he]
   refine Zs<|Sr<|Zqm Z Z<|Jc Z Z Z (qen D _ _ _) ?_
   rintro _ _ s8 h8 ⟨rfl,rfl⟩
   refine qcQ Z Z<|Nt<|?_
   refine qbU Z (fun c9=>?_) (fun c9=>?_)
   ·
    have hlb:=c9
    refine Sr<|qae (qal [] [_,_,_,_,_] Z Z Z Z Z Z) Z<|Wt 1 [_,_,_,_,_] Y9<|At Z Z<|Zo<|Zu<|Zu<|?_
    refine rR [_,_] L (.agg (us:=[_,_,_,_,_]) 1 Z Z Z Z Z (.t1 Z)) Z (h1.t h2|>.t h3|>.t h4|>.t h6|>.t h8) fun _ hS2=>?_
    first
      | (have hN:qa6 l=none:=by
           first
           | exact qb0 hWW (by rw [qgJ,if_pos he,if_neg (by rw [hlb];decide)])
           | (rw [hlab];exact qbu As)
           | (rw [hlab];exact qbp (by simp only [List.length_cons];omega))
         rw [hN]
         exact ⟨rfl,⟨[],[],false,[],0⟩,rfl,qaj,fun y hy=>by cases hy⟩)
      | (rw [hlab,qbq As,Option.isSome_map]
         first
         | exact ⟨rfl,⟨[],w1,true,nm,kk⟩,rfl,hku,fun y hy=>by
             obtain ⟨x,hx,rfl⟩:=Option.map_eq_some_iff.1 hy
             have:=hkv x hx;subst this;rfl⟩
         | exact ⟨rfl,⟨w0.dropLast,w1,true,nm,kk⟩,rfl,hku,fun y hy=>by
             obtain ⟨x,hx,rfl⟩:=Option.map_eq_some_iff.1 hy
             have:=hkv x hx;subst this;rfl⟩)
      | (obtain rfl:R1=[]:=List.eq_nil_of_length_eq_zero O
         rw [hlab,qbt As]
         first
         | exact ⟨rfl,⟨[],w1,false,[],0⟩,rfl,qaj,fun y hy=>by injection hy⟩
         | exact ⟨rfl,⟨w0.dropLast,w1,false,[],0⟩,rfl,qaj,fun y hy=>by injection hy⟩)
      | (have hR:R=[]:=List.eq_nil_of_length_eq_zero O
         subst hR
         rw [hlab]
         exact ⟨rfl,⟨w0.dropLast,[],false,[],0⟩,rfl,qaj,fun y hy=>by injection hy⟩)
      | (rw [hlab]
         exact ⟨rfl,⟨[],[],false,[],0⟩,rfl,qaj,fun y hy=>by injection hy⟩)
      | (exfalso;simp only [List.length_cons] at hn;omega)
   have hlb:=c9
   obtain ⟨A1,n1,c1,hsl,hW1⟩:=Strs.tail (hW.le (h4.t h6|>.t h8))
   have hlab:qa6 l=qdg w0.dropLast R:=qet hWW (by rw [qgJ,if_pos he,if_pos hlb])
   have hn1:=hW1.1
   refine Zk<|Zt<|qaD qaf 6 Z [0] (by intro x hx;exact qan hx) ?_
   intro s10 h10
   refine za 0 Z (qao Z) Z<|za 1 Z (qao Z) Z<|za 2 Z (qav (qgP (j:=1) Z Z Z Z Z O) hsl) Z<|za 3 Z (qaw Z Z Z Z) Z<|qah 4 V<|Wu Z Tt 0 [_,_,_,_,_] Y9 (sM (sbY (sbE _)))<|za 5 Z (qcq Z) Z<|qac V<|Zt<|Zs<|Sr<|Zqm Z Z<|Ws Y4<|qaJ Z Z Z<|Nt<|?_
   refine qab Z (fun c11=>?_) (fun c11=>?_)
   ·
    have hz1:=c11
    refine Sr<|qae (qad 0 [_,_,_,_,_] Z Z Z Z Z) Z<|Wt 1 [_,_,_,_,_] Y9<|At Z Z<|Zo<|Zu<|?_
    refine rR [_,_] L (.agg (us:=[_,_,_,_,_]) 1 Z Z Z Z Z (.t1 Z)) Z (h1.t h2|>.t h3|>.t h4|>.t h6|>.t h8|>.t h10) fun _ hS2=>?_
    first
      | (have hN:qa6 l=none:=by
           first
           | exact qb0 hWW (by rw [qgJ,if_pos he,if_neg (by rw [hlb];decide)])
           | (rw [hlab];exact qbu As)
           | (rw [hlab];exact qbp (by simp only [List.length_cons];omega))
         rw [hN]
         exact ⟨rfl,⟨[],[],false,[],0⟩,rfl,qaj,fun y hy=>by cases hy⟩)
      | (rw [hlab,qbq As,Option.isSome_map]
         first
         | exact ⟨rfl,⟨[],w1,true,nm,kk⟩,rfl,hku,fun y hy=>by
             obtain ⟨x,hx,rfl⟩:=Option.map_eq_some_iff.1 hy
             have:=hkv x hx;subst this;rfl⟩
         | exact ⟨rfl,⟨w0.dropLast,w1,true,nm,kk⟩,rfl,hku,fun y hy=>by
             obtain ⟨x,hx,rfl⟩:=Option.map_eq_some_iff.1 hy
             have:=hkv x hx;subst this;rfl⟩)
      | (obtain rfl:R1=[]:=List.eq_nil_of_length_eq_zero O
         rw [hlab,qbt As]
         first
         | exact ⟨rfl,⟨[],w1,false,[],0⟩,rfl,qaj,fun y hy=>by injection hy⟩
         | exact ⟨rfl,⟨w0.dropLast,w1,false,[],0⟩,rfl,qaj,fun y hy=>by injection hy⟩)
      | (have hR:R=[]:=List.eq_nil_of_length_eq_zero O
         subst hR
         rw [hlab]
         exact ⟨rfl,⟨w0.dropLast,[],false,[],0⟩,rfl,qaj,fun y hy=>by injection hy⟩)
      | (rw [hlab]
         exact ⟨rfl,⟨[],[],false,[],0⟩,rfl,qaj,fun y hy=>by injection hy⟩)
      | (exfalso;simp only [List.length_cons] at hn;omega)
   obtain ⟨b1,off1,w1,R1,rfl,hR1,hc1,hlw1⟩:=Strs.head (hW1.le h10) O
   subst hR1
   simp only [List.length_cons] at hn1
   refine Zk<|Zt<|Zs<|Sr<|Zqm Z Z<|qae (qaX (j:=0) Z Z Z Z Z Z O) Z<|qae (qaq Z Z Z (hc1.le (Lr D)) Z) Z<|Jc Z Z Z (qen D _ _ _) ?_
   rintro _ _ s12 h12 ⟨rfl,rfl⟩
   refine qcQ Z Z<|Zqm Z Z<|?_
   refine qej (t:=45) Z (fun c13=>?_) (fun c13=>?_)
   ·
    refine Wf Y4<|Wf Y4<|Wf Y4<|ZqT Z Z Z<|Nt<|Zy Z<|Sr<|qae (qal [] [_,_,_,_,_] Z Z Z Z Z Z) Z<|Wt 1 [_,_,_,_,_] Y9<|At Z Z<|Zo<|Zu<|?_
    refine rR [_,_] L (.agg (us:=[_,_,_,_,_]) 1 Z Z Z Z Z (.t1 Z)) Z (h1.t h2|>.t h3|>.t h4|>.t h6|>.t h8|>.t h10|>.t h12) fun _ hS2=>?_
    first
      | (have hN:qa6 l=none:=by
           first
           | exact qb0 hWW (by rw [qgJ,if_pos he,if_neg (by rw [hlb];decide)])
           | (rw [hlab];exact qbu As)
           | (rw [hlab];exact qbp (by simp only [List.length_cons];omega))
         rw [hN]
         exact ⟨rfl,⟨[],[],false,[],0⟩,rfl,qaj,fun y hy=>by cases hy⟩)
      | (rw [hlab,qbq As,Option.isSome_map]
         first
         | exact ⟨rfl,⟨[],w1,true,nm,kk⟩,rfl,hku,fun y hy=>by
             obtain ⟨x,hx,rfl⟩:=Option.map_eq_some_iff.1 hy
             have:=hkv x hx;subst this;rfl⟩
         | exact ⟨rfl,⟨w0.dropLast,w1,true,nm,kk⟩,rfl,hku,fun y hy=>by
             obtain ⟨x,hx,rfl⟩:=Option.map_eq_some_iff.1 hy
             have:=hkv x hx;subst this;rfl⟩)
      | (obtain rfl:R1=[]:=List.eq_nil_of_length_eq_zero O
         rw [hlab,qbt As]
         first
         | exact ⟨rfl,⟨[],w1,false,[],0⟩,rfl,qaj,fun y hy=>by injection hy⟩
         | exact ⟨rfl,⟨w0.dropLast,w1,false,[],0⟩,rfl,qaj,fun y hy=>by injection hy⟩)
      | (have hR:R=[]:=List.eq_nil_of_length_eq_zero O
         subst hR
         rw [hlab]
         exact ⟨rfl,⟨w0.dropLast,[],false,[],0⟩,rfl,qaj,fun y hy=>by injection hy⟩)
      | (rw [hlab]
         exact ⟨rfl,⟨[],[],false,[],0⟩,rfl,qaj,fun y hy=>by injection hy⟩)
      | (exfalso;simp only [List.length_cons] at hn;omega)
   refine Zg Z Z<|Zqm Z Z<|Zg Z Z<|Ws Y4<|Zg Z Z<|qdP Z Z Z<|ZqF Z Z Z<|Nt<|?_
   refine qab Z (fun c14=>?_) (fun c14=>?_)
   ·
    refine Sr<|qae (qal [] [_,_,_,_,_] Z Z Z Z Z Z) Z<|Wt 1 [_,_,_,_,_] Y9<|At Z Z<|Zo<|Zu<|?_
    refine rR [_,_] L (.agg (us:=[_,_,_,_,_]) 1 Z Z Z Z Z (.t1 Z)) Z (h1.t h2|>.t h3|>.t h4|>.t h6|>.t h8|>.t h10|>.t h12) fun _ hS2=>?_
    first
      | (have hN:qa6 l=none:=by
           first
           | exact qb0 hWW (by rw [qgJ,if_pos he,if_neg (by rw [hlb];decide)])
           | (rw [hlab];exact qbu As)
           | (rw [hlab];exact qbp (by simp only [List.length_cons];omega))
         rw [hN]
         exact ⟨rfl,⟨[],[],false,[],0⟩,rfl,qaj,fun y hy=>by cases hy⟩)
      | (rw [hlab,qbq As,Option.isSome_map]
         first
         | exact ⟨rfl,⟨[],w1,true,nm,kk⟩,rfl,hku,fun y hy=>by
             obtain ⟨x,hx,rfl⟩:=Option.map_eq_some_iff.1 hy
             have:=hkv x hx;subst this;rfl⟩
         | exact ⟨rfl,⟨w0.dropLast,w1,true,nm,kk⟩,rfl,hku,fun y hy=>by
             obtain ⟨x,hx,rfl⟩:=Option.map_eq_some_iff.1 hy
             have:=hkv x hx;subst this;rfl⟩)
      | (obtain rfl:R1=[]:=List.eq_nil_of_length_eq_zero O
         rw [hlab,qbt As]
         first
         | exact ⟨rfl,⟨[],w1,false,[],0⟩,rfl,qaj,fun y hy=>by injection hy⟩
         | exact ⟨rfl,⟨w0.dropLast,w1,false,[],0⟩,rfl,qaj,fun y hy=>by injection hy⟩)
      | (have hR:R=[]:=List.eq_nil_of_length_eq_zero O
         subst hR
         rw [hlab]
         exact ⟨rfl,⟨w0.dropLast,[],false,[],0⟩,rfl,qaj,fun y hy=>by injection hy⟩)
      | (rw [hlab]
         exact ⟨rfl,⟨[],[],false,[],0⟩,rfl,qaj,fun y hy=>by injection hy⟩)
      | (exfalso;simp only [List.length_cons] at hn;omega)
   refine Zk<|Zt<|Sr<|Zqm Z Z<|qae (qaX (j:=0) Z Z Z Z Z Z O) Z<|qae (qaq Z Z Z (hc1.le h12) Z) Z<|Wb Y5<|Wt 0 [_,_,_,_,_] Y9<|Nt<|Sr<|At Z Z<|Zs<|Sr<|Zqm Z Z<|Ws Y4<|qaJ Z Z Z<|Nt<|?_
   refine qab Z (fun c15=>?_) (fun c15=>?_)
   ·
    obtain ⟨b2,off2,w2,hA2,hw2,hc2,hlw2⟩:=Strs.at_ (hW1.le (h10.t h12)) (show 1 < _ by omega)
    injection hA2 with hA2
    injection hA2 with e1 e2
    subst e1
    subst e2
    have hl2:w2.length≤400000:=hmem _ (by first | exact List.mem_cons_of_mem _ (List.mem_of_getElem? hw2) | exact List.mem_of_getElem? hw2)
    obtain rfl:R1=[w2]:=by
      match R1,hw2,hn1 with
      | [],h,_=>cases h
      | [y],h,_=>simp at h;rw [h]
      | _::_::_,_,h=>simp at h;omega
    refine Sr<|Wb Y5<|Wt 0 [_,_,_,_,_] Y9<|Nt<|Zr<|Zqm Z Z<|qae (qaX (j:=1) Z Z Z Z Z Z O) Z<|qae (qaq Z Z Z (hc2.le (Lr D)) Z) Z<|Jc Z Z Z (qgN D _ _ (hG.le (h1.t h2|>.t h3|>.t h4|>.t h6|>.t h8|>.t h10|>.t h12)) w2 O) ?_
    rintro _ _ s16 h16 ⟨rfl,nm,kk,rfl,hku,hkv⟩
    refine Zqm Z Z<|Zqx Z Z Z<|Zqx Z Z Z<|Wb Y5<|Wt 0 [_,_,_,_,_] Y9<|At Z Z<|Sr<|qae (qad 0 [_,_,_,_,_] Z Z Z Z Z) Z<|Zqm Z Z<|Wt 1 [_,_,_,_,_] Y9<|At Z Z<|Zo<|?_
    refine rR [_,_] L (.agg (us:=[_,_,_,_,_]) 1 Z Z Z Z Z (.t1 Z)) Z (h1.t h2|>.t h3|>.t h4|>.t h6|>.t h8|>.t h10|>.t h12|>.t h16) fun _ hS2=>?_
    first
      | (have hN:qa6 l=none:=by
           first
           | exact qb0 hWW (by rw [qgJ,if_pos he,if_neg (by rw [hlb];decide)])
           | (rw [hlab];exact qbu As)
           | (rw [hlab];exact qbp (by simp only [List.length_cons];omega))
         rw [hN]
         exact ⟨rfl,⟨[],[],false,[],0⟩,rfl,qaj,fun y hy=>by cases hy⟩)
      | (rw [hlab,qbq As,Option.isSome_map]
         first
         | exact ⟨rfl,⟨[],w1,true,nm,kk⟩,rfl,hku,fun y hy=>by
             obtain ⟨x,hx,rfl⟩:=Option.map_eq_some_iff.1 hy
             have:=hkv x hx;subst this;rfl⟩
         | exact ⟨rfl,⟨w0.dropLast,w1,true,nm,kk⟩,rfl,hku,fun y hy=>by
             obtain ⟨x,hx,rfl⟩:=Option.map_eq_some_iff.1 hy
             have:=hkv x hx;subst this;rfl⟩)
      | (obtain rfl:R1=[]:=List.eq_nil_of_length_eq_zero O
         rw [hlab,qbt As]
         first
         | exact ⟨rfl,⟨[],w1,false,[],0⟩,rfl,qaj,fun y hy=>by injection hy⟩
         | exact ⟨rfl,⟨w0.dropLast,w1,false,[],0⟩,rfl,qaj,fun y hy=>by injection hy⟩)
      | (have hR:R=[]:=List.eq_nil_of_length_eq_zero O
         subst hR
         rw [hlab]
         exact ⟨rfl,⟨w0.dropLast,[],false,[],0⟩,rfl,qaj,fun y hy=>by injection hy⟩)
      | (rw [hlab]
         exact ⟨rfl,⟨[],[],false,[],0⟩,rfl,qaj,fun y hy=>by injection hy⟩)
      | (exfalso;simp only [List.length_cons] at hn;omega)
   refine Zk<|Zt<|Sr<|qae (qad 0 [_,_,_,_,_] Z Z Z Z Z) Z<|Zqm Z Z<|Wt 1 [_,_,_,_,_] Y9<|At Z Z<|Zo<|?_
   refine rR [_,_] L (.agg (us:=[_,_,_,_,_]) 1 Z Z Z Z Z (.t1 Z)) Z (h1.t h2|>.t h3|>.t h4|>.t h6|>.t h8|>.t h10|>.t h12) fun _ hS2=>?_
   first
     | (have hN:qa6 l=none:=by
          first
          | exact qb0 hWW (by rw [qgJ,if_pos he,if_neg (by rw [hlb];decide)])
          | (rw [hlab];exact qbu As)
          | (rw [hlab];exact qbp (by simp only [List.length_cons];omega))
        rw [hN]
        exact ⟨rfl,⟨[],[],false,[],0⟩,rfl,qaj,fun y hy=>by cases hy⟩)
     | (rw [hlab,qbq As,Option.isSome_map]
        first
        | exact ⟨rfl,⟨[],w1,true,nm,kk⟩,rfl,hku,fun y hy=>by
            obtain ⟨x,hx,rfl⟩:=Option.map_eq_some_iff.1 hy
            have:=hkv x hx;subst this;rfl⟩
        | exact ⟨rfl,⟨w0.dropLast,w1,true,nm,kk⟩,rfl,hku,fun y hy=>by
            obtain ⟨x,hx,rfl⟩:=Option.map_eq_some_iff.1 hy
            have:=hkv x hx;subst this;rfl⟩)
     | (obtain rfl:R1=[]:=List.eq_nil_of_length_eq_zero O
        rw [hlab,qbt As]
        first
        | exact ⟨rfl,⟨[],w1,false,[],0⟩,rfl,qaj,fun y hy=>by injection hy⟩
        | exact ⟨rfl,⟨w0.dropLast,w1,false,[],0⟩,rfl,qaj,fun y hy=>by injection hy⟩)
     | (have hR:R=[]:=List.eq_nil_of_length_eq_zero O
        subst hR
        rw [hlab]
        exact ⟨rfl,⟨w0.dropLast,[],false,[],0⟩,rfl,qaj,fun y hy=>by injection hy⟩)
     | (rw [hlab]
        exact ⟨rfl,⟨[],[],false,[],0⟩,rfl,qaj,fun y hy=>by injection hy⟩)
     | (exfalso;simp only [List.length_cons] at hn;omega)
  have he:=c7
  have hlab:qa6 l=qdg [] (w0::R):=qet hWW (by rw [qgJ,if_neg (by rw [he];decide)])
  have hW1:=hW.le (h4.t h6)
  refine Zk<|Zt<|Zs<|Sr<|Zqm Z Z<|Ws Y4<|qaJ Z Z Z<|Nt<|?_
  refine qab Z (fun c17=>?_) (fun c17=>?_)
  ·
   have hz1:=c17
   refine Sr<|qae (qad 0 [_,_,_,_,_] Z Z Z Z Z) Z<|Wt 1 [_,_,_,_,_] Y9<|At Z Z<|Zo<|Zu<|?_
   refine rR [_,_] L (.agg (us:=[_,_,_,_,_]) 1 Z Z Z Z Z (.t1 Z)) Z (h1.t h2|>.t h3|>.t h4|>.t h6) fun _ hS2=>?_
   first
     | (have hN:qa6 l=none:=by
          first
          | exact qb0 hWW (by rw [qgJ,if_pos he,if_neg (by rw [hlb];decide)])
          | (rw [hlab];exact qbu As)
          | (rw [hlab];exact qbp (by simp only [List.length_cons];omega))
        rw [hN]
        exact ⟨rfl,⟨[],[],false,[],0⟩,rfl,qaj,fun y hy=>by cases hy⟩)
     | (rw [hlab,qbq As,Option.isSome_map]
        first
        | exact ⟨rfl,⟨[],w1,true,nm,kk⟩,rfl,hku,fun y hy=>by
            obtain ⟨x,hx,rfl⟩:=Option.map_eq_some_iff.1 hy
            have:=hkv x hx;subst this;rfl⟩
        | exact ⟨rfl,⟨w0.dropLast,w1,true,nm,kk⟩,rfl,hku,fun y hy=>by
            obtain ⟨x,hx,rfl⟩:=Option.map_eq_some_iff.1 hy
            have:=hkv x hx;subst this;rfl⟩)
     | (obtain rfl:R1=[]:=List.eq_nil_of_length_eq_zero O
        rw [hlab,qbt As]
        first
        | exact ⟨rfl,⟨[],w1,false,[],0⟩,rfl,qaj,fun y hy=>by injection hy⟩
        | exact ⟨rfl,⟨w0.dropLast,w1,false,[],0⟩,rfl,qaj,fun y hy=>by injection hy⟩)
     | (have hR:R=[]:=List.eq_nil_of_length_eq_zero O
        subst hR
        rw [hlab]
        exact ⟨rfl,⟨w0.dropLast,[],false,[],0⟩,rfl,qaj,fun y hy=>by injection hy⟩)
     | (rw [hlab]
        exact ⟨rfl,⟨[],[],false,[],0⟩,rfl,qaj,fun y hy=>by injection hy⟩)
     | (exfalso;simp only [List.length_cons] at hn;omega)
  have hc1:=hc0.le h6
  have hlw1:=hlw0
  obtain ⟨w1,R1,e1,e2⟩:∃ a b,a=w0∧b=R:=⟨_,_,rfl,rfl⟩
  subst e1
  subst e2
  have hn1:=hn
  simp only [List.length_cons] at hn1
  refine Zk<|Zt<|Zs<|Sr<|Zqm Z Z<|qae (qaX (j:=0) Z Z Z Z Z Z O) Z<|qae (qaq Z Z Z (hc1.le (Lr D)) Z) Z<|Jc Z Z Z (qen D _ _ _) ?_
  rintro _ _ s18 h18 ⟨rfl,rfl⟩
  refine qcQ Z Z<|Zqm Z Z<|?_
  refine qej (t:=45) Z (fun c19=>?_) (fun c19=>?_)
  ·
   refine Wf Y4<|Wf Y4<|Wf Y4<|ZqT Z Z Z<|Nt<|Zy Z<|Sr<|qae (qal [] [_,_,_,_,_] Z Z Z Z Z Z) Z<|Wt 1 [_,_,_,_,_] Y9<|At Z Z<|Zo<|Zu<|?_
   refine rR [_,_] L (.agg (us:=[_,_,_,_,_]) 1 Z Z Z Z Z (.t1 Z)) Z (h1.t h2|>.t h3|>.t h4|>.t h6|>.t h18) fun _ hS2=>?_
   first
     | (have hN:qa6 l=none:=by
          first
          | exact qb0 hWW (by rw [qgJ,if_pos he,if_neg (by rw [hlb];decide)])
          | (rw [hlab];exact qbu As)
          | (rw [hlab];exact qbp (by simp only [List.length_cons];omega))
        rw [hN]
        exact ⟨rfl,⟨[],[],false,[],0⟩,rfl,qaj,fun y hy=>by cases hy⟩)
     | (rw [hlab,qbq As,Option.isSome_map]
        first
        | exact ⟨rfl,⟨[],w1,true,nm,kk⟩,rfl,hku,fun y hy=>by
            obtain ⟨x,hx,rfl⟩:=Option.map_eq_some_iff.1 hy
            have:=hkv x hx;subst this;rfl⟩
        | exact ⟨rfl,⟨w0.dropLast,w1,true,nm,kk⟩,rfl,hku,fun y hy=>by
            obtain ⟨x,hx,rfl⟩:=Option.map_eq_some_iff.1 hy
            have:=hkv x hx;subst this;rfl⟩)
     | (obtain rfl:R1=[]:=List.eq_nil_of_length_eq_zero O
        rw [hlab,qbt As]
        first
        | exact ⟨rfl,⟨[],w1,false,[],0⟩,rfl,qaj,fun y hy=>by injection hy⟩
        | exact ⟨rfl,⟨w0.dropLast,w1,false,[],0⟩,rfl,qaj,fun y hy=>by injection hy⟩)
     | (have hR:R=[]:=List.eq_nil_of_length_eq_zero O
        subst hR
        rw [hlab]
        exact ⟨rfl,⟨w0.dropLast,[],false,[],0⟩,rfl,qaj,fun y hy=>by injection hy⟩)
     | (rw [hlab]
        exact ⟨rfl,⟨[],[],false,[],0⟩,rfl,qaj,fun y hy=>by injection hy⟩)
     | (exfalso;simp only [List.length_cons] at hn;omega)
  refine Zg Z Z<|Zqm Z Z<|Zg Z Z<|Ws Y4<|Zg Z Z<|qdP Z Z Z<|ZqF Z Z Z<|Nt<|?_
  refine qab Z (fun c20=>?_) (fun c20=>?_)
  ·
   refine Sr<|qae (qal [] [_,_,_,_,_] Z Z Z Z Z Z) Z<|Wt 1 [_,_,_,_,_] Y9<|At Z Z<|Zo<|Zu<|?_
   refine rR [_,_] L (.agg (us:=[_,_,_,_,_]) 1 Z Z Z Z Z (.t1 Z)) Z (h1.t h2|>.t h3|>.t h4|>.t h6|>.t h18) fun _ hS2=>?_
   first
     | (have hN:qa6 l=none:=by
          first
          | exact qb0 hWW (by rw [qgJ,if_pos he,if_neg (by rw [hlb];decide)])
          | (rw [hlab];exact qbu As)
          | (rw [hlab];exact qbp (by simp only [List.length_cons];omega))
        rw [hN]
        exact ⟨rfl,⟨[],[],false,[],0⟩,rfl,qaj,fun y hy=>by cases hy⟩)
     | (rw [hlab,qbq As,Option.isSome_map]
        first
        | exact ⟨rfl,⟨[],w1,true,nm,kk⟩,rfl,hku,fun y hy=>by
            obtain ⟨x,hx,rfl⟩:=Option.map_eq_some_iff.1 hy
            have:=hkv x hx;subst this;rfl⟩
        | exact ⟨rfl,⟨w0.dropLast,w1,true,nm,kk⟩,rfl,hku,fun y hy=>by
            obtain ⟨x,hx,rfl⟩:=Option.map_eq_some_iff.1 hy
            have:=hkv x hx;subst this;rfl⟩)
     | (obtain rfl:R1=[]:=List.eq_nil_of_length_eq_zero O
        rw [hlab,qbt As]
        first
        | exact ⟨rfl,⟨[],w1,false,[],0⟩,rfl,qaj,fun y hy=>by injection hy⟩
        | exact ⟨rfl,⟨w0.dropLast,w1,false,[],0⟩,rfl,qaj,fun y hy=>by injection hy⟩)
     | (have hR:R=[]:=List.eq_nil_of_length_eq_zero O
        subst hR
        rw [hlab]
        exact ⟨rfl,⟨w0.dropLast,[],false,[],0⟩,rfl,qaj,fun y hy=>by injection hy⟩)
     | (rw [hlab]
        exact ⟨rfl,⟨[],[],false,[],0⟩,rfl,qaj,fun y hy=>by injection hy⟩)
     | (exfalso;simp only [List.length_cons] at hn;omega)
  refine Zk<|Zt<|Sr<|Zqm Z Z<|qae (qaX (j:=0) Z Z Z Z Z Z O) Z<|qae (qaq Z Z Z (hc1.le h18) Z) Z<|Wb Y5<|Wt 0 [_,_,_,_,_] Y9<|Nt<|Sr<|At Z Z<|Zs<|Sr<|Zqm Z Z<|Ws Y4<|qaJ Z Z Z<|Nt<|?_
  refine qab Z (fun c21=>?_) (fun c21=>?_)
  ·
   obtain ⟨b2,off2,w2,hA2,hw2,hc2,hlw2⟩:=Strs.at_ (hW1.le h18) (show 1 < _ by omega)
   injection hA2 with hA2
   injection hA2 with e1 e2
   subst e1
   subst e2
   have hl2:w2.length≤400000:=hmem _ (by first | exact List.mem_cons_of_mem _ (List.mem_of_getElem? hw2) | exact List.mem_of_getElem? hw2)
   obtain rfl:R1=[w2]:=by
     match R1,hw2,hn1 with
     | [],h,_=>cases h
     | [y],h,_=>simp at h;rw [h]
     | _::_::_,_,h=>simp at h;omega
   refine Sr<|Wb Y5<|Wt 0 [_,_,_,_,_] Y9<|Nt<|Zr<|Zqm Z Z<|qae (qaX (j:=1) Z Z Z Z Z Z O) Z<|qae (qaq Z Z Z (hc2.le (Lr D)) Z) Z<|Jc Z Z Z (qgN D _ _ (hG.le (h1.t h2|>.t h3|>.t h4|>.t h6|>.t h18)) w2 O) ?_
   rintro _ _ s22 h22 ⟨rfl,nm,kk,rfl,hku,hkv⟩
   refine Zqm Z Z<|Zqx Z Z Z<|Zqx Z Z Z<|Wb Y5<|Wt 0 [_,_,_,_,_] Y9<|At Z Z<|Sr<|qae (qad 0 [_,_,_,_,_] Z Z Z Z Z) Z<|Zqm Z Z<|Wt 1 [_,_,_,_,_] Y9<|At Z Z<|Zo<|?_
   refine rR [_,_] L (.agg (us:=[_,_,_,_,_]) 1 Z Z Z Z Z (.t1 Z)) Z (h1.t h2|>.t h3|>.t h4|>.t h6|>.t h18|>.t h22) fun _ hS2=>?_
   first
     | (have hN:qa6 l=none:=by
          first
          | exact qb0 hWW (by rw [qgJ,if_pos he,if_neg (by rw [hlb];decide)])
          | (rw [hlab];exact qbu As)
          | (rw [hlab];exact qbp (by simp only [List.length_cons];omega))
        rw [hN]
        exact ⟨rfl,⟨[],[],false,[],0⟩,rfl,qaj,fun y hy=>by cases hy⟩)
     | (rw [hlab,qbq As,Option.isSome_map]
        first
        | exact ⟨rfl,⟨[],w1,true,nm,kk⟩,rfl,hku,fun y hy=>by
            obtain ⟨x,hx,rfl⟩:=Option.map_eq_some_iff.1 hy
            have:=hkv x hx;subst this;rfl⟩
        | exact ⟨rfl,⟨w0.dropLast,w1,true,nm,kk⟩,rfl,hku,fun y hy=>by
            obtain ⟨x,hx,rfl⟩:=Option.map_eq_some_iff.1 hy
            have:=hkv x hx;subst this;rfl⟩)
     | (obtain rfl:R1=[]:=List.eq_nil_of_length_eq_zero O
        rw [hlab,qbt As]
        first
        | exact ⟨rfl,⟨[],w1,false,[],0⟩,rfl,qaj,fun y hy=>by injection hy⟩
        | exact ⟨rfl,⟨w0.dropLast,w1,false,[],0⟩,rfl,qaj,fun y hy=>by injection hy⟩)
     | (have hR:R=[]:=List.eq_nil_of_length_eq_zero O
        subst hR
        rw [hlab]
        exact ⟨rfl,⟨w0.dropLast,[],false,[],0⟩,rfl,qaj,fun y hy=>by injection hy⟩)
     | (rw [hlab]
        exact ⟨rfl,⟨[],[],false,[],0⟩,rfl,qaj,fun y hy=>by injection hy⟩)
     | (exfalso;simp only [List.length_cons] at hn;omega)
  refine Zk<|Zt<|Sr<|qae (qad 0 [_,_,_,_,_] Z Z Z Z Z) Z<|Zqm Z Z<|Wt 1 [_,_,_,_,_] Y9<|At Z Z<|Zo<|?_
  refine rR [_,_] L (.agg (us:=[_,_,_,_,_]) 1 Z Z Z Z Z (.t1 Z)) Z (h1.t h2|>.t h3|>.t h4|>.t h6|>.t h18) fun _ hS2=>?_
  first
    | (have hN:qa6 l=none:=by
         first
         | exact qb0 hWW (by rw [qgJ,if_pos he,if_neg (by rw [hlb];decide)])
         | (rw [hlab];exact qbu As)
         | (rw [hlab];exact qbp (by simp only [List.length_cons];omega))
       rw [hN]
       exact ⟨rfl,⟨[],[],false,[],0⟩,rfl,qaj,fun y hy=>by cases hy⟩)
    | (rw [hlab,qbq As,Option.isSome_map]
       first
       | exact ⟨rfl,⟨[],w1,true,nm,kk⟩,rfl,hku,fun y hy=>by
           obtain ⟨x,hx,rfl⟩:=Option.map_eq_some_iff.1 hy
           have:=hkv x hx;subst this;rfl⟩
       | exact ⟨rfl,⟨w0.dropLast,w1,true,nm,kk⟩,rfl,hku,fun y hy=>by
           obtain ⟨x,hx,rfl⟩:=Option.map_eq_some_iff.1 hy
           have:=hkv x hx;subst this;rfl⟩)
    | (obtain rfl:R1=[]:=List.eq_nil_of_length_eq_zero O
       rw [hlab,qbt As]
       first
       | exact ⟨rfl,⟨[],w1,false,[],0⟩,rfl,qaj,fun y hy=>by injection hy⟩
       | exact ⟨rfl,⟨w0.dropLast,w1,false,[],0⟩,rfl,qaj,fun y hy=>by injection hy⟩)
    | (have hR:R=[]:=List.eq_nil_of_length_eq_zero O
       subst hR
       rw [hlab]
       exact ⟨rfl,⟨w0.dropLast,[],false,[],0⟩,rfl,qaj,fun y hy=>by injection hy⟩)
    | (rw [hlab]
       exact ⟨rfl,⟨[],[],false,[],0⟩,rfl,qaj,fun y hy=>by injection hy⟩)
    | (exfalso;simp only [List.length_cons] at hn;omega)
 have hW0:W=[]:=List.eq_nil_of_length_eq_zero O
 subst hW0
 have hlab:qa6 l=qdg [] []:=qet hWW rfl
 have hW1:=hW
 refine Zk<|Zt<|Zs<|Sr<|Zqm Z Z<|Ws Y4<|qaJ Z Z Z<|Nt<|?_
 refine qab Z (fun c23=>?_) (fun c23=>?_)
 ·
  have hz1:=c23
  refine Sr<|qae (qad 0 [_,_,_,_,_] Z Z Z Z Z) Z<|Wt 1 [_,_,_,_,_] Y9<|At Z Z<|Zo<|Zu<|?_
  refine rR [_,_] L (.agg (us:=[_,_,_,_,_]) 1 Z Z Z Z Z (.t1 Z)) Z (h1.t h2|>.t h3|>.t h4) fun _ hS2=>?_
  first
    | (have hN:qa6 l=none:=by
         first
         | exact qb0 hWW (by rw [qgJ,if_pos he,if_neg (by rw [hlb];decide)])
         | (rw [hlab];exact qbu As)
         | (rw [hlab];exact qbp (by simp only [List.length_cons];omega))
       rw [hN]
       exact ⟨rfl,⟨[],[],false,[],0⟩,rfl,qaj,fun y hy=>by cases hy⟩)
    | (rw [hlab,qbq As,Option.isSome_map]
       first
       | exact ⟨rfl,⟨[],w1,true,nm,kk⟩,rfl,hku,fun y hy=>by
           obtain ⟨x,hx,rfl⟩:=Option.map_eq_some_iff.1 hy
           have:=hkv x hx;subst this;rfl⟩
       | exact ⟨rfl,⟨w0.dropLast,w1,true,nm,kk⟩,rfl,hku,fun y hy=>by
           obtain ⟨x,hx,rfl⟩:=Option.map_eq_some_iff.1 hy
           have:=hkv x hx;subst this;rfl⟩)
    | (obtain rfl:R1=[]:=List.eq_nil_of_length_eq_zero O
       rw [hlab,qbt As]
       first
       | exact ⟨rfl,⟨[],w1,false,[],0⟩,rfl,qaj,fun y hy=>by injection hy⟩
       | exact ⟨rfl,⟨w0.dropLast,w1,false,[],0⟩,rfl,qaj,fun y hy=>by injection hy⟩)
    | (have hR:R=[]:=List.eq_nil_of_length_eq_zero O
       subst hR
       rw [hlab]
       exact ⟨rfl,⟨w0.dropLast,[],false,[],0⟩,rfl,qaj,fun y hy=>by injection hy⟩)
    | (rw [hlab]
       exact ⟨rfl,⟨[],[],false,[],0⟩,rfl,qaj,fun y hy=>by injection hy⟩)
    | (exfalso;simp only [List.length_cons] at hn;omega)
 exact absurd (by simp at hn;omega) c23 --end
end Go.Proofs.YtjindleklapakaaGreatDoor
namespace Go.Proofs.YtjindleklapakaaGreatDoor
open Go Go.FL Go.RowKit
structure AG where
 vw:Value
 Mw:Hl
 vl:Value
 Ml:Hl
 vr:Value
 Mr:Hl
 es:List (List UInt8×Value×Nat)
 ck:Nat
 w:List Int
 l:List (List UInt8×Int)
 r:List (Int×Nat×List UInt8×Int)
def lbv(l:List (List UInt8×Int)):List Value:=(l.map fun x=>[St x.1,Value.int .u32 x.2]).flatten
def rfv(r:List (Int×Nat×List UInt8×Int)):List Value:=(r.map fun x=>[Value.int .i64 x.1,Value.int .i64 (x.2.1:Int),St x.2.2.1,Value.int .u32 x.2.2.2]).flatten
def qbQ:List (List UInt8×Int)→List UInt8→Option Int
 | [],_=>none
 | x::l,k=>if x.1=k then some x.2 else qbQ l k
structure AGok(g:AG):Prop where
 hw:FL.Own 38 1 g.Mw g.vw g.w.length (wv g.w)
 hl:FL.Own 60 2 g.Ml g.vl g.l.length (lbv g.l)
 hr:FL.Own 127 4 g.Mr g.vr g.r.length (rfv g.r)
 he:∀ k,qb4 g.es k=(qbQ g.l k).map (Value.int .u32)
 uw:∀ x∈g.w,U32 x
 ul:∀ x∈g.l,U32 x.2
 ur:∀ x∈g.r,U32 x.2.2.2
def HA(ba bm:Nat)(tc:Int)(A:Option Addr)(n c:Nat)(g:AG)(L:Hl):Hl:=
 (ba,cb [.int .i64 tc,.slice A n c,g.vw,g.vl,.map (some bm),g.vr] 79)::(bm,mp (fun l=>St l) g.es g.ck)::(g.Mw++(g.Ml++(g.Mr++L)))
theorem qoi(l:List (List UInt8×Int))(k:List UInt8)(a:Int):lbv (l++[(k,a)])=lbv l++[St k,.int .u32 a]:=by simp [lbv]
theorem qor(r:List (Int×Nat×List UInt8×Int))(i:Int)(p:Nat)(k:List UInt8)(a:Int):rfv (r++[(i,p,k,a)])=rfv r++[.int .i64 i,.int .i64 (p:Int),St k,.int .u32 a]:=by simp [rfv]
theorem qlQ(w:List Int)(x:Int):wv (w++[x])=wv w++[.int .u32 x]:=by simp [wv]
theorem qnh(w:List Int)(m:Nat):wv (w++List.replicate m 0)=wv w++List.replicate m (.int .u32 0):=by simp [wv]
theorem qkA(l:List (List UInt8×Int))(k j:List UInt8)(a:Int)(h:qbQ l k=none):qbQ (l++[(k,a)]) j=if j=k then some a else qbQ l j:=by
  induction l with
  | nil=>simp only [List.nil_append,qbQ];by_cases h':k=j <;> simp [h',eq_comm]
  | cons x l ih=>
    simp only [qbQ] at h
    split at h
    · cases h
    · rename_i hx
      simp only [List.cons_append,qbQ,ih h]
      by_cases hj:x.1=j
      · subst hj;simp [hx]
      · simp [hj]
def qbe:List UInt8:=[115,112,97,99,101]
def qcI:List UInt8:=[119,111,114,100]
def qcy(w:List Int)(x:Ln)(code:Int)(own:Bool):List Int:=
 if x.op=qbe then w++List.replicate x.num.toNat 0 else if x.has then (if own then w else w++[code])++[x.num] else (if own then w else w++[code])
def qdJ(r:List (Int×Nat×List UInt8×Int))(w:List Int)(i:Int)(x:Ln)(code:Int)(own:Bool):List (Int×Nat×List UInt8×Int):=
 if x.op=qbe then r else if x.has=true∧x.name≠[] then r++[(i,(if own then w else w++[code]).length,x.name,x.num)] else r
theorem qbg{w:List Int}{x:Ln}{code:Int}{own:Bool}(h:x.op=qbe):qcy w x code own=w++List.replicate x.num.toNat 0:=by rw [qcy,if_pos h]
theorem qdZ{r:List (Int×Nat×List UInt8×Int)}{w:List Int}{i:Int}{x:Ln}{code:Int}{own:Bool}(h:x.op=qbe):qdJ r w i x code own=r:=by rw [qdJ,if_pos h]
theorem qij(ba bm:Nat)(tc:Int)(A:Option Addr)(n c:Nat)(g:AG)(x:Nat×Obj)(L:Hl):(HA ba bm tc A n c g (x::L)).Perm (x::HA ba bm tc A n c g L):=by
 unfold HA
 refine List.Perm.trans ?_ (List.Perm.trans (List.Perm.cons _ (List.Perm.swap _ _ _)) (List.Perm.swap _ _ _))
 refine List.Perm.cons _ (List.Perm.cons _ ?_)
 refine List.Perm.trans ?_ (List.perm_middle)
 refine List.Perm.append_left _ ?_
 refine List.Perm.trans ?_ (List.perm_middle)
 exact List.Perm.append_left _ List.perm_middle
theorem qk8(ba bm:Nat)(tc:Int)(A:Option Addr)(n c:Nat)(g:AG)(x y:Nat×Obj)(L:Hl):(HA ba bm tc A n c g (x::y::L)).Perm (x::y::HA ba bm tc A n c g L):=
 (qij ..).trans (List.Perm.cons _ (qij ..))
def qcc(o:List UInt8):Bool:=decide (o=[119,111,114,100]∨o=[115,112,97,99,101])
def qbd(l:List Ins)(nm:List UInt8):Option Ins:=l.find? fun y=>decide (y.name=nm)
def qd4(t:Tab)(o:List UInt8):Int:=match qbd t.ins o with
 | some z=>z.code
 | none=>0
def qiE(t:Tab)(o:List UInt8):Bool:=match qbd t.ins o with
 | some z=>z.operand
 | none=>false
def qdT(t:Tab)(w:List Int)(x:Ln):List Int:=if x.op=[] then w else qcy w x (qd4 t x.op) (qcc x.op)
def qmY(w:List Int)(l:List (List UInt8×Int))(x:Ln):List (List UInt8×Int):=if x.label=[] then l else l++[(x.label,(w.length:Int))]
def qg2(t:Tab)(w:List Int)(r:List (Int×Nat×List UInt8×Int))(i:Int)(x:Ln):List (Int×Nat×List UInt8×Int):=if x.op=[] then r else qdJ r w i x (qd4 t x.op) (qcc x.op)
def qbN(t:Tab)(w:List Int)(l:List (List UInt8×Int)):Option Ln→Int
 | none=>1
 | some x=>if x.label≠[]∧(qbQ l x.label).isSome=true then 8 else if x.op=[] then 0
  else if (qbd t.ins x.op).isSome=false∧qcc x.op=false then 12
  else if x.has≠(qcc x.op || qiE t x.op) then 9
  else if x.op=[115,112,97,99,101]∧x.name≠[] then 6
  else if t.cells < ((qdT t w x).length:Int) then 14 else 0
section
variable{t:Tab}{w:List Int}{l:List (List UInt8×Int)}{x:Ln}{yo:Bool}(h8:¬ (x.label≠[]∧(qbQ l x.label).isSome=true))(ho:¬ x.op=[])
include h8 ho
theorem qeO(h:(qbd t.ins x.op).isSome=false∧¬ (x.op=[119,111,114,100]∨x.op=[115,112,97,99,101])):qbN t w l (some x)=12:=by
 rw [qbN,if_neg h8,if_neg ho,if_pos ⟨h.1,decide_eq_false h.2⟩]
variable(h83:¬ ((qbd t.ins x.op).isSome=false∧¬ (x.op=[119,111,114,100]∨x.op=[115,112,97,99,101])))(hoo:qiE t x.op=yo)
include h83 hoo
theorem qgc(h90:¬ x.has=(decide (x.op=[119,111,114,100]∨x.op=[115,112,97,99,101]) || yo)):qbN t w l (some x)=9:=by
 rw [qbN,if_neg h8,if_neg ho,if_neg (fun h=>h83 ⟨h.1,of_decide_eq_false h.2⟩),hoo]
 exact if_pos h90
variable(h90:¬ ¬ x.has=(decide (x.op=[119,111,114,100]∨x.op=[115,112,97,99,101]) || yo))
include h90
theorem qgq(h99:x.op=[115,112,97,99,101]∧¬ x.name=[]):qbN t w l (some x)=6:=by
 rw [qbN,if_neg h8,if_neg ho,if_neg (fun h=>h83 ⟨h.1,of_decide_eq_false h.2⟩),hoo]
 exact (if_neg h90).trans (if_pos h99)
theorem qgi(h99:¬ (x.op=[115,112,97,99,101]∧¬ x.name=[])):qbN t w l (some x)=if t.cells < ((qdT t w x).length:Int) then 14 else 0:=by
 rw [qbN,if_neg h8,if_neg ho,if_neg (fun h=>h83 ⟨h.1,of_decide_eq_false h.2⟩),hoo]
 exact (if_neg h90).trans (if_neg h99)
end
theorem qlw(w:List Int)(x:Ln)(c d:Int):qcy w x c true=qcy w x d true:=by simp [qcy]
theorem qle(r:List (Int×Nat×List UInt8×Int))(w:List Int)(i:Int)(x:Ln)(c d:Int):qdJ r w i x c true=qdJ r w i x d true:=by simp [qdJ]
open Go.Proofs.Tryz
open Go.FL
attribute [local irreducible] JC JO JA JB qa7 qaP qdj AC fill CellsAt QE Ev Mid
theorem qoG(D:Nat)(L:Hl)(s:World)(nm:List UInt8)(y:Ins)(A':Option Addr)(n' c' β:Nat)(x0:Nat×Obj):AC prog D 96 [.agg #[St y.name,.int .u32 y.code,.bool y.operand,.slice A' n' c'],.pointer (some ⟨β,0,none⟩)] (x0::(β,cb [St nm] 9)::L) s fun v L' _=>v=.bool (decide (y.name=nm))∧x0::(β,cb [St nm] 9)::L=L':=by
 refine qai (fn:=f96) qaG func96 V Z ntmps96 Z (rs:=[.tmp 3]) Z [(0,_),(1,_)] Z<|Sr<|qaL Z Z ?_
 intro β1 s1 h1
 refine At Z Z<|Sr<|W0 Y5<|Wl 0 Y6<|Wl 2 Y6<|qjv Z Z Z<|At Z Z<|Zo ?_
 refine rR [_] (x0::(β,cb [St nm] 9)::L) (.t1 Z) Z h1 fun _ hS2=>?_
 exact ⟨rfl,rfl⟩
theorem qj9{α:Type}(p:α→Bool)(l:List α)(j:Nat):(qce p l j=-1∧l.find? p=none)∨∃ i x,qce p l j=((j+i:Nat):Int)∧l[i]?=some x∧l.find? p=some x:=by
 induction l generalizing j with
 | nil=>exact .inl ⟨rfl,rfl⟩
 | cons y l ih=>
  simp only [qce,List.find?]
  cases h:p y with
  | true=>exact .inr ⟨0,y,by simp,rfl,rfl⟩
  | false=>
   rcases ih (j+1) with ⟨h1,h2⟩ | ⟨i,x,h1,h2,h3⟩
   · exact .inl ⟨by simpa using h1,h2⟩
   · exact .inr ⟨i+1,x,by simp only [Bool.false_eq_true,if_false];rw [h1];congr 1;omega,h2,h3⟩
theorem qnT(D:Nat)(L:Hl)(s:World)(ba bm:Nat)(t:Tab)(A:Option Addr)(n c:Nat)(hA:Inss s A n c t.ins)(g:AG)(nm:List UInt8):AC prog D 72 [.pointer (some ⟨ba,0,none⟩),St nm] (HA ba bm t.cells A n c g L) s fun v L' _=>L'=HA ba bm t.cells A n c g L∧∃ (y:Ins) (Ay:Option Addr) (ny cy:Nat),v=.tuple #[.agg #[St y.name,.int .u32 y.code,.bool y.operand,.slice Ay ny cy],.bool (qbd t.ins nm).isSome]∧U32 y.code∧(∀ z,qbd t.ins nm=some z→y=z)∧(qbd t.ins nm=none→y.operand=false):=by
 have hn:=hA.1
 simp only [HA]
 refine qai (fn:=f72) qaG func72 V Z ntmps72 Z (rs:=[.cell 4 66,.tmp 5]) Z [(0,_),(1,_)] Z<|Sr<|qjE Z Z Z ?_
 intro β1 s1 h1
 refine qag Z [_,_,_,_] Z Z ?_
 intro β2 s2 h2
 refine At Z Z<|Sr<|Zqm Z Z<|qbo Z Z<|W0 Y5<|Wb Y5<|Wl 2 Y6<|qae (qfx Z) Z<|Jc Z Z Z (qfT D _ _ _ _ _ _ (hA.le (h1.t h2)) _ _ (fun (y:Ins)=>decide (y.name=nm)) (fun s2 x A2 n2 c2=>qoG D _ s2 nm x A2 n2 c2 _ _)) ?_
 rintro _ _ s3 h3 ⟨rfl,rfl⟩
 refine At Z Z<|Zs<|Sr<|Zqm Z Z<|qbY Z Z Z<|Nt<|?_
 refine qab Z (fun c4=>?_) (fun c4=>?_)
 ·
  have hneg:=c4
  obtain ⟨hi,hf⟩ | ⟨i,y,hi,hy,hf⟩:=qj9 (fun (y:Ins)=>decide (y.name=nm)) t.ins 0
  rotate_left
  · exact absurd hneg O
  refine Sr<|qae (qal [] [_,_,_,_] Z Z Z Z Z Z) Z<|Wt 0 [_,_,_,_] Y9<|At Z Z<|Zo<|Zu<|?_
  refine rR [_,_] _ (.agg (us:=[_,_,_,_]) 0 Z Z Z Z Z (.t1 Z)) Z (h1.t h2|>.t h3) fun _ hS2=>?_
  first
    | (refine ⟨rfl,y,A',n',c',?_,hcd,fun z hz=>?_,fun hz=>?_⟩
       · rw [qbd,hf];rfl
       · rw [qbd,hf] at hz;injection hz
       · rw [qbd,hf] at hz;cases hz)
    | (refine ⟨rfl,⟨[],0,false,[]⟩,none,0,0,?_,qaj,fun z hz=>?_,fun _=>rfl⟩
       · rw [qbd,hf];rfl
       · rw [qbd,hf] at hz;cases hz)
 have hneg:=c4
 obtain ⟨hi,hf⟩ | ⟨i,y,hi,hy,hf⟩:=qj9 (fun (y:Ins)=>decide (y.name=nm)) t.ins 0
 · exact absurd O hneg
 rw [hi,Nat.zero_add]
 obtain ⟨b,off,y',A',n',c',rfl,hy',hcy,hay,hnl,hcd⟩:=Inss.at_ (hA.le (h1.t h2|>.t h3)) (show i < n by rw [hn];exact (List.getElem?_eq_some_iff.1 hy).1)
 rw [hy] at hy'
 injection hy' with hy'
 subst hy'
 refine Zk<|Zt<|Sr<|Zqm Z Z<|qbo Z Z<|W0 Y5<|Wb Y5<|Wl 2 Y6<|Zqm Z Z<|?_
 refine qae (qbw Z Z Z Z Z Z (show i < n by rw [hn];exact (List.getElem?_eq_some_iff.1 hy).1)) Z ?_
 refine qae (qbG Z Z Z (hcy.le (Lr D)) Z) Z<|Wt 0 [_,_,_,_] Y9<|At Z Z<|Zo<|?_
 refine rR [_,_] _ (.agg (us:=[_,_,_,_]) 0 Z Z Z Z Z (.t1 Z)) Z (h1.t h2|>.t h3) fun _ hS2=>?_
 first
   | (refine ⟨rfl,y,A',n',c',?_,hcd,fun z hz=>?_,fun hz=>?_⟩
      · rw [qbd,hf];rfl
      · rw [qbd,hf] at hz;injection hz
      · rw [qbd,hf] at hz;cases hz)
   | (refine ⟨rfl,⟨[],0,false,[]⟩,none,0,0,?_,qaj,fun z hz=>?_,fun _=>rfl⟩
      · rw [qbd,hf];rfl
      · rw [qbd,hf] at hz;cases hz)
theorem qbv{g:AG}{vw:Value}{M:Hl}{x:Int}(hg:AGok g)(o:FL.Own 38 1 M vw (g.w.length+1) (wv g.w++[.int .u32 x]))(hx:U32 x):AGok ⟨vw,M,g.vl,g.Ml,g.vr,g.Mr,g.es,g.ck,g.w++[x],g.l,g.r⟩:=
 ⟨by simp only [List.length_append,List.length_cons,List.length_nil,qlQ];exact o,hg.hl,hg.hr,hg.he,fun y hy=>by
  rcases List.mem_append.1 hy with h | h
  · exact hg.uw y h
  · rw [List.mem_singleton.1 h];exact hx,hg.ul,hg.ur⟩
theorem qfa{g:AG}{vr:Value}{M:Hl}{i:Int}{p:Nat}{k:List UInt8}{x:Int}(hg:AGok g)(o:FL.Own 127 4 M vr (g.r.length+1) (rfv g.r++[.int .i64 i,.int .i64 (p:Int),St k,.int .u32 x]))(hx:U32 x):AGok ⟨g.vw,g.Mw,g.vl,g.Ml,vr,M,g.es,g.ck,g.w,g.l,g.r++[(i,p,k,x)]⟩:=
 ⟨hg.hw,hg.hl,by simp only [List.length_append,List.length_cons,List.length_nil,qor];exact o,hg.he,hg.uw,hg.ul,fun y hy=>by
  rcases List.mem_append.1 hy with h | h
  · exact hg.ur y h
  · rw [List.mem_singleton.1 h];exact hx⟩
theorem qf2{g:AG}{vw:Value}{M:Hl}{m:Nat}(hg:AGok g)(o:FL.Own 38 1 M vw (g.w.length+m) (wv g.w++List.replicate m (.int .u32 0))):AGok ⟨vw,M,g.vl,g.Ml,g.vr,g.Mr,g.es,g.ck,g.w++List.replicate m 0,g.l,g.r⟩:=
 ⟨by simp only [List.length_append,List.length_replicate,qnh];exact o,hg.hl,hg.hr,hg.he,fun y hy=>by
  rcases List.mem_append.1 hy with h | h
  · exact hg.uw y h
  · rw [(List.mem_replicate.1 h).2];exact qaj,hg.ul,hg.ur⟩
theorem qcu{w w1:List Int}{xl xo xn:List UInt8}{xh own:Bool}{xk yc:Int}(h:w1=if own=true then w else w++[yc])(hs:¬ xo=qbe)(hh:xh=true):w1++[xk]=qcy w ⟨xl,xo,xh,xn,xk⟩ yc own:=by
 subst h;subst hh;simp [qcy,hs]
theorem qhR{w w1:List Int}{xl xo xn:List UInt8}{xh own:Bool}{xk yc:Int}(h:w1=if own=true then w else w++[yc])(hs:¬ xo=qbe)(hh:xh=false):w1=qcy w ⟨xl,xo,xh,xn,xk⟩ yc own:=by
 subst h;subst hh;simp [qcy,hs]
theorem qfc{r:List (Int×Nat×List UInt8×Int)}{w w1:List Int}{i:Int}{xl xo xn:List UInt8}{xh own:Bool}{xk yc:Int}(h:w1=if own=true then w else w++[yc])(hs:¬ xo=qbe)(hh:xh=true)(hn:¬ xn=[]):r++[(i,w1.length,xn,xk)]=qdJ r w i ⟨xl,xo,xh,xn,xk⟩ yc own:=by
 subst h;subst hh;simp [qdJ,hs,hn]
theorem qcV{r:List (Int×Nat×List UInt8×Int)}{w:List Int}{i:Int}{xl xo xn:List UInt8}{xh own:Bool}{xk yc:Int}(hn:xn=[]):r=qdJ r w i ⟨xl,xo,xh,xn,xk⟩ yc own:=by
 subst hn;simp [qdJ]
theorem qcT{r:List (Int×Nat×List UInt8×Int)}{w:List Int}{i:Int}{xl xo xn:List UInt8}{xh own:Bool}{xk yc:Int}(hh:xh=false):r=qdJ r w i ⟨xl,xo,xh,xn,xk⟩ yc own:=by
 subst hh;simp [qdJ]
theorem qmy{x1 x2 x3 x4:Nat×Obj}{M1 M2 R:Hl}:x1::x2::x3::x4::(M1++(M2++R))=(x1::x2::x3::x4::(M1++M2))++R:=by simp
theorem qfj{x a b:Nat×Obj}{R R':Hl}(hx:x∈(a::b::R).take 2):x∈a::b::R':=by
 simp only [List.take_succ_cons,List.take_zero,List.mem_cons,List.not_mem_nil,or_false] at hx
 rcases hx with rfl | rfl
 · exact List.mem_cons_self ..
 · exact List.mem_cons_of_mem _ Mc
theorem qeC{k:Nat}(h:k < 4294967296):U32 (k:Int):=⟨by omega,by omega⟩
theorem qp8(D:Nat)(L:Hl)(s:World)(ba bm:Nat)(tc:Int)(A:Option Addr)(n c:Nat)(g:AG)(hg:AGok g)(num:Int)(xl xo:List UInt8)(xh:Bool)(xn:List UInt8)(xk:Nat)(hxk:xk < 4294967296)(yn:List UInt8)(yc:Int)(yo:Bool)(Ay:Option Addr)(ny cy:Nat)(hyc:U32 yc)(own:Bool)(htc:0≤tc∧tc≤65536)(hwl:(g.w.length:Int)≤tc)(hrl:g.r.length≤1000000):AC Tryz.prog D 73 [.pointer (some ⟨ba,0,none⟩),.int .i64 num,.agg #[St xl,St xo,.bool xh,St xn,.int .u32 (xk:Int)],.agg #[St yn,.int .u32 yc,.bool yo,.slice Ay ny cy],.bool own] (HA ba bm tc A n c g L) s fun v L' _=>∃ g',L'=HA ba bm tc A n c g' L∧∃ e,v=.int .i64 e∧((e=14∧tc < ((qcy g.w ⟨xl,xo,xh,xn,(xk:Int)⟩ yc own).length:Int))∨(e=0∧((qcy g.w ⟨xl,xo,xh,xn,(xk:Int)⟩ yc own).length:Int)≤tc∧AGok g'∧g'.w=qcy g.w ⟨xl,xo,xh,xn,(xk:Int)⟩ yc own∧g'.l=g.l∧g'.es=g.es∧g'.r=qdJ g.r g.w num ⟨xl,xo,xh,xn,(xk:Int)⟩ yc own)):=by
 have hg0:=hg
 obtain ⟨vw,Mw,vl,Ml,vr,Mr,es,ck,w,l,r⟩:=g
 obtain ⟨hOw,hOl,hOr,hE,huw,hul,hur⟩:=hg
 simp only at hOw hOl hOr hE huw hul hur
 obtain ⟨Aw,cw,rfl,kw,kx⟩:=Own.slice hOw
 obtain ⟨Al,cl,rfl,kl,km⟩:=Own.slice hOl
 obtain ⟨Ar,cr,rfl,kr,ks⟩:=Own.slice hOr
 simp only [HA]
 simp only at hwl hrl
 refine qai (fn:=Tryz.f73) qaG Tryz.func73 V Z Tryz.ntmps73 Z (rs:=[.tmp 10]) Z [(0,_),(1,_),(2,_),(3,_),(4,_)] Z<|Sr<|qaL Z Z ?_
 intro β1 s1 h1
 refine qaL Z Z ?_
 intro β2 s2 h2
 refine At Z Z<|Zs<|qbH qaf 12 Z _ (fun _ h=>h) ?_
 intro s3 h3
 refine za 0 Z (qao Z) Z<|za 1 Z (qau Z) Z<|za 2 Z (qaw Z Z Z Z) Z<|za 3 Z (qaw Z Z Z Z) Z<|za 4 Z (Wd 2 Y5) Z<|za 5 Z (qao Z) Z<|za 6 Z (qau Z) Z<|za 7 Z (We Y4) Z<|za 8 Z (Wd 2 Y5) Z<|za 9 Z (qdw Z Z Z) Z<|za 10 Z (qgn Z Z (w64 O O)) Z<|za 11 Z (qcq Z) Z<|qac V<|Zt<|Zs<|Sr<|Wb Y5<|Wl 1 Y6<|qjv Z Z Z<|Nt<|?_
 refine qab Z (fun c4=>?_) (fun c4=>?_)
 ·
  have hsp:xo=qbe:=c4
  refine Zs<|Sr<|Wb Y5<|qae (qdh Z Z Z Z) Z<|Wl 1 Y6<|qae (qaH Z Z Z Z Z (w64 O O)) Z<|Zqm Z Z<|qdP Z Z Z<|Nt<|?_
  refine qab Z (fun c5=>?_) (fun c5=>?_)
  ·
   refine Sr<|At Z Z<|Zo<|Zu<|Zu<|?_
   refine rR [_,_] _ (.t1 Z) Z (h1.t h2|>.t h3) fun _ hS2=>?_
   first
     | (refine ⟨(⟨.slice Aw w.length cw,Mw,.slice Al l.length cl,Ml,.slice Ar r.length cr,Mr,es,ck,w,l,r⟩:AG),rfl,14,rfl,.inl ⟨rfl,?_⟩⟩
        simp only [qbg (x:=⟨xl,xo,xh,xn,(xk:Int)⟩) hsp,List.length_append,List.length_replicate,Int.toNat_natCast];omega)
     | (refine ⟨⟨_,M1,_,Ml,_,Mr,es,ck,w++List.replicate xk 0,l,r⟩,rfl,0,rfl,.inr ⟨rfl,?_,qf2 hg0 o1,?_,rfl,rfl,?_⟩⟩
        · simp only [qbg (x:=⟨xl,xo,xh,xn,(xk:Int)⟩) hsp,List.length_append,List.length_replicate,Int.toNat_natCast];omega
        · simp only [qbg (x:=⟨xl,xo,xh,xn,(xk:Int)⟩) hsp,Int.toNat_natCast]
        · exact (qdZ (x:=⟨xl,xo,xh,xn,(xk:Int)⟩) hsp).symm)
     | (refine ⟨g,rfl,14,rfl,.inl ⟨rfl,?_⟩⟩
        rw [← ew3];omega)
     | (refine ⟨g,rfl,0,rfl,.inr ⟨rfl,?_,hg3,ew3,el3,ee3,er3⟩⟩
        rw [← ew3];omega)
  refine Zk<|Zt<|Zs<|qaT qaf 12 Z 2 ?_
  intro s6 h6
  refine za 0 Z (qao Z) Z<|za 1 Z (qao Z) Z<|za 2 Z (qau Z) Z<|za 3 Z (We Y4) Z<|za 5 Z (We Y4) Z<|za 6 Z (qdh Z Z Z Z) Z<|za 7 Z (Wd 1 Y5) Z<|qah 4 V<|qb1 Z Tt (Wd 2 Y5) Z<|qah 8 V<|qq5 (sz:=1) (m:=xk) (news:=List.replicate xk (.int .u32 0)) Z Tt [_,_,_,_] Mw _ Z Z Z Z Z Z Z hOw (by simp) (fun hT w i k1 i1 i2 i3 i4=>qk5 xk k1 Tryz.underlying38 i1 i2 i4 Z Z O (by rw [i3];simp [ti38];omega)) ⟨by simp [ti38];omega,by omega⟩ Z (fun A2 x hx _=>qfj hx) ?_
  intro v1 M1 s7 h7 o1
  obtain ⟨Av1,cv1,rfl,kv1,kv2⟩:=Own.slice o1
  simp only [List.cons_append,List.nil_append,List.append_assoc]
  refine za 9 Z (qau Z) Z<|za 10 Z (We Y4) Z<|qah 11 V<|Wu Z Tt 2 [_,_,_,_,_,_] Y9 (sM (qew (sb0 _)))<|qac V<|Zt<|Sr<|At Z Z<|Zo<|Zu<|?_
  refine rR [_,_] _ (.t1 Z) Z (h1.t h2|>.t h3|>.t h6|>.t h7) fun _ hS2=>?_
  first
    | (refine ⟨(⟨.slice Aw w.length cw,Mw,.slice Al l.length cl,Ml,.slice Ar r.length cr,Mr,es,ck,w,l,r⟩:AG),rfl,14,rfl,.inl ⟨rfl,?_⟩⟩
       simp only [qbg (x:=⟨xl,xo,xh,xn,(xk:Int)⟩) hsp,List.length_append,List.length_replicate,Int.toNat_natCast];omega)
    | (refine ⟨⟨_,M1,_,Ml,_,Mr,es,ck,w++List.replicate xk 0,l,r⟩,rfl,0,rfl,.inr ⟨rfl,?_,qf2 hg0 o1,?_,rfl,rfl,?_⟩⟩
       · simp only [qbg (x:=⟨xl,xo,xh,xn,(xk:Int)⟩) hsp,List.length_append,List.length_replicate,Int.toNat_natCast];omega
       · simp only [qbg (x:=⟨xl,xo,xh,xn,(xk:Int)⟩) hsp,Int.toNat_natCast]
       · exact (qdZ (x:=⟨xl,xo,xh,xn,(xk:Int)⟩) hsp).symm)
    | (refine ⟨g,rfl,14,rfl,.inl ⟨rfl,?_⟩⟩
       rw [← ew3];omega)
    | (refine ⟨g,rfl,0,rfl,.inr ⟨rfl,?_,hg3,ew3,el3,ee3,er3⟩⟩
       rw [← ew3];omega)
 have hsp:¬ xo=qbe:=c4
 refine Zk<|Zt<|?_
 refine qi8 (γ:=AG) (fun g=>[(11,.int .i64 (tc - (g.w.length:Int)))]) [_,_] Z (fun g=>HA ba bm tc A n c g L) (fun g tw=>AGok g∧g.w=(if own=true then w else w++[yc])∧g.l=l∧g.r=r∧g.es=es) (fun _ _ _ h hl=>h) ?_ ?_
 ·
  refine Sr<|Zqm Z Z<|qcQ Z Z<|Nt<|?_
  refine qbU Z (fun c9=>?_) (fun c9=>?_)
  ·
   have hown:=c9
   refine Zs<|qaT qaf 12 Z 2 ?_
   intro s10 h10
   refine za 0 Z (qao Z) Z<|za 1 Z (qao Z) Z<|za 2 Z (qau Z) Z<|za 3 Z (We Y4) Z<|za 5 Z (We Y4) Z<|za 6 Z (Wd 0 Y5) Z ?_
   refine qcg 4 7 V ?_ ?_
   ·
    refine qb1 Z Tt (Wd 2 Y5) Z<|qah 7 V<|qas Z Tt [(_,_)] [_] Z Z Z Z Z Z Z Z Z ?_
    intro βn s11 h11 hcb
    refine qah 8 V<|qbM (sz:=1) Z (by exact Tt) [_,_,_,_] Mw _ Z Z Z Z Z Z Z hOw (Row.of_cells (hcb.le (Lr D)) Z Z) ⟨by simp [ti38];omega,by omega⟩ Z (fun A2 x hx _=>qfj hx) ?_
    intro v1 M1 s12 h12 o1
    obtain ⟨Av1,cv1,rfl,kv1,kv12⟩:=Own.slice o1
    simp only [List.cons_append,List.nil_append,List.append_assoc]
    refine za 9 Z (qau Z) Z<|za 10 Z (We Y4) Z<|qah 11 V<|Wu Z Tt 2 [_,_,_,_,_,_] Y9 (sM (qew (sb0 _)))<|qac V<|Zt<|Zr<|Zqm Z Z<|qeW Z Z Z (w64 O O)<|Zqa Z Z<|Zn<|?_
    refine qaa (MidG.mk ⟨_,M1,_,Ml,_,Mr,es,ck,w++[yc],l,r⟩ [] (h10.t h11|>.t h12) (.cons (by first | rfl | (simp only [List.length_append,List.length_cons,List.length_nil];refine congrArg some (congrArg (Value.int .i64) ?_);omega)) (.nil _)) So Pr (by first | exact ⟨qbv hg0 o1 hyc,by simp [hown],rfl,rfl,rfl⟩ | exact ⟨hg0,by simp [hown],rfl,rfl,rfl⟩))
   refine qas Z Tt [(_,_)] [_] Z Z Z Z Z Z Z Z Z ?_
   intro βn s13 h13 hcb
   refine qah 4 V<|qb1 Z Tt (Wd 2 Y5) Z<|qah 8 V<|qbM (sz:=1) Z (by exact Tt) [_,_,_,_] Mw _ Z Z Z Z Z Z Z hOw (Row.of_cells (hcb.le (Lr D)) Z Z) ⟨by simp [ti38];omega,by omega⟩ Z (fun A2 x hx _=>qfj hx) ?_
   intro v1 M1 s14 h14 o1
   obtain ⟨Av1,cv1,rfl,kv1,kv12⟩:=Own.slice o1
   simp only [List.cons_append,List.nil_append,List.append_assoc]
   refine za 9 Z (qau Z) Z<|za 10 Z (We Y4) Z<|qah 11 V<|Wu Z Tt 2 [_,_,_,_,_,_] Y9 (sM (qew (sb0 _)))<|qac V<|Zt<|Zr<|Zqm Z Z<|qeW Z Z Z (w64 O O)<|Zqa Z Z<|Zn<|?_
   refine qaa (MidG.mk ⟨_,M1,_,Ml,_,Mr,es,ck,w++[yc],l,r⟩ [] (h10.t h13|>.t h14) (.cons (by first | rfl | (simp only [List.length_append,List.length_cons,List.length_nil];refine congrArg some (congrArg (Value.int .i64) ?_);omega)) (.nil _)) So Pr (by first | exact ⟨qbv hg0 o1 hyc,by simp [hown],rfl,rfl,rfl⟩ | exact ⟨hg0,by simp [hown],rfl,rfl,rfl⟩))
  have hown:=c9
  refine Zk ?_
  refine qaa (MidG.mk ⟨_,Mw,_,Ml,_,Mr,es,ck,w,l,r⟩ [] (Lr D) (.cons (by first | rfl | (simp only [List.length_append,List.length_cons,List.length_nil];refine congrArg some (congrArg (Value.int .i64) ?_);omega)) (.nil _)) So Pr (by first | exact ⟨qbv hg0 o1 hyc,by simp [hown],rfl,rfl,rfl⟩ | exact ⟨hg0,by simp [hown],rfl,rfl,rfl⟩))
 intro g s8 h8 I8
 simp only [cQ9,nQ9]
 obtain ⟨hg1,ew1,el1,er1,ee1⟩:=I8
 have hg2:=hg1
 obtain ⟨vw1,Mw1,vl1,Ml1,vr1,Mr1,es1,ck1,w1,l1,r1⟩:=g
 obtain ⟨hOw1,hOl1,hOr1,hE1,huw1,hul1,hur1⟩:=hg1
 simp only at hOw1 hOl1 hOr1 hE1 huw1 hul1 hur1
 obtain ⟨Aw1,cw1,rfl,kw1,kx1⟩:=Own.slice hOw1
 obtain ⟨Al1,cl1,rfl,kl1,km1⟩:=Own.slice hOl1
 obtain ⟨Ar1,cr1,rfl,kr1,ks1⟩:=Own.slice hOr1
 simp only [HA]
 simp only at ew1 el1 er1 ee1
 subst el1
 subst er1
 subst ee1
 have hw1l:(w1.length:Int)≤tc+1:=by rw [ew1];split <;> (try simp only [List.length_append,List.length_cons,List.length_nil]) <;> omega
 refine qi8 (γ:=AG) (fun g=>[(11,.int .i64 (tc - (g.w.length:Int)))]) [_,_] Z (fun g=>HA ba bm tc A n c g L) (fun g tw=>AGok g∧g.w=qcy w ⟨xl,xo,xh,xn,(xk:Int)⟩ yc own∧g.l=l1∧g.r=qdJ r1 w num ⟨xl,xo,xh,xn,(xk:Int)⟩ yc own∧g.es=es1) (fun _ _ _ h hl=>h) ?_ ?_
 ·
  refine Sr<|Wb Y5<|Wl 1 Y6<|Nt<|?_
  refine qcW Z (fun c16=>?_) (fun c16=>?_)
  ·
   have hhas:=c16
   refine Zs<|Sr<|Wb Y5<|W0 Y5<|Wl 1 Y6<|qqe Z Z Z<|Nt<|?_
   refine qbc Z (fun c17=>?_) (fun c17=>?_)
   ·
    have hnm:=c17
    refine qaT qaf 19 Z 2 ?_
    intro s18 h18
    refine za 0 Z (qao Z) Z<|za 1 Z (qao Z) Z<|za 2 Z (qau Z) Z<|za 3 Z (We Y4) Z<|za 5 Z (qao Z) Z<|za 6 Z (qao Z) Z<|za 7 Z (qau Z) Z<|za 8 Z (We Y4) Z<|za 11 Z (We Y4) Z<|za 12 Z (qad 1 [_,_] Z Z Z Z Z) Z ?_
    refine qcg 4 9 V ?_ ?_
    ·
     refine qb1 Z Tt (Wd 2 Y5) Z<|qah 9 V<|qb1 Z Tt (Wd 2 Y5) Z<|za 10 Z (qdw Z Z Z) Z<|za 13 Z (qal [(_,_),(_,_),(_,_)] [_,_,_,_] Z Z Z Z Z Z) Z<|qah 14 V<|qas Z Tt [(_,_)] [_,_,_,_] Z Z Z Z Z Z Z Z Z ?_
     intro βn s19 h19 hcb
     refine qah 15 V<|qbM (sz:=4) Z (by exact Tt) (_::_::_::_::(Mw1++Ml1)) Mr1 _ qmy Z Z Z Z Z Z hOr1 (Row.of_cells (hcb.le (Lr D)) Z Z) ⟨by simp [ti127];omega,by omega⟩ Z (fun A2 x hx _=>qfj hx) ?_
     intro v2 M2 s20 h20 o2
     obtain ⟨Av2,cv2,rfl,kv2,kv22⟩:=Own.slice o2
     simp only [List.cons_append,List.nil_append,List.append_assoc]
     refine za 16 Z (qau Z) Z<|za 17 Z (We Y4) Z<|qah 18 V<|Wu Z Tt 2 [_,_,_,_,_,_] Y9 (sM (qew (sb0 _)))<|qac V<|Zt<|Zs<|qaT qaf 13 Z 2 ?_
     intro s21 h21
     refine za 0 Z (qao Z) Z<|za 1 Z (qao Z) Z<|za 2 Z (qau Z) Z<|za 3 Z (We Y4) Z<|za 5 Z (We Y4) Z<|za 6 Z (qdh Z Z Z Z) Z<|za 7 Z (Wd 1 Y5) Z ?_
     refine qcg 4 8 V ?_ ?_
     ·
      refine qb1 Z Tt (Wd 2 Y5) Z<|qah 8 V<|qas Z Tt [(_,_)] [_] Z Z Z Z Z Z Z Z Z ?_
      intro βn s22 h22 hcb
      refine qah 9 V<|qbM (sz:=1) Z (by exact Tt) [_,_,_,_] Mw1 _ Z Z Z Z Z Z Z hOw1 (Row.of_cells (hcb.le (Lr D)) Z Z) ⟨by simp [ti38];omega,by omega⟩ Z (fun A2 x hx _=>qfj hx) ?_
      intro v3 M3 s23 h23 o3
      obtain ⟨Av3,cv3,rfl,kv3,kv32⟩:=Own.slice o3
      simp only [List.cons_append,List.nil_append,List.append_assoc]
      refine za 10 Z (qau Z) Z<|za 11 Z (We Y4) Z<|qah 12 V<|Wu Z Tt 2 [_,_,_,_,_,_] Y9 (sM (qew (sb0 _)))<|qac V<|Zt<|Zr<|Zqm Z Z<|qeW Z Z Z (w64 O O)<|Zqa Z Z<|Zn<|?_
      refine qaa (MidG.mk ⟨_,M3,_,Ml1,_,M2,es1,ck1,w1++[(xk:Int)],l1,r1++[(num,w1.length,xn,(xk:Int))]⟩ [] (h18.t h19|>.t h20|>.t h21|>.t h22|>.t h23) (.cons (by first | rfl | (simp only [List.length_append,List.length_cons,List.length_nil];refine congrArg some (congrArg (Value.int .i64) ?_);omega)) (.nil _)) So Pr (by first | exact ⟨qbv (qfa hg2 o2 (qeC hxk)) o3 (qeC hxk),qcu ew1 hsp hhas,rfl,qfc ew1 hsp hhas hnm,rfl⟩ | exact ⟨qbv hg2 o3 (qeC hxk),qcu ew1 hsp hhas,rfl,qcV hnm,rfl⟩ | exact ⟨hg2,qhR ew1 hsp hhas,rfl,qcT hhas,rfl⟩))
     refine qas Z Tt [(_,_)] [_] Z Z Z Z Z Z Z Z Z ?_
     intro βn s24 h24 hcb
     refine qah 4 V<|qb1 Z Tt (Wd 2 Y5) Z<|qah 9 V<|qbM (sz:=1) Z (by exact Tt) [_,_,_,_] Mw1 _ Z Z Z Z Z Z Z hOw1 (Row.of_cells (hcb.le (Lr D)) Z Z) ⟨by simp [ti38];omega,by omega⟩ Z (fun A2 x hx _=>qfj hx) ?_
     intro v3 M3 s25 h25 o3
     obtain ⟨Av3,cv3,rfl,kv3,kv32⟩:=Own.slice o3
     simp only [List.cons_append,List.nil_append,List.append_assoc]
     refine za 10 Z (qau Z) Z<|za 11 Z (We Y4) Z<|qah 12 V<|Wu Z Tt 2 [_,_,_,_,_,_] Y9 (sM (qew (sb0 _)))<|qac V<|Zt<|Zr<|Zqm Z Z<|qeW Z Z Z (w64 O O)<|Zqa Z Z<|Zn<|?_
     refine qaa (MidG.mk ⟨_,M3,_,Ml1,_,M2,es1,ck1,w1++[(xk:Int)],l1,r1++[(num,w1.length,xn,(xk:Int))]⟩ [] (h18.t h19|>.t h20|>.t h21|>.t h24|>.t h25) (.cons (by first | rfl | (simp only [List.length_append,List.length_cons,List.length_nil];refine congrArg some (congrArg (Value.int .i64) ?_);omega)) (.nil _)) So Pr (by first | exact ⟨qbv (qfa hg2 o2 (qeC hxk)) o3 (qeC hxk),qcu ew1 hsp hhas,rfl,qfc ew1 hsp hhas hnm,rfl⟩ | exact ⟨qbv hg2 o3 (qeC hxk),qcu ew1 hsp hhas,rfl,qcV hnm,rfl⟩ | exact ⟨hg2,qhR ew1 hsp hhas,rfl,qcT hhas,rfl⟩))
    refine qb1 Z Tt (Wd 2 Y5) Z<|za 10 Z (qdw Z Z Z) Z<|za 13 Z (qal [(_,_),(_,_),(_,_)] [_,_,_,_] Z Z Z Z Z Z) Z ?_
    refine qcg 4 14 V ?_ ?_
    ·
     refine qb1 Z Tt (Wd 2 Y5) Z<|qah 14 V<|qas Z Tt [(_,_)] [_,_,_,_] Z Z Z Z Z Z Z Z Z ?_
     intro βn s26 h26 hcb
     refine qah 15 V<|qbM (sz:=4) Z (by exact Tt) (_::_::_::_::(Mw1++Ml1)) Mr1 _ qmy Z Z Z Z Z Z hOr1 (Row.of_cells (hcb.le (Lr D)) Z Z) ⟨by simp [ti127];omega,by omega⟩ Z (fun A2 x hx _=>qfj hx) ?_
     intro v2 M2 s27 h27 o2
     obtain ⟨Av2,cv2,rfl,kv2,kv22⟩:=Own.slice o2
     simp only [List.cons_append,List.nil_append,List.append_assoc]
     refine za 16 Z (qau Z) Z<|za 17 Z (We Y4) Z<|qah 18 V<|Wu Z Tt 2 [_,_,_,_,_,_] Y9 (sM (qew (sb0 _)))<|qac V<|Zt<|Zs<|qaT qaf 13 Z 2 ?_
     intro s28 h28
     refine za 0 Z (qao Z) Z<|za 1 Z (qao Z) Z<|za 2 Z (qau Z) Z<|za 3 Z (We Y4) Z<|za 5 Z (We Y4) Z<|za 6 Z (qdh Z Z Z Z) Z<|za 7 Z (Wd 1 Y5) Z ?_
     refine qcg 4 8 V ?_ ?_
     ·
      refine qb1 Z Tt (Wd 2 Y5) Z<|qah 8 V<|qas Z Tt [(_,_)] [_] Z Z Z Z Z Z Z Z Z ?_
      intro βn s29 h29 hcb
      refine qah 9 V<|qbM (sz:=1) Z (by exact Tt) [_,_,_,_] Mw1 _ Z Z Z Z Z Z Z hOw1 (Row.of_cells (hcb.le (Lr D)) Z Z) ⟨by simp [ti38];omega,by omega⟩ Z (fun A2 x hx _=>qfj hx) ?_
      intro v3 M3 s30 h30 o3
      obtain ⟨Av3,cv3,rfl,kv3,kv32⟩:=Own.slice o3
      simp only [List.cons_append,List.nil_append,List.append_assoc]
      refine za 10 Z (qau Z) Z<|za 11 Z (We Y4) Z<|qah 12 V<|Wu Z Tt 2 [_,_,_,_,_,_] Y9 (sM (qew (sb0 _)))<|qac V<|Zt<|Zr<|Zqm Z Z<|qeW Z Z Z (w64 O O)<|Zqa Z Z<|Zn<|?_
      refine qaa (MidG.mk ⟨_,M3,_,Ml1,_,M2,es1,ck1,w1++[(xk:Int)],l1,r1++[(num,w1.length,xn,(xk:Int))]⟩ [] (h18.t h26|>.t h27|>.t h28|>.t h29|>.t h30) (.cons (by first | rfl | (simp only [List.length_append,List.length_cons,List.length_nil];refine congrArg some (congrArg (Value.int .i64) ?_);omega)) (.nil _)) So Pr (by first | exact ⟨qbv (qfa hg2 o2 (qeC hxk)) o3 (qeC hxk),qcu ew1 hsp hhas,rfl,qfc ew1 hsp hhas hnm,rfl⟩ | exact ⟨qbv hg2 o3 (qeC hxk),qcu ew1 hsp hhas,rfl,qcV hnm,rfl⟩ | exact ⟨hg2,qhR ew1 hsp hhas,rfl,qcT hhas,rfl⟩))
     refine qas Z Tt [(_,_)] [_] Z Z Z Z Z Z Z Z Z ?_
     intro βn s31 h31 hcb
     refine qah 4 V<|qb1 Z Tt (Wd 2 Y5) Z<|qah 9 V<|qbM (sz:=1) Z (by exact Tt) [_,_,_,_] Mw1 _ Z Z Z Z Z Z Z hOw1 (Row.of_cells (hcb.le (Lr D)) Z Z) ⟨by simp [ti38];omega,by omega⟩ Z (fun A2 x hx _=>qfj hx) ?_
     intro v3 M3 s32 h32 o3
     obtain ⟨Av3,cv3,rfl,kv3,kv32⟩:=Own.slice o3
     simp only [List.cons_append,List.nil_append,List.append_assoc]
     refine za 10 Z (qau Z) Z<|za 11 Z (We Y4) Z<|qah 12 V<|Wu Z Tt 2 [_,_,_,_,_,_] Y9 (sM (qew (sb0 _)))<|qac V<|Zt<|Zr<|Zqm Z Z<|qeW Z Z Z (w64 O O)<|Zqa Z Z<|Zn<|?_
     refine qaa (MidG.mk ⟨_,M3,_,Ml1,_,M2,es1,ck1,w1++[(xk:Int)],l1,r1++[(num,w1.length,xn,(xk:Int))]⟩ [] (h18.t h26|>.t h27|>.t h28|>.t h31|>.t h32) (.cons (by first | rfl | (simp only [List.length_append,List.length_cons,List.length_nil];refine congrArg some (congrArg (Value.int .i64) ?_);omega)) (.nil _)) So Pr (by first | exact ⟨qbv (qfa hg2 o2 (qeC hxk)) o3 (qeC hxk),qcu ew1 hsp hhas,rfl,qfc ew1 hsp hhas hnm,rfl⟩ | exact ⟨qbv hg2 o3 (qeC hxk),qcu ew1 hsp hhas,rfl,qcV hnm,rfl⟩ | exact ⟨hg2,qhR ew1 hsp hhas,rfl,qcT hhas,rfl⟩))
    refine qas Z Tt [(_,_)] [_,_,_,_] Z Z Z Z Z Z Z Z Z ?_
    intro βn s33 h33 hcb
    refine qah 4 V<|qb1 Z Tt (Wd 2 Y5) Z<|qah 15 V<|qbM (sz:=4) Z (by exact Tt) (_::_::_::_::(Mw1++Ml1)) Mr1 _ qmy Z Z Z Z Z Z hOr1 (Row.of_cells (hcb.le (Lr D)) Z Z) ⟨by simp [ti127];omega,by omega⟩ Z (fun A2 x hx _=>qfj hx) ?_
    intro v2 M2 s34 h34 o2
    obtain ⟨Av2,cv2,rfl,kv2,kv22⟩:=Own.slice o2
    simp only [List.cons_append,List.nil_append,List.append_assoc]
    refine za 16 Z (qau Z) Z<|za 17 Z (We Y4) Z<|qah 18 V<|Wu Z Tt 2 [_,_,_,_,_,_] Y9 (sM (qew (sb0 _)))<|qac V<|Zt<|Zs<|qaT qaf 13 Z 2 ?_
    intro s35 h35
    refine za 0 Z (qao Z) Z<|za 1 Z (qao Z) Z<|za 2 Z (qau Z) Z<|za 3 Z (We Y4) Z<|za 5 Z (We Y4) Z<|za 6 Z (qdh Z Z Z Z) Z<|za 7 Z (Wd 1 Y5) Z ?_
    refine qcg 4 8 V ?_ ?_
    ·
     refine qb1 Z Tt (Wd 2 Y5) Z<|qah 8 V<|qas Z Tt [(_,_)] [_] Z Z Z Z Z Z Z Z Z ?_
     intro βn s36 h36 hcb
     refine qah 9 V<|qbM (sz:=1) Z (by exact Tt) [_,_,_,_] Mw1 _ Z Z Z Z Z Z Z hOw1 (Row.of_cells (hcb.le (Lr D)) Z Z) ⟨by simp [ti38];omega,by omega⟩ Z (fun A2 x hx _=>qfj hx) ?_
     intro v3 M3 s37 h37 o3
     obtain ⟨Av3,cv3,rfl,kv3,kv32⟩:=Own.slice o3
     simp only [List.cons_append,List.nil_append,List.append_assoc]
     refine za 10 Z (qau Z) Z<|za 11 Z (We Y4) Z<|qah 12 V<|Wu Z Tt 2 [_,_,_,_,_,_] Y9 (sM (qew (sb0 _)))<|qac V<|Zt<|Zr<|Zqm Z Z<|qeW Z Z Z (w64 O O)<|Zqa Z Z<|Zn<|?_
     refine qaa (MidG.mk ⟨_,M3,_,Ml1,_,M2,es1,ck1,w1++[(xk:Int)],l1,r1++[(num,w1.length,xn,(xk:Int))]⟩ [] (h18.t h33|>.t h34|>.t h35|>.t h36|>.t h37) (.cons (by first | rfl | (simp only [List.length_append,List.length_cons,List.length_nil];refine congrArg some (congrArg (Value.int .i64) ?_);omega)) (.nil _)) So Pr (by first | exact ⟨qbv (qfa hg2 o2 (qeC hxk)) o3 (qeC hxk),qcu ew1 hsp hhas,rfl,qfc ew1 hsp hhas hnm,rfl⟩ | exact ⟨qbv hg2 o3 (qeC hxk),qcu ew1 hsp hhas,rfl,qcV hnm,rfl⟩ | exact ⟨hg2,qhR ew1 hsp hhas,rfl,qcT hhas,rfl⟩))
    refine qas Z Tt [(_,_)] [_] Z Z Z Z Z Z Z Z Z ?_
    intro βn s38 h38 hcb
    refine qah 4 V<|qb1 Z Tt (Wd 2 Y5) Z<|qah 9 V<|qbM (sz:=1) Z (by exact Tt) [_,_,_,_] Mw1 _ Z Z Z Z Z Z Z hOw1 (Row.of_cells (hcb.le (Lr D)) Z Z) ⟨by simp [ti38];omega,by omega⟩ Z (fun A2 x hx _=>qfj hx) ?_
    intro v3 M3 s39 h39 o3
    obtain ⟨Av3,cv3,rfl,kv3,kv32⟩:=Own.slice o3
    simp only [List.cons_append,List.nil_append,List.append_assoc]
    refine za 10 Z (qau Z) Z<|za 11 Z (We Y4) Z<|qah 12 V<|Wu Z Tt 2 [_,_,_,_,_,_] Y9 (sM (qew (sb0 _)))<|qac V<|Zt<|Zr<|Zqm Z Z<|qeW Z Z Z (w64 O O)<|Zqa Z Z<|Zn<|?_
    refine qaa (MidG.mk ⟨_,M3,_,Ml1,_,M2,es1,ck1,w1++[(xk:Int)],l1,r1++[(num,w1.length,xn,(xk:Int))]⟩ [] (h18.t h33|>.t h34|>.t h35|>.t h38|>.t h39) (.cons (by first | rfl | (simp only [List.length_append,List.length_cons,List.length_nil];refine congrArg some (congrArg (Value.int .i64) ?_);omega)) (.nil _)) So Pr (by first | exact ⟨qbv (qfa hg2 o2 (qeC hxk)) o3 (qeC hxk),qcu ew1 hsp hhas,rfl,qfc ew1 hsp hhas hnm,rfl⟩ | exact ⟨qbv hg2 o3 (qeC hxk),qcu ew1 hsp hhas,rfl,qcV hnm,rfl⟩ | exact ⟨hg2,qhR ew1 hsp hhas,rfl,qcT hhas,rfl⟩))
   have hnm:=c17
   refine Zk<|Zt<|Zs<|qaT qaf 13 Z 2 ?_
   intro s40 h40
   refine za 0 Z (qao Z) Z<|za 1 Z (qao Z) Z<|za 2 Z (qau Z) Z<|za 3 Z (We Y4) Z<|za 5 Z (We Y4) Z<|za 6 Z (qdh Z Z Z Z) Z<|za 7 Z (Wd 1 Y5) Z ?_
   refine qcg 4 8 V ?_ ?_
   ·
    refine qb1 Z Tt (Wd 2 Y5) Z<|qah 8 V<|qas Z Tt [(_,_)] [_] Z Z Z Z Z Z Z Z Z ?_
    intro βn s41 h41 hcb
    refine qah 9 V<|qbM (sz:=1) Z (by exact Tt) [_,_,_,_] Mw1 _ Z Z Z Z Z Z Z hOw1 (Row.of_cells (hcb.le (Lr D)) Z Z) ⟨by simp [ti38];omega,by omega⟩ Z (fun A2 x hx _=>qfj hx) ?_
    intro v3 M3 s42 h42 o3
    obtain ⟨Av3,cv3,rfl,kv3,kv32⟩:=Own.slice o3
    simp only [List.cons_append,List.nil_append,List.append_assoc]
    refine za 10 Z (qau Z) Z<|za 11 Z (We Y4) Z<|qah 12 V<|Wu Z Tt 2 [_,_,_,_,_,_] Y9 (sM (qew (sb0 _)))<|qac V<|Zt<|Zr<|Zqm Z Z<|qeW Z Z Z (w64 O O)<|Zqa Z Z<|Zn<|?_
    refine qaa (MidG.mk ⟨_,M3,_,Ml1,_,Mr1,es1,ck1,w1++[(xk:Int)],l1,r1⟩ [] (h40.t h41|>.t h42) (.cons (by first | rfl | (simp only [List.length_append,List.length_cons,List.length_nil];refine congrArg some (congrArg (Value.int .i64) ?_);omega)) (.nil _)) So Pr (by first | exact ⟨qbv (qfa hg2 o2 (qeC hxk)) o3 (qeC hxk),qcu ew1 hsp hhas,rfl,qfc ew1 hsp hhas hnm,rfl⟩ | exact ⟨qbv hg2 o3 (qeC hxk),qcu ew1 hsp hhas,rfl,qcV hnm,rfl⟩ | exact ⟨hg2,qhR ew1 hsp hhas,rfl,qcT hhas,rfl⟩))
   refine qas Z Tt [(_,_)] [_] Z Z Z Z Z Z Z Z Z ?_
   intro βn s43 h43 hcb
   refine qah 4 V<|qb1 Z Tt (Wd 2 Y5) Z<|qah 9 V<|qbM (sz:=1) Z (by exact Tt) [_,_,_,_] Mw1 _ Z Z Z Z Z Z Z hOw1 (Row.of_cells (hcb.le (Lr D)) Z Z) ⟨by simp [ti38];omega,by omega⟩ Z (fun A2 x hx _=>qfj hx) ?_
   intro v3 M3 s44 h44 o3
   obtain ⟨Av3,cv3,rfl,kv3,kv32⟩:=Own.slice o3
   simp only [List.cons_append,List.nil_append,List.append_assoc]
   refine za 10 Z (qau Z) Z<|za 11 Z (We Y4) Z<|qah 12 V<|Wu Z Tt 2 [_,_,_,_,_,_] Y9 (sM (qew (sb0 _)))<|qac V<|Zt<|Zr<|Zqm Z Z<|qeW Z Z Z (w64 O O)<|Zqa Z Z<|Zn<|?_
   refine qaa (MidG.mk ⟨_,M3,_,Ml1,_,Mr1,es1,ck1,w1++[(xk:Int)],l1,r1⟩ [] (h40.t h43|>.t h44) (.cons (by first | rfl | (simp only [List.length_append,List.length_cons,List.length_nil];refine congrArg some (congrArg (Value.int .i64) ?_);omega)) (.nil _)) So Pr (by first | exact ⟨qbv (qfa hg2 o2 (qeC hxk)) o3 (qeC hxk),qcu ew1 hsp hhas,rfl,qfc ew1 hsp hhas hnm,rfl⟩ | exact ⟨qbv hg2 o3 (qeC hxk),qcu ew1 hsp hhas,rfl,qcV hnm,rfl⟩ | exact ⟨hg2,qhR ew1 hsp hhas,rfl,qcT hhas,rfl⟩))
  have hhas:=c16
  refine Zk ?_
  refine qaa (MidG.mk ⟨_,Mw1,_,Ml1,_,Mr1,es1,ck1,w1,l1,r1⟩ [] (Lr D) (.cons (by first | rfl | (simp only [List.length_append,List.length_cons,List.length_nil];refine congrArg some (congrArg (Value.int .i64) ?_);omega)) (.nil _)) So Pr (by first | exact ⟨qbv (qfa hg2 o2 (qeC hxk)) o3 (qeC hxk),qcu ew1 hsp hhas,rfl,qfc ew1 hsp hhas hnm,rfl⟩ | exact ⟨qbv hg2 o3 (qeC hxk),qcu ew1 hsp hhas,rfl,qcV hnm,rfl⟩ | exact ⟨hg2,qhR ew1 hsp hhas,rfl,qcT hhas,rfl⟩))
 intro g s15 h15 I15
 simp only [cQ9,nQ9]
 obtain ⟨hg3,ew3,el3,er3,ee3⟩:=I15
 refine Zs<|Sr<|Zqm Z Z<|qbY Z Z Z<|Nt<|?_
 refine qab Z (fun c45=>?_) (fun c45=>?_)
 ·
  refine Sr<|At Z Z<|Zo<|Zu<|?_
  refine rR [_,_] _ (.t1 Z) Z (h1.t h2|>.t h3|>.t h8|>.t h15) fun _ hS2=>?_
  first
    | (refine ⟨(⟨.slice Aw w.length cw,Mw,.slice Al l.length cl,Ml,.slice Ar r.length cr,Mr,es,ck,w,l,r⟩:AG),rfl,14,rfl,.inl ⟨rfl,?_⟩⟩
       simp only [qbg (x:=⟨xl,xo,xh,xn,(xk:Int)⟩) hsp,List.length_append,List.length_replicate,Int.toNat_natCast];omega)
    | (refine ⟨⟨_,M1,_,Ml,_,Mr,es,ck,w++List.replicate xk 0,l,r⟩,rfl,0,rfl,.inr ⟨rfl,?_,qf2 hg0 o1,?_,rfl,rfl,?_⟩⟩
       · simp only [qbg (x:=⟨xl,xo,xh,xn,(xk:Int)⟩) hsp,List.length_append,List.length_replicate,Int.toNat_natCast];omega
       · simp only [qbg (x:=⟨xl,xo,xh,xn,(xk:Int)⟩) hsp,Int.toNat_natCast]
       · exact (qdZ (x:=⟨xl,xo,xh,xn,(xk:Int)⟩) hsp).symm)
    | (refine ⟨g,rfl,14,rfl,.inl ⟨rfl,?_⟩⟩
       rw [← ew3];omega)
    | (refine ⟨g,rfl,0,rfl,.inr ⟨rfl,?_,hg3,ew3,el3,ee3,er3⟩⟩
       rw [← ew3];omega)
 refine Zk<|Zt<|Sr<|At Z Z<|Zo<|?_
 refine rR [_,_] _ (.t1 Z) Z (h1.t h2|>.t h3|>.t h8|>.t h15) fun _ hS2=>?_
 first
   | (refine ⟨(⟨.slice Aw w.length cw,Mw,.slice Al l.length cl,Ml,.slice Ar r.length cr,Mr,es,ck,w,l,r⟩:AG),rfl,14,rfl,.inl ⟨rfl,?_⟩⟩
      simp only [qbg (x:=⟨xl,xo,xh,xn,(xk:Int)⟩) hsp,List.length_append,List.length_replicate,Int.toNat_natCast];omega)
   | (refine ⟨⟨_,M1,_,Ml,_,Mr,es,ck,w++List.replicate xk 0,l,r⟩,rfl,0,rfl,.inr ⟨rfl,?_,qf2 hg0 o1,?_,rfl,rfl,?_⟩⟩
      · simp only [qbg (x:=⟨xl,xo,xh,xn,(xk:Int)⟩) hsp,List.length_append,List.length_replicate,Int.toNat_natCast];omega
      · simp only [qbg (x:=⟨xl,xo,xh,xn,(xk:Int)⟩) hsp,Int.toNat_natCast]
      · exact (qdZ (x:=⟨xl,xo,xh,xn,(xk:Int)⟩) hsp).symm)
   | (refine ⟨g,rfl,14,rfl,.inl ⟨rfl,?_⟩⟩
      rw [← ew3];omega)
   | (refine ⟨g,rfl,0,rfl,.inr ⟨rfl,?_,hg3,ew3,el3,ee3,er3⟩⟩
      rw [← ew3];omega)
theorem qld:qja prog 76 .string (.int .u32 0):=⟨_,_,underlying76,underlying9,fun w=>by rw [qee qhb];rfl⟩
theorem qm4(D:Nat)(L:Hl)(s:World)(x0:Nat×Obj)(ba bm:Nat)(t:Tab)(A:Option Addr)(n c:Nat)(hA:Inss s A n c t.ins)(g:AG)(nm:List UInt8):AC prog D 72 [.pointer (some ⟨ba,0,none⟩),St nm] (x0::HA ba bm t.cells A n c g L) s fun v L' _=>L'=x0::HA ba bm t.cells A n c g L∧∃ (y:Ins) (Ay:Option Addr) (ny cy:Nat),v=.tuple #[.agg #[St y.name,.int .u32 y.code,.bool y.operand,.slice Ay ny cy],.bool (qbd t.ins nm).isSome]∧U32 y.code∧(∀ z,qbd t.ins nm=some z→y=z)∧(qbd t.ins nm=none→y.operand=false):=
 AC.perm (qij ..).symm (qnT D (x0::L) s ba bm t A n c hA g nm) fun v L1 s1 ⟨h1,h2⟩=>⟨_,by rw [h1];exact qij ..,rfl,h2⟩
theorem qn0(D:Nat)(L:Hl)(s:World)(x0 x1:Nat×Obj)(ba bm:Nat)(tc:Int)(A:Option Addr)(n c:Nat)(g:AG)(hg:AGok g)(num:Int)(xl xo:List UInt8)(xh:Bool)(xn:List UInt8)(xk:Nat)(hxk:xk < 4294967296)(yn:List UInt8)(yc:Int)(yo:Bool)(Ay:Option Addr)(ny cy:Nat)(hyc:U32 yc)(own:Bool)(htc:0≤tc∧tc≤65536)(hwl:(g.w.length:Int)≤tc)(hrl:g.r.length≤1000000):AC prog D 73 [.pointer (some ⟨ba,0,none⟩),.int .i64 num,.agg #[St xl,St xo,.bool xh,St xn,.int .u32 (xk:Int)],.agg #[St yn,.int .u32 yc,.bool yo,.slice Ay ny cy],.bool own] (x0::x1::HA ba bm tc A n c g L) s fun v L' _=>∃ g',L'=x0::x1::HA ba bm tc A n c g' L∧∃ e,v=.int .i64 e∧((e=14∧tc < ((qcy g.w ⟨xl,xo,xh,xn,(xk:Int)⟩ yc own).length:Int))∨(e=0∧((qcy g.w ⟨xl,xo,xh,xn,(xk:Int)⟩ yc own).length:Int)≤tc∧AGok g'∧g'.w=qcy g.w ⟨xl,xo,xh,xn,(xk:Int)⟩ yc own∧g'.l=g.l∧g'.es=g.es∧g'.r=qdJ g.r g.w num ⟨xl,xo,xh,xn,(xk:Int)⟩ yc own)):=
 AC.perm (qk8 ..).symm (qp8 D (x0::x1::L) s ba bm tc A n c g hg num xl xo xh xn xk hxk yn yc yo Ay ny cy hyc own htc hwl hrl) fun v L1 s1 ⟨g',h1,h2⟩=>⟨_,by rw [h1];exact qk8 ..,g',rfl,h2⟩
theorem qaV{l:List (List UInt8×Int)}{x:Ln}(h:¬ x.label=[]→qbQ l x.label=none):¬ (x.label≠[]∧(qbQ l x.label).isSome=true):=fun hh=>by rw [h hh.1] at hh;cases hh.2
theorem qdB{t:Tab}{xo:List UInt8}{y:Ins}(h1:∀ z,qbd t.ins xo=some z→y=z)(h2:qbd t.ins xo=none→y.operand=false):qiE t xo=y.operand:=by
 unfold qiE
 cases h:qbd t.ins xo with
 | none=>exact (h2 h).symm
 | some z=>rw [h1 z h]
theorem qeH{t:Tab}{w:List Int}{r:List (Int×Nat×List UInt8×Int)}{i:Int}{x:Ln}{y:Ins}(h1:∀ z,qbd t.ins x.op=some z→y=z)(h2:¬ ((qbd t.ins x.op).isSome=false∧¬ (x.op=[119,111,114,100]∨x.op=[115,112,97,99,101])))(h3:¬ x.op=[]) :
  qcy w x y.code (decide (x.op=[119,111,114,100]∨x.op=[115,112,97,99,101]))=qdT t w x∧qdJ r w i x y.code (decide (x.op=[119,111,114,100]∨x.op=[115,112,97,99,101]))=qg2 t w r i x:=by
 unfold qdT qg2 qcc
 rw [if_neg h3,if_neg h3]
 cases h:qbd t.ins x.op with
 | some z=>
  have hc:qd4 t x.op=y.code:=by unfold qd4;rw [h,h1 z h]
  rw [hc];exact ⟨rfl,rfl⟩
 | none=>
  rw [h] at h2
  have ho:x.op=[119,111,114,100]∨x.op=[115,112,97,99,101]:=by
   by_cases ho:x.op=[119,111,114,100]∨x.op=[115,112,97,99,101]
   · exact ho
   · exact absurd ⟨rfl,ho⟩ h2
  rw [decide_eq_true ho]
  exact ⟨qlw ..,qle ..⟩
theorem qoV{x a:Nat×Obj}{R R':Hl}(hx:x∈(a::R).take 1):x∈a::R':=by
 simp only [List.take_succ_cons,List.take_zero,List.mem_cons,List.not_mem_nil,or_false] at hx
 rw [hx];exact List.mem_cons_self ..
theorem qjJ{g:AG}{vl:Value}{M:Hl}{k:List UInt8}{a:Int}{ck:Nat}(hg:AGok g)(o:FL.Own 60 2 M vl (g.l.length+1) (lbv g.l++[St k,.int .u32 a]))(ha:U32 a)(hk:qbQ g.l k=none):AGok ⟨g.vw,g.Mw,vl,M,g.vr,g.Mr,qh2 g.es k (.int .u32 a) g.ck,ck,g.w,g.l++[(k,a)],g.r⟩:=
 ⟨hg.hw,by simp only [List.length_append,List.length_cons,List.length_nil,qoi];exact o,hg.hr,fun j=>by
  simp only [qgI,qkA _ _ _ _ hk,hg.he j];split <;> rfl,hg.uw,fun y hy=>by
  rcases List.mem_append.1 hy with h | h
  · exact hg.ul y h
  · rw [List.mem_singleton.1 h];exact ha,hg.ur⟩
theorem qpZ(D:Nat)(L:Hl)(s:World)(hG:GW s)(ba bm:Nat)(t:Tab)(A:Option Addr)(n c:Nat)(hA:Inss s A n c t.ins)(g:AG)(hg:AGok g)(num:Int)(tx:List UInt8)(htx:tx.length≤400000)(htc:0≤t.cells∧t.cells≤65536)(hwl:(g.w.length:Int)≤t.cells)(hrl:g.r.length≤1000000)(hll:g.l.length≤1000000):AC prog D 53 [.pointer (some ⟨ba,0,none⟩),.int .i64 num,St tx] (HA ba bm t.cells A n c g L) s fun v L' _=>∃ g',L'=HA ba bm t.cells A n c g' L∧v=.int .i64 (qbN t g.w g.l (qa6 tx))∧∀ x,qa6 tx=some x→qbN t g.w g.l (some x)=0→AGok g'∧g'.w=qdT t g.w x∧g'.l=qmY g.w g.l x∧g'.r=qg2 t g.w g.r num x:=by
 have hg0:=hg
 obtain ⟨vw,Mw,vl,Ml,vr,Mr,es,ck,w,l,r⟩:=g
 obtain ⟨hOw,hOl,hOr,hE,huw,hul,hur⟩:=hg
 simp only at hOw hOl hOr hE huw hul hur
 obtain ⟨Aw,cw,rfl,kw,kx⟩:=Own.slice hOw
 obtain ⟨Al,cl,rfl,kl,km⟩:=Own.slice hOl
 obtain ⟨Ar,cr,rfl,kr,ks⟩:=Own.slice hOr
 simp only [HA]
 simp only at hwl hrl hll
 refine qai (fn:=f53) qaG func53 V Z ntmps53 Z (rs:=[.tmp 6]) Z [(0,_),(1,_),(2,_)] Z<|Sr<|At Z Z<|Sr<|Zqm Z Z<|Jc Z Z Z (qjh D _ _ (hG.le (Lr D)) tx htx) ?_
 rintro _ _ s1 h1 ⟨rfl,⟨xl,xo,xh,xn,xk⟩,rfl,hxu,hxe⟩
 simp only at hxu
 obtain ⟨xk,rfl⟩:=Int.eq_ofNat_of_zero_le hxu.1
 have hxk:xk < 4294967296:=by have:=hxu.2;omega
 simp only [Ln.cs]
 refine Zqm Z Z<|Zqx Z Z Z<|Zqx Z Z Z<|qag Z [_,_,_,_,_] Z Z ?_
 intro β2 s2 h2
 refine Wt 0 [_,_,_,_,_] Y9<|At Z Z<|Zs<|Sr<|Zqm Z Z<|qcQ Z Z<|Nt<|?_
 refine qbU Z (fun c3=>?_) (fun c3=>?_)
 ·
  have hno:qa6 tx=none:=by simpa using c3
  refine Sr<|At Z Z<|Zo<|Zu<|?_
  refine rR [_] _ (.t1 Z) Z (h1.t h2) fun _ hS2=>?_
  first
    | (refine ⟨(⟨.slice Aw w.length cw,Mw,.slice Al l.length cl,Ml,.slice Ar r.length cr,Mr,es,ck,w,l,r⟩:AG),rfl,?_,fun x hx=>?_⟩
       · rw [hno];rfl
       · rw [hno] at hx;cases hx)
    | (refine ⟨(⟨.slice Aw w.length cw,Mw,.slice Al l.length cl,Ml,.slice Ar r.length cr,Mr,es,ck,w,l,r⟩:AG),rfl,?_,fun x hx he=>?_⟩
       · rw [hy,qbN,if_pos ⟨hxl,hrep⟩];rfl
       · rw [hy] at hx;injection hx with hx;subst hx;rw [qbN,if_pos ⟨hxl,hrep⟩] at he;cases he)
    | (have hE8:=qaV (l:=l) (x:=⟨xl,xo,xh,xn,(xk:Int)⟩) hnew
       refine ⟨g,Z,?_,fun x hx he=>?_⟩
       · rw [hy,qbN,if_neg hE8,if_pos hxo];rfl
       · rw [hy] at hx;injection hx with hx;subst hx
         refine ⟨hg1,?_,?_,?_⟩
         · rw [ew1,qdT,if_pos hxo]
         · rw [el1]
         · rw [er1,qg2,if_pos hxo])
    | (have hE8:=qaV (l:=l) (x:=⟨xl,xo,xh,xn,(xk:Int)⟩) hnew
       have hEE:qbN t w l (some ⟨xl,xo,xh,xn,(xk:Int)⟩)=12:=qeO hE8 hxo h83
       refine ⟨g,Z,?_,fun x hx he=>?_⟩
       · rw [hy,hEE];rfl
       · rw [hy] at hx;injection hx with hx;subst hx;rw [hEE] at he;cases he)
    | (have hE8:=qaV (l:=l) (x:=⟨xl,xo,xh,xn,(xk:Int)⟩) hnew
       have hoo:=qdB (t:=t) hye hyn
       have hEE:qbN t w l (some ⟨xl,xo,xh,xn,(xk:Int)⟩)=9:=qgc hE8 hxo h83 hoo h90
       refine ⟨g,Z,?_,fun x hx he=>?_⟩
       · rw [hy,hEE];rfl
       · rw [hy] at hx;injection hx with hx;subst hx;rw [hEE] at he;cases he)
    | (have hE8:=qaV (l:=l) (x:=⟨xl,xo,xh,xn,(xk:Int)⟩) hnew
       have hoo:=qdB (t:=t) hye hyn
       have hEE:qbN t w l (some ⟨xl,xo,xh,xn,(xk:Int)⟩)=6:=qgq hE8 hxo h83 hoo h90 h99
       refine ⟨g,Z,?_,fun x hx he=>?_⟩
       · rw [hy,hEE];rfl
       · rw [hy] at hx;injection hx with hx;subst hx;rw [hEE] at he;cases he)
    | (have hE8:=qaV (l:=l) (x:=⟨xl,xo,xh,xn,(xk:Int)⟩) hnew
       have hoo:=qdB (t:=t) hye hyn
       have hcc:=qeH (t:=t) (w:=w) (r:=r) (i:=num) (x:=⟨xl,xo,xh,xn,(xk:Int)⟩) hye h83 hxo
       have hEE:qbN t w l (some ⟨xl,xo,xh,xn,(xk:Int)⟩)=if t.cells < ((qdT t w ⟨xl,xo,xh,xn,(xk:Int)⟩).length:Int) then 14 else 0:=qgi hE8 hxo h83 hoo h90 h99
       rw [ew1,er1,hcc.1] at hem
       rw [hcc.2] at hem
       refine ⟨g',Z,?_,fun x hx he=>?_⟩
       · rw [hy,hEE]
         rcases hem with ⟨rfl,h14⟩ | ⟨rfl,h0,_⟩
         · rw [if_pos h14];rfl
         · rw [if_neg O];rfl
       · rw [hy] at hx;injection hx with hx;subst hx;rw [hEE] at he
         rcases hem with ⟨rfl,h14⟩ | ⟨rfl,h0,q1,q2,q3,_,q5⟩
         · rw [if_pos h14] at he;cases he
         · exact ⟨q1,q2,by rw [q3,el1],q5⟩)
 obtain ⟨y,hy⟩:=Option.isSome_iff_exists.1 c3
 have hln:=hxe y hy
 subst hln
 refine Zk<|Zt<|?_
 refine qi8 (γ:=AG) (fun _=>[]) [_] Z (fun g=>HA ba bm t.cells A n c g L) (fun g tw=>AGok g∧g.w=w∧g.r=r∧g.l=qmY w l ⟨xl,xo,xh,xn,(xk:Int)⟩∧(¬ xl=[]→qbQ l xl=none)) (fun _ _ _ h hl=>h) ?_ ?_
 ·
  refine Sr<|W0 Y5<|Wl 0 Y6<|qqe Z Z Z<|Nt<|?_
  refine qbc Z (fun c5=>?_) (fun c5=>?_)
  ·
   have hxl:=c5
   refine Zs<|Zs<|qbH qaf 12 Z _ (fun _ h=>h) ?_
   intro s6 h6
   refine za 0 Z (qao Z) Z<|za 1 Z (qau Z) Z<|za 2 Z (We Y4) Z<|za 3 Z (Wd 1 Y5) Z<|za 4 Z (qaw Z Z Z Z) Z<|za 5 Z (Wd 0 Y5) Z<|za 6 Z (qav (qgS KeyK.str 2 qld Z Z Z) (show Value.tuple #[(qb4 es xl).getD (.int .u32 0),.bool (qb4 es xl).isSome]=.tuple #[(qb4 es xl).getD (.int .u32 0),.bool (qbQ l xl).isSome] by rw [hE xl,Option.isSome_map])) Z<|za 7 Z (qao Z) Z<|za 8 Z (qiw Z Z) Z<|za 9 Z (qiw Z Z) Z<|za 10 Z (qcq Z) Z<|za 11 Z (qcq Z) Z<|qac V ?_
   refine Zt<|Sr<|Zqm Z Z<|Nt<|?_
   refine qcW Z (fun c7=>?_) (fun c7=>?_)
   ·
    have hrep:=c7
    refine Sr<|At Z Z<|Zo<|Zu<|Zu<|?_
    refine rR [_] _ (.t1 Z) Z (h1.t h2|>.t h6) fun _ hS2=>?_
    first
      | (refine ⟨(⟨.slice Aw w.length cw,Mw,.slice Al l.length cl,Ml,.slice Ar r.length cr,Mr,es,ck,w,l,r⟩:AG),rfl,?_,fun x hx=>?_⟩
         · rw [hno];rfl
         · rw [hno] at hx;cases hx)
      | (refine ⟨(⟨.slice Aw w.length cw,Mw,.slice Al l.length cl,Ml,.slice Ar r.length cr,Mr,es,ck,w,l,r⟩:AG),rfl,?_,fun x hx he=>?_⟩
         · rw [hy,qbN,if_pos ⟨hxl,hrep⟩];rfl
         · rw [hy] at hx;injection hx with hx;subst hx;rw [qbN,if_pos ⟨hxl,hrep⟩] at he;cases he)
      | (have hE8:=qaV (l:=l) (x:=⟨xl,xo,xh,xn,(xk:Int)⟩) hnew
         refine ⟨g,Z,?_,fun x hx he=>?_⟩
         · rw [hy,qbN,if_neg hE8,if_pos hxo];rfl
         · rw [hy] at hx;injection hx with hx;subst hx
           refine ⟨hg1,?_,?_,?_⟩
           · rw [ew1,qdT,if_pos hxo]
           · rw [el1]
           · rw [er1,qg2,if_pos hxo])
      | (have hE8:=qaV (l:=l) (x:=⟨xl,xo,xh,xn,(xk:Int)⟩) hnew
         have hEE:qbN t w l (some ⟨xl,xo,xh,xn,(xk:Int)⟩)=12:=qeO hE8 hxo h83
         refine ⟨g,Z,?_,fun x hx he=>?_⟩
         · rw [hy,hEE];rfl
         · rw [hy] at hx;injection hx with hx;subst hx;rw [hEE] at he;cases he)
      | (have hE8:=qaV (l:=l) (x:=⟨xl,xo,xh,xn,(xk:Int)⟩) hnew
         have hoo:=qdB (t:=t) hye hyn
         have hEE:qbN t w l (some ⟨xl,xo,xh,xn,(xk:Int)⟩)=9:=qgc hE8 hxo h83 hoo h90
         refine ⟨g,Z,?_,fun x hx he=>?_⟩
         · rw [hy,hEE];rfl
         · rw [hy] at hx;injection hx with hx;subst hx;rw [hEE] at he;cases he)
      | (have hE8:=qaV (l:=l) (x:=⟨xl,xo,xh,xn,(xk:Int)⟩) hnew
         have hoo:=qdB (t:=t) hye hyn
         have hEE:qbN t w l (some ⟨xl,xo,xh,xn,(xk:Int)⟩)=6:=qgq hE8 hxo h83 hoo h90 h99
         refine ⟨g,Z,?_,fun x hx he=>?_⟩
         · rw [hy,hEE];rfl
         · rw [hy] at hx;injection hx with hx;subst hx;rw [hEE] at he;cases he)
      | (have hE8:=qaV (l:=l) (x:=⟨xl,xo,xh,xn,(xk:Int)⟩) hnew
         have hoo:=qdB (t:=t) hye hyn
         have hcc:=qeH (t:=t) (w:=w) (r:=r) (i:=num) (x:=⟨xl,xo,xh,xn,(xk:Int)⟩) hye h83 hxo
         have hEE:qbN t w l (some ⟨xl,xo,xh,xn,(xk:Int)⟩)=if t.cells < ((qdT t w ⟨xl,xo,xh,xn,(xk:Int)⟩).length:Int) then 14 else 0:=qgi hE8 hxo h83 hoo h90 h99
         rw [ew1,er1,hcc.1] at hem
         rw [hcc.2] at hem
         refine ⟨g',Z,?_,fun x hx he=>?_⟩
         · rw [hy,hEE]
           rcases hem with ⟨rfl,h14⟩ | ⟨rfl,h0,_⟩
           · rw [if_pos h14];rfl
           · rw [if_neg O];rfl
         · rw [hy] at hx;injection hx with hx;subst hx;rw [hEE] at he
           rcases hem with ⟨rfl,h14⟩ | ⟨rfl,h0,q1,q2,q3,_,q5⟩
           · rw [if_pos h14] at he;cases he
           · exact ⟨q1,q2,by rw [q3,el1],q5⟩)
   have hrep:qbQ l xl=none:=by simpa using c7
   refine Zk<|Zt<|Zs<|qaD qaf 13 Z [2] (by intro x hx;exact qan hx) ?_
   intro s8 h8
   refine za 0 Z (qao Z) Z<|za 1 Z (qau Z) Z<|za 2 Z (We Y4) Z<|za 3 Z (Wd 1 Y5) Z<|za 4 Z (qaw Z Z Z Z) Z<|za 5 Z (Wd 0 Y5) Z<|za 6 Z (qao Z) Z<|za 7 Z (qau Z) Z<|za 8 Z (We Y4) Z<|za 9 Z (Wd 1 Y5) Z<|za 10 Z (qdw Z Z Z) Z<|za 11 Z (qaH Z Z Z Z Z (qcz O)) Z<|qah 12 V<|qlU KeyK.str Z Tt 2 qld Z Z Z Z (fun x hx=>hx) ?_
   intro ck1
   simp only [qhN]
   refine qac V<|Zt<|qaT qaf 19 Z 1 ?_
   intro s10 h10
   refine za 0 Z (qao Z) Z<|za 1 Z (qao Z) Z<|za 2 Z (qau Z) Z<|za 3 Z (We Y4) Z<|za 5 Z (qaw Z Z Z Z) Z<|za 6 Z (Wd 0 Y5) Z<|za 7 Z (qao Z) Z<|za 8 Z (qau Z) Z<|za 9 Z (We Y4) Z ?_
   refine qcg 4 10 V ?_ ?_
   ·
    refine qb1 Z Tt (Wd 1 Y5) Z<|qah 10 V<|qb1 Z Tt (Wd 1 Y5) Z<|za 11 Z (qdw Z Z Z) Z<|za 12 Z (qaH Z Z Z Z Z (qcz O)) Z<|za 13 Z (qal [(_,_),(_,_)] [_,_] Z Z Z Z Z Z) Z<|qah 14 V<|qas Z Tt [(_,_)] [_,_] Z Z Z Z Z Z Z Z Z ?_
    intro βn s11 h11 hcb
    refine qah 15 V<|qbM (sz:=2) Z (by exact Tt) (_::_::_::Mw) Ml _ Z Z Z Z Z Z Z hOl (Row.of_cells (hcb.le (Lr D)) Z Z) ⟨by simp [ti60];omega,by omega⟩ Z (fun A2 x hx _=>qoV hx) ?_
    intro v1 M1 s12 h12 o1
    obtain ⟨Av1,cv1,rfl,kv1,kv12⟩:=Own.slice o1
    simp only [List.cons_append,List.nil_append,List.append_assoc]
    refine za 16 Z (qau Z) Z<|za 17 Z (We Y4) Z<|qah 18 V<|Wu Z Tt 1 [_,_,_,_,_,_] Y9 (sM (sbY (sb0 _)))<|qac V ?_
    refine qaa (MidG.mk ⟨_,Mw,_,M1,_,Mr,qh2 es xl (.int .u32 (w.length:Int)) ck,ck1,w,l++[(xl,(w.length:Int))],r⟩ [] (h6.t h8|>.t h10|>.t h11|>.t h12) (.nil _) So Pr (by first | exact ⟨qjJ (ck:=ck1) hg0 o1 (qeC O) hrep,Z,Z,(if_neg hxl).symm,fun _=>hrep⟩ | exact ⟨hg0,Z,Z,(if_pos hxl).symm,fun h=>absurd hxl h⟩))
   refine qb1 Z Tt (Wd 1 Y5) Z<|za 11 Z (qdw Z Z Z) Z<|za 12 Z (qaH Z Z Z Z Z (qcz O)) Z<|za 13 Z (qal [(_,_),(_,_)] [_,_] Z Z Z Z Z Z) Z ?_
   refine qcg 4 14 V ?_ ?_
   ·
    refine qb1 Z Tt (Wd 1 Y5) Z<|qah 14 V<|qas Z Tt [(_,_)] [_,_] Z Z Z Z Z Z Z Z Z ?_
    intro βn s13 h13 hcb
    refine qah 15 V<|qbM (sz:=2) Z (by exact Tt) (_::_::_::Mw) Ml _ Z Z Z Z Z Z Z hOl (Row.of_cells (hcb.le (Lr D)) Z Z) ⟨by simp [ti60];omega,by omega⟩ Z (fun A2 x hx _=>qoV hx) ?_
    intro v1 M1 s14 h14 o1
    obtain ⟨Av1,cv1,rfl,kv1,kv12⟩:=Own.slice o1
    simp only [List.cons_append,List.nil_append,List.append_assoc]
    refine za 16 Z (qau Z) Z<|za 17 Z (We Y4) Z<|qah 18 V<|Wu Z Tt 1 [_,_,_,_,_,_] Y9 (sM (sbY (sb0 _)))<|qac V ?_
    refine qaa (MidG.mk ⟨_,Mw,_,M1,_,Mr,qh2 es xl (.int .u32 (w.length:Int)) ck,ck1,w,l++[(xl,(w.length:Int))],r⟩ [] (h6.t h8|>.t h10|>.t h13|>.t h14) (.nil _) So Pr (by first | exact ⟨qjJ (ck:=ck1) hg0 o1 (qeC O) hrep,Z,Z,(if_neg hxl).symm,fun _=>hrep⟩ | exact ⟨hg0,Z,Z,(if_pos hxl).symm,fun h=>absurd hxl h⟩))
   refine qas Z Tt [(_,_)] [_,_] Z Z Z Z Z Z Z Z Z ?_
   intro βn s15 h15 hcb
   refine qah 4 V<|qb1 Z Tt (Wd 1 Y5) Z<|qah 15 V<|qbM (sz:=2) Z (by exact Tt) (_::_::_::Mw) Ml _ Z Z Z Z Z Z Z hOl (Row.of_cells (hcb.le (Lr D)) Z Z) ⟨by simp [ti60];omega,by omega⟩ Z (fun A2 x hx _=>qoV hx) ?_
   intro v1 M1 s16 h16 o1
   obtain ⟨Av1,cv1,rfl,kv1,kv12⟩:=Own.slice o1
   simp only [List.cons_append,List.nil_append,List.append_assoc]
   refine za 16 Z (qau Z) Z<|za 17 Z (We Y4) Z<|qah 18 V<|Wu Z Tt 1 [_,_,_,_,_,_] Y9 (sM (sbY (sb0 _)))<|qac V ?_
   refine qaa (MidG.mk ⟨_,Mw,_,M1,_,Mr,qh2 es xl (.int .u32 (w.length:Int)) ck,ck1,w,l++[(xl,(w.length:Int))],r⟩ [] (h6.t h8|>.t h10|>.t h15|>.t h16) (.nil _) So Pr (by first | exact ⟨qjJ (ck:=ck1) hg0 o1 (qeC O) hrep,Z,Z,(if_neg hxl).symm,fun _=>hrep⟩ | exact ⟨hg0,Z,Z,(if_pos hxl).symm,fun h=>absurd hxl h⟩))
  have hxl:=c5
  refine Zk ?_
  refine qaa (MidG.mk ⟨_,Mw,_,Ml,_,Mr,es,ck,w,l,r⟩ [] (Lr D) (.nil _) So Pr (by first | exact ⟨qjJ (ck:=ck1) hg0 o1 (qeC O) hrep,Z,Z,(if_neg hxl).symm,fun _=>hrep⟩ | exact ⟨hg0,Z,Z,(if_pos hxl).symm,fun h=>absurd hxl h⟩))
 intro g s4 h4 I4
 simp only [cQ9,nQ9]
 obtain ⟨hg1,ew1,er1,el1,hnew⟩:=I4
 refine Zs<|Sr<|Wb Y5<|Wl 0 Y6<|qjv Z Z Z<|Nt<|?_
 refine qab Z (fun c17=>?_) (fun c17=>?_)
 ·
  have hxo:=c17
  refine Sr<|At Z Z<|Zo<|Zu<|?_
  refine rR [_] _ (.t1 Z) Z (h1.t h2|>.t h4) fun _ hS2=>?_
  first
    | (refine ⟨(⟨.slice Aw w.length cw,Mw,.slice Al l.length cl,Ml,.slice Ar r.length cr,Mr,es,ck,w,l,r⟩:AG),rfl,?_,fun x hx=>?_⟩
       · rw [hno];rfl
       · rw [hno] at hx;cases hx)
    | (refine ⟨(⟨.slice Aw w.length cw,Mw,.slice Al l.length cl,Ml,.slice Ar r.length cr,Mr,es,ck,w,l,r⟩:AG),rfl,?_,fun x hx he=>?_⟩
       · rw [hy,qbN,if_pos ⟨hxl,hrep⟩];rfl
       · rw [hy] at hx;injection hx with hx;subst hx;rw [qbN,if_pos ⟨hxl,hrep⟩] at he;cases he)
    | (have hE8:=qaV (l:=l) (x:=⟨xl,xo,xh,xn,(xk:Int)⟩) hnew
       refine ⟨g,Z,?_,fun x hx he=>?_⟩
       · rw [hy,qbN,if_neg hE8,if_pos hxo];rfl
       · rw [hy] at hx;injection hx with hx;subst hx
         refine ⟨hg1,?_,?_,?_⟩
         · rw [ew1,qdT,if_pos hxo]
         · rw [el1]
         · rw [er1,qg2,if_pos hxo])
    | (have hE8:=qaV (l:=l) (x:=⟨xl,xo,xh,xn,(xk:Int)⟩) hnew
       have hEE:qbN t w l (some ⟨xl,xo,xh,xn,(xk:Int)⟩)=12:=qeO hE8 hxo h83
       refine ⟨g,Z,?_,fun x hx he=>?_⟩
       · rw [hy,hEE];rfl
       · rw [hy] at hx;injection hx with hx;subst hx;rw [hEE] at he;cases he)
    | (have hE8:=qaV (l:=l) (x:=⟨xl,xo,xh,xn,(xk:Int)⟩) hnew
       have hoo:=qdB (t:=t) hye hyn
       have hEE:qbN t w l (some ⟨xl,xo,xh,xn,(xk:Int)⟩)=9:=qgc hE8 hxo h83 hoo h90
       refine ⟨g,Z,?_,fun x hx he=>?_⟩
       · rw [hy,hEE];rfl
       · rw [hy] at hx;injection hx with hx;subst hx;rw [hEE] at he;cases he)
    | (have hE8:=qaV (l:=l) (x:=⟨xl,xo,xh,xn,(xk:Int)⟩) hnew
       have hoo:=qdB (t:=t) hye hyn
       have hEE:qbN t w l (some ⟨xl,xo,xh,xn,(xk:Int)⟩)=6:=qgq hE8 hxo h83 hoo h90 h99
       refine ⟨g,Z,?_,fun x hx he=>?_⟩
       · rw [hy,hEE];rfl
       · rw [hy] at hx;injection hx with hx;subst hx;rw [hEE] at he;cases he)
    | (have hE8:=qaV (l:=l) (x:=⟨xl,xo,xh,xn,(xk:Int)⟩) hnew
       have hoo:=qdB (t:=t) hye hyn
       have hcc:=qeH (t:=t) (w:=w) (r:=r) (i:=num) (x:=⟨xl,xo,xh,xn,(xk:Int)⟩) hye h83 hxo
       have hEE:qbN t w l (some ⟨xl,xo,xh,xn,(xk:Int)⟩)=if t.cells < ((qdT t w ⟨xl,xo,xh,xn,(xk:Int)⟩).length:Int) then 14 else 0:=qgi hE8 hxo h83 hoo h90 h99
       rw [ew1,er1,hcc.1] at hem
       rw [hcc.2] at hem
       refine ⟨g',Z,?_,fun x hx he=>?_⟩
       · rw [hy,hEE]
         rcases hem with ⟨rfl,h14⟩ | ⟨rfl,h0,_⟩
         · rw [if_pos h14];rfl
         · rw [if_neg O];rfl
       · rw [hy] at hx;injection hx with hx;subst hx;rw [hEE] at he
         rcases hem with ⟨rfl,h14⟩ | ⟨rfl,h0,q1,q2,q3,_,q5⟩
         · rw [if_pos h14] at he;cases he
         · exact ⟨q1,q2,by rw [q3,el1],q5⟩)
 have hxo:=c17
 refine Zk<|Zt<|?_
 refine qbV 11 ((xo=[119,111,114,100]∨xo=[115,112,97,99,101])) ?_ ?_
 ·
  refine Zr<|Wb Y5<|Wl 0 Y6<|qjv Z Z Z<|Zqm Z Z<|?_
  refine qam (t:=71) Z (fun c19=>?_) (fun c19=>?_)
  ·
   refine Wf Y4<|Wf Y4<|Wf Y4<|ZqT Z Z Z<|Zqa Z Z<|Zn<|?_
   refine qaa (MidB.mk (Lr D) Sb Z ((decide_eq_true (by first | exact .inl As | exact .inr As)).symm))
  refine Zg Z Z<|Wb Y5<|Zg Z Z<|Wl 0 Y6<|Zg Z Z<|qjv Z Z Z<|ZqF Z Z Z<|Zqa Z Z<|Zn<|?_
  refine qaa (MidB.mk (Lr D) Sb Z (decide_eq_decide.2 (⟨fun h=>.inr h,fun h=>h.resolve_left As⟩)))
 intro s18 h18
 refine Sr<|Zqm Z Z<|Wb Y5<|Wl 0 Y6<|Jc Z Z Z (qm4 D L _ _ ba bm t A n c (hA.le (h1.t h2|>.t h4|>.t h18)) g xo) ?_
 rintro _ _ s20 h20 ⟨rfl,⟨yn,yc,yo,ya⟩,Ay,ny,cy,rfl,hyu,hye,hyn⟩
 refine Zqm Z Z<|Zqx Z Z Z<|Zqx Z Z Z<|qag Z [_,_,_,_] Z Z ?_
 intro β21 s21 h21
 refine Wt 0 [_,_,_,_] Y9<|At Z Z<|Zs<|Zp<|?_
 refine qbV 83 ((qbd t.ins xo).isSome=false∧¬ (xo=[119,111,114,100]∨xo=[115,112,97,99,101])) ?_ ?_
 ·
  refine Zr<|Zqm Z Z<|qcQ Z Z<|Zqm Z Z<|?_
  refine qej (t:=86) Z (fun c23=>?_) (fun c23=>?_)
  ·
   refine Zg Z Z<|Zqm Z Z<|Zg Z Z<|qcQ Z Z<|ZqT Z Z Z<|Zqa Z Z<|Zn<|?_
   refine qaa (MidB.mk (Lr D) Sb Z (qhO ((by first | exact fun h=>absurd h.1 (by rw [show (qbd t.ins xo).isSome=true by assumption];decide) | exact ⟨fun h=>h.2,fun h=>⟨by assumption,h⟩⟩))))
  refine Wf Y4<|Wf Y4<|ZqF Z Z Z<|Zqa Z Z<|Zn<|?_
  refine qaa (MidB.mk (Lr D) Sb Z ((decide_eq_false ((by first | exact fun h=>absurd h.1 (by rw [show (qbd t.ins xo).isSome=true by assumption];decide) | exact ⟨fun h=>h.2,fun h=>⟨by assumption,h⟩⟩))).symm))
 intro s22 h22
 refine qab Z (fun c24=>?_) (fun c24=>?_)
 ·
  have h83:=c24
  refine Sr<|At Z Z<|Zo<|Zc<|Zu<|?_
  refine rR [_,_] _ (.t1 Z) Z (h1.t h2|>.t h4|>.t h18|>.t h20|>.t h21|>.t h22) fun _ hS2=>?_
  first
    | (refine ⟨(⟨.slice Aw w.length cw,Mw,.slice Al l.length cl,Ml,.slice Ar r.length cr,Mr,es,ck,w,l,r⟩:AG),rfl,?_,fun x hx=>?_⟩
       · rw [hno];rfl
       · rw [hno] at hx;cases hx)
    | (refine ⟨(⟨.slice Aw w.length cw,Mw,.slice Al l.length cl,Ml,.slice Ar r.length cr,Mr,es,ck,w,l,r⟩:AG),rfl,?_,fun x hx he=>?_⟩
       · rw [hy,qbN,if_pos ⟨hxl,hrep⟩];rfl
       · rw [hy] at hx;injection hx with hx;subst hx;rw [qbN,if_pos ⟨hxl,hrep⟩] at he;cases he)
    | (have hE8:=qaV (l:=l) (x:=⟨xl,xo,xh,xn,(xk:Int)⟩) hnew
       refine ⟨g,Z,?_,fun x hx he=>?_⟩
       · rw [hy,qbN,if_neg hE8,if_pos hxo];rfl
       · rw [hy] at hx;injection hx with hx;subst hx
         refine ⟨hg1,?_,?_,?_⟩
         · rw [ew1,qdT,if_pos hxo]
         · rw [el1]
         · rw [er1,qg2,if_pos hxo])
    | (have hE8:=qaV (l:=l) (x:=⟨xl,xo,xh,xn,(xk:Int)⟩) hnew
       have hEE:qbN t w l (some ⟨xl,xo,xh,xn,(xk:Int)⟩)=12:=qeO hE8 hxo h83
       refine ⟨g,Z,?_,fun x hx he=>?_⟩
       · rw [hy,hEE];rfl
       · rw [hy] at hx;injection hx with hx;subst hx;rw [hEE] at he;cases he)
    | (have hE8:=qaV (l:=l) (x:=⟨xl,xo,xh,xn,(xk:Int)⟩) hnew
       have hoo:=qdB (t:=t) hye hyn
       have hEE:qbN t w l (some ⟨xl,xo,xh,xn,(xk:Int)⟩)=9:=qgc hE8 hxo h83 hoo h90
       refine ⟨g,Z,?_,fun x hx he=>?_⟩
       · rw [hy,hEE];rfl
       · rw [hy] at hx;injection hx with hx;subst hx;rw [hEE] at he;cases he)
    | (have hE8:=qaV (l:=l) (x:=⟨xl,xo,xh,xn,(xk:Int)⟩) hnew
       have hoo:=qdB (t:=t) hye hyn
       have hEE:qbN t w l (some ⟨xl,xo,xh,xn,(xk:Int)⟩)=6:=qgq hE8 hxo h83 hoo h90 h99
       refine ⟨g,Z,?_,fun x hx he=>?_⟩
       · rw [hy,hEE];rfl
       · rw [hy] at hx;injection hx with hx;subst hx;rw [hEE] at he;cases he)
    | (have hE8:=qaV (l:=l) (x:=⟨xl,xo,xh,xn,(xk:Int)⟩) hnew
       have hoo:=qdB (t:=t) hye hyn
       have hcc:=qeH (t:=t) (w:=w) (r:=r) (i:=num) (x:=⟨xl,xo,xh,xn,(xk:Int)⟩) hye h83 hxo
       have hEE:qbN t w l (some ⟨xl,xo,xh,xn,(xk:Int)⟩)=if t.cells < ((qdT t w ⟨xl,xo,xh,xn,(xk:Int)⟩).length:Int) then 14 else 0:=qgi hE8 hxo h83 hoo h90 h99
       rw [ew1,er1,hcc.1] at hem
       rw [hcc.2] at hem
       refine ⟨g',Z,?_,fun x hx he=>?_⟩
       · rw [hy,hEE]
         rcases hem with ⟨rfl,h14⟩ | ⟨rfl,h0,_⟩
         · rw [if_pos h14];rfl
         · rw [if_neg O];rfl
       · rw [hy] at hx;injection hx with hx;subst hx;rw [hEE] at he
         rcases hem with ⟨rfl,h14⟩ | ⟨rfl,h0,q1,q2,q3,_,q5⟩
         · rw [if_pos h14] at he;cases he
         · exact ⟨q1,q2,by rw [q3,el1],q5⟩)
 have h83:=c24
 refine qbV 90 (¬ xh=(decide (xo=[119,111,114,100]∨xo=[115,112,97,99,101]) || yo)) ?_ ?_
 ·
  refine Zr<|Wb Y5<|Wl 1 Y6<|Zqm Z Z<|Zqm Z Z<|?_
  refine qam (t:=94) Z (fun c26=>?_) (fun c26=>?_)
  ·
   refine Wf Y4<|Wf Y4<|ZqT Z Z Z<|qae (qpp Z Z Z Z) Z<|Zqa Z Z<|Zn<|?_
   refine qaa (MidB.mk (Lr D) Sb Z (qhO ((by first | rw [decide_eq_true (show (xo=[119,111,114,100]∨xo=[115,112,97,99,101]) by assumption),Bool.true_or] | rw [decide_eq_false (show ¬ (xo=[119,111,114,100]∨xo=[115,112,97,99,101]) by assumption),Bool.false_or]))))
  refine Zg Z Z<|Wb Y5<|Zg Z Z<|Wl 0 Y6<|ZqF Z Z Z<|qae (qpp Z Z Z Z) Z<|Zqa Z Z<|Zn<|?_
  refine qaa (MidB.mk (Lr D) Sb Z (qhO ((by first | rw [decide_eq_true (show (xo=[119,111,114,100]∨xo=[115,112,97,99,101]) by assumption),Bool.true_or] | rw [decide_eq_false (show ¬ (xo=[119,111,114,100]∨xo=[115,112,97,99,101]) by assumption),Bool.false_or]))))
 intro s25 h25
 refine qab Z (fun c27=>?_) (fun c27=>?_)
 ·
  have h90:=c27
  refine Sr<|At Z Z<|Zo<|Zc<|Zu<|?_
  refine rR [_,_] _ (.t1 Z) Z (h1.t h2|>.t h4|>.t h18|>.t h20|>.t h21|>.t h22|>.t h25) fun _ hS2=>?_
  first
    | (refine ⟨(⟨.slice Aw w.length cw,Mw,.slice Al l.length cl,Ml,.slice Ar r.length cr,Mr,es,ck,w,l,r⟩:AG),rfl,?_,fun x hx=>?_⟩
       · rw [hno];rfl
       · rw [hno] at hx;cases hx)
    | (refine ⟨(⟨.slice Aw w.length cw,Mw,.slice Al l.length cl,Ml,.slice Ar r.length cr,Mr,es,ck,w,l,r⟩:AG),rfl,?_,fun x hx he=>?_⟩
       · rw [hy,qbN,if_pos ⟨hxl,hrep⟩];rfl
       · rw [hy] at hx;injection hx with hx;subst hx;rw [qbN,if_pos ⟨hxl,hrep⟩] at he;cases he)
    | (have hE8:=qaV (l:=l) (x:=⟨xl,xo,xh,xn,(xk:Int)⟩) hnew
       refine ⟨g,Z,?_,fun x hx he=>?_⟩
       · rw [hy,qbN,if_neg hE8,if_pos hxo];rfl
       · rw [hy] at hx;injection hx with hx;subst hx
         refine ⟨hg1,?_,?_,?_⟩
         · rw [ew1,qdT,if_pos hxo]
         · rw [el1]
         · rw [er1,qg2,if_pos hxo])
    | (have hE8:=qaV (l:=l) (x:=⟨xl,xo,xh,xn,(xk:Int)⟩) hnew
       have hEE:qbN t w l (some ⟨xl,xo,xh,xn,(xk:Int)⟩)=12:=qeO hE8 hxo h83
       refine ⟨g,Z,?_,fun x hx he=>?_⟩
       · rw [hy,hEE];rfl
       · rw [hy] at hx;injection hx with hx;subst hx;rw [hEE] at he;cases he)
    | (have hE8:=qaV (l:=l) (x:=⟨xl,xo,xh,xn,(xk:Int)⟩) hnew
       have hoo:=qdB (t:=t) hye hyn
       have hEE:qbN t w l (some ⟨xl,xo,xh,xn,(xk:Int)⟩)=9:=qgc hE8 hxo h83 hoo h90
       refine ⟨g,Z,?_,fun x hx he=>?_⟩
       · rw [hy,hEE];rfl
       · rw [hy] at hx;injection hx with hx;subst hx;rw [hEE] at he;cases he)
    | (have hE8:=qaV (l:=l) (x:=⟨xl,xo,xh,xn,(xk:Int)⟩) hnew
       have hoo:=qdB (t:=t) hye hyn
       have hEE:qbN t w l (some ⟨xl,xo,xh,xn,(xk:Int)⟩)=6:=qgq hE8 hxo h83 hoo h90 h99
       refine ⟨g,Z,?_,fun x hx he=>?_⟩
       · rw [hy,hEE];rfl
       · rw [hy] at hx;injection hx with hx;subst hx;rw [hEE] at he;cases he)
    | (have hE8:=qaV (l:=l) (x:=⟨xl,xo,xh,xn,(xk:Int)⟩) hnew
       have hoo:=qdB (t:=t) hye hyn
       have hcc:=qeH (t:=t) (w:=w) (r:=r) (i:=num) (x:=⟨xl,xo,xh,xn,(xk:Int)⟩) hye h83 hxo
       have hEE:qbN t w l (some ⟨xl,xo,xh,xn,(xk:Int)⟩)=if t.cells < ((qdT t w ⟨xl,xo,xh,xn,(xk:Int)⟩).length:Int) then 14 else 0:=qgi hE8 hxo h83 hoo h90 h99
       rw [ew1,er1,hcc.1] at hem
       rw [hcc.2] at hem
       refine ⟨g',Z,?_,fun x hx he=>?_⟩
       · rw [hy,hEE]
         rcases hem with ⟨rfl,h14⟩ | ⟨rfl,h0,_⟩
         · rw [if_pos h14];rfl
         · rw [if_neg O];rfl
       · rw [hy] at hx;injection hx with hx;subst hx;rw [hEE] at he
         rcases hem with ⟨rfl,h14⟩ | ⟨rfl,h0,q1,q2,q3,_,q5⟩
         · rw [if_pos h14] at he;cases he
         · exact ⟨q1,q2,by rw [q3,el1],q5⟩)
 have h90:=c27
 refine qbV 99 (xo=[115,112,97,99,101]∧¬ xn=[]) ?_ ?_
 ·
  refine Zr<|Wb Y5<|Wl 1 Y6<|qjv Z Z Z<|Zqm Z Z<|?_
  refine qam (t:=103) Z (fun c29=>?_) (fun c29=>?_)
  ·
   refine Zg Z Z<|Wb Y5<|Zg Z Z<|W0 Y5<|Zg Z Z<|Wl 1 Y6<|Zg Z Z<|qqe Z Z Z<|ZqT Z Z Z<|Zqa Z Z<|Zn<|?_
   refine qaa (MidB.mk (Lr D) Sb Z (qhO ((by first | exact fun h=>absurd h.1 As | exact ⟨fun h=>h.2,fun h=>⟨by assumption,h⟩⟩))))
  refine Wf Y4<|Wf Y4<|Wf Y4<|Wf Y4<|ZqF Z Z Z<|Zqa Z Z<|Zn<|?_
  refine qaa (MidB.mk (Lr D) Sb Z ((decide_eq_false ((by first | exact fun h=>absurd h.1 As | exact ⟨fun h=>h.2,fun h=>⟨by assumption,h⟩⟩))).symm))
 intro s28 h28
 refine qab Z (fun c30=>?_) (fun c30=>?_)
 ·
  have h99:=c30
  refine Sr<|At Z Z<|Zo<|Zc<|Zu<|?_
  refine rR [_,_] _ (.t1 Z) Z (h1.t h2|>.t h4|>.t h18|>.t h20|>.t h21|>.t h22|>.t h25|>.t h28) fun _ hS2=>?_
  first
    | (refine ⟨(⟨.slice Aw w.length cw,Mw,.slice Al l.length cl,Ml,.slice Ar r.length cr,Mr,es,ck,w,l,r⟩:AG),rfl,?_,fun x hx=>?_⟩
       · rw [hno];rfl
       · rw [hno] at hx;cases hx)
    | (refine ⟨(⟨.slice Aw w.length cw,Mw,.slice Al l.length cl,Ml,.slice Ar r.length cr,Mr,es,ck,w,l,r⟩:AG),rfl,?_,fun x hx he=>?_⟩
       · rw [hy,qbN,if_pos ⟨hxl,hrep⟩];rfl
       · rw [hy] at hx;injection hx with hx;subst hx;rw [qbN,if_pos ⟨hxl,hrep⟩] at he;cases he)
    | (have hE8:=qaV (l:=l) (x:=⟨xl,xo,xh,xn,(xk:Int)⟩) hnew
       refine ⟨g,Z,?_,fun x hx he=>?_⟩
       · rw [hy,qbN,if_neg hE8,if_pos hxo];rfl
       · rw [hy] at hx;injection hx with hx;subst hx
         refine ⟨hg1,?_,?_,?_⟩
         · rw [ew1,qdT,if_pos hxo]
         · rw [el1]
         · rw [er1,qg2,if_pos hxo])
    | (have hE8:=qaV (l:=l) (x:=⟨xl,xo,xh,xn,(xk:Int)⟩) hnew
       have hEE:qbN t w l (some ⟨xl,xo,xh,xn,(xk:Int)⟩)=12:=qeO hE8 hxo h83
       refine ⟨g,Z,?_,fun x hx he=>?_⟩
       · rw [hy,hEE];rfl
       · rw [hy] at hx;injection hx with hx;subst hx;rw [hEE] at he;cases he)
    | (have hE8:=qaV (l:=l) (x:=⟨xl,xo,xh,xn,(xk:Int)⟩) hnew
       have hoo:=qdB (t:=t) hye hyn
       have hEE:qbN t w l (some ⟨xl,xo,xh,xn,(xk:Int)⟩)=9:=qgc hE8 hxo h83 hoo h90
       refine ⟨g,Z,?_,fun x hx he=>?_⟩
       · rw [hy,hEE];rfl
       · rw [hy] at hx;injection hx with hx;subst hx;rw [hEE] at he;cases he)
    | (have hE8:=qaV (l:=l) (x:=⟨xl,xo,xh,xn,(xk:Int)⟩) hnew
       have hoo:=qdB (t:=t) hye hyn
       have hEE:qbN t w l (some ⟨xl,xo,xh,xn,(xk:Int)⟩)=6:=qgq hE8 hxo h83 hoo h90 h99
       refine ⟨g,Z,?_,fun x hx he=>?_⟩
       · rw [hy,hEE];rfl
       · rw [hy] at hx;injection hx with hx;subst hx;rw [hEE] at he;cases he)
    | (have hE8:=qaV (l:=l) (x:=⟨xl,xo,xh,xn,(xk:Int)⟩) hnew
       have hoo:=qdB (t:=t) hye hyn
       have hcc:=qeH (t:=t) (w:=w) (r:=r) (i:=num) (x:=⟨xl,xo,xh,xn,(xk:Int)⟩) hye h83 hxo
       have hEE:qbN t w l (some ⟨xl,xo,xh,xn,(xk:Int)⟩)=if t.cells < ((qdT t w ⟨xl,xo,xh,xn,(xk:Int)⟩).length:Int) then 14 else 0:=qgi hE8 hxo h83 hoo h90 h99
       rw [ew1,er1,hcc.1] at hem
       rw [hcc.2] at hem
       refine ⟨g',Z,?_,fun x hx he=>?_⟩
       · rw [hy,hEE]
         rcases hem with ⟨rfl,h14⟩ | ⟨rfl,h0,_⟩
         · rw [if_pos h14];rfl
         · rw [if_neg O];rfl
       · rw [hy] at hx;injection hx with hx;subst hx;rw [hEE] at he
         rcases hem with ⟨rfl,h14⟩ | ⟨rfl,h0,q1,q2,q3,_,q5⟩
         · rw [if_pos h14] at he;cases he
         · exact ⟨q1,q2,by rw [q3,el1],q5⟩)
 have h99:=c30
 refine Zk<|Zb<|Zt<|Sr<|Zqm Z Z<|Zqm Z Z<|qae (qad 1 [_,_,_,_,_] Z Z Z Z Z) Z<|qae (qad 0 [_,_,_,_] Z Z Z Z Z) Z<|Zqm Z Z<|Jc Z Z Z (qn0 D L _ _ _ ba bm t.cells A n c g hg1 num xl xo xh xn xk hxk yn yc yo Ay ny cy hyu (decide (xo=[119,111,114,100]∨xo=[115,112,97,99,101])) htc (by rw [ew1];exact hwl) (by rw [er1];exact hrl)) ?_
 rintro _ _ s31 h31 ⟨g',rfl,e,rfl,hem⟩
 refine At Z Z<|Zo<|?_
 refine rR [_,_] _ (.t1 Z) Z (h1.t h2|>.t h4|>.t h18|>.t h20|>.t h21|>.t h22|>.t h25|>.t h28|>.t h31) fun _ hS2=>?_
 first
   | (refine ⟨(⟨.slice Aw w.length cw,Mw,.slice Al l.length cl,Ml,.slice Ar r.length cr,Mr,es,ck,w,l,r⟩:AG),rfl,?_,fun x hx=>?_⟩
      · rw [hno];rfl
      · rw [hno] at hx;cases hx)
   | (refine ⟨(⟨.slice Aw w.length cw,Mw,.slice Al l.length cl,Ml,.slice Ar r.length cr,Mr,es,ck,w,l,r⟩:AG),rfl,?_,fun x hx he=>?_⟩
      · rw [hy,qbN,if_pos ⟨hxl,hrep⟩];rfl
      · rw [hy] at hx;injection hx with hx;subst hx;rw [qbN,if_pos ⟨hxl,hrep⟩] at he;cases he)
   | (have hE8:=qaV (l:=l) (x:=⟨xl,xo,xh,xn,(xk:Int)⟩) hnew
      refine ⟨g,Z,?_,fun x hx he=>?_⟩
      · rw [hy,qbN,if_neg hE8,if_pos hxo];rfl
      · rw [hy] at hx;injection hx with hx;subst hx
        refine ⟨hg1,?_,?_,?_⟩
        · rw [ew1,qdT,if_pos hxo]
        · rw [el1]
        · rw [er1,qg2,if_pos hxo])
   | (have hE8:=qaV (l:=l) (x:=⟨xl,xo,xh,xn,(xk:Int)⟩) hnew
      have hEE:qbN t w l (some ⟨xl,xo,xh,xn,(xk:Int)⟩)=12:=qeO hE8 hxo h83
      refine ⟨g,Z,?_,fun x hx he=>?_⟩
      · rw [hy,hEE];rfl
      · rw [hy] at hx;injection hx with hx;subst hx;rw [hEE] at he;cases he)
   | (have hE8:=qaV (l:=l) (x:=⟨xl,xo,xh,xn,(xk:Int)⟩) hnew
      have hoo:=qdB (t:=t) hye hyn
      have hEE:qbN t w l (some ⟨xl,xo,xh,xn,(xk:Int)⟩)=9:=qgc hE8 hxo h83 hoo h90
      refine ⟨g,Z,?_,fun x hx he=>?_⟩
      · rw [hy,hEE];rfl
      · rw [hy] at hx;injection hx with hx;subst hx;rw [hEE] at he;cases he)
   | (have hE8:=qaV (l:=l) (x:=⟨xl,xo,xh,xn,(xk:Int)⟩) hnew
      have hoo:=qdB (t:=t) hye hyn
      have hEE:qbN t w l (some ⟨xl,xo,xh,xn,(xk:Int)⟩)=6:=qgq hE8 hxo h83 hoo h90 h99
      refine ⟨g,Z,?_,fun x hx he=>?_⟩
      · rw [hy,hEE];rfl
      · rw [hy] at hx;injection hx with hx;subst hx;rw [hEE] at he;cases he)
   | (have hE8:=qaV (l:=l) (x:=⟨xl,xo,xh,xn,(xk:Int)⟩) hnew
      have hoo:=qdB (t:=t) hye hyn
      have hcc:=qeH (t:=t) (w:=w) (r:=r) (i:=num) (x:=⟨xl,xo,xh,xn,(xk:Int)⟩) hye h83 hxo
      have hEE:qbN t w l (some ⟨xl,xo,xh,xn,(xk:Int)⟩)=if t.cells < ((qdT t w ⟨xl,xo,xh,xn,(xk:Int)⟩).length:Int) then 14 else 0:=qgi hE8 hxo h83 hoo h90 h99
      rw [ew1,er1,hcc.1] at hem
      rw [hcc.2] at hem
      refine ⟨g',Z,?_,fun x hx he=>?_⟩
      · rw [hy,hEE]
        rcases hem with ⟨rfl,h14⟩ | ⟨rfl,h0,_⟩
        · rw [if_pos h14];rfl
        · rw [if_neg O];rfl
      · rw [hy] at hx;injection hx with hx;subst hx;rw [hEE] at he
        rcases hem with ⟨rfl,h14⟩ | ⟨rfl,h0,q1,q2,q3,_,q5⟩
        · rw [if_pos h14] at he;cases he
        · exact ⟨q1,q2,by rw [q3,el1],q5⟩)
end Go.Proofs.YtjindleklapakaaGreatDoor
namespace Go.Proofs.YtjindleklapakaaGreatDoor
open Go Go.FL Go.RowKit
def qi0(t:Tab):Nat→List Int→List (List UInt8×Int)→List (Int×Nat×List UInt8×Int)→List (List UInt8)→(Int×Int) ⊕ (List Int×List (List UInt8×Int)×List (Int×Nat×List UInt8×Int))
 | _,w,l,r,[]=>.inr (w,l,r)
 | i,w,l,r,tx::rest=>match qa6 tx with
  | none=>.inl (1,(i:Int))
  | some x=>if qbN t w l (some x)≠0 then .inl (qbN t w l (some x),(i:Int)) else qi0 t (i+1) (qdT t w x) (qmY w l x) (qg2 t w r (i:Int) x) rest
def qiV(l:List (List UInt8×Int)):List (Int×Nat×List UInt8×Int)→List Int→(Int×Int) ⊕ List Int
 | [],w=>.inr w
 | x::rest,w=>match qbQ l x.2.2.1 with
  | none=>.inl (27,x.1)
  | some a=>qiV l rest (w.set x.2.1 (w32 (w.getD x.2.1 0+a)))
def qf4(t:Tab)(tx:List UInt8):(Int×Int) ⊕ (List Int×List (List UInt8×Int)):=
 if (qak t).1≠0 then .inl (qak t) else if 400000 < tx.length then .inl (3,-2)
 else match qi0 t 0 [] [] [] (splitB 10 tx) with
  | .inl f=>.inl f
  | .inr x=>match qiV x.2.1 x.2.2 x.1 with
   | .inl f=>.inl f
   | .inr w=>.inr (w,x.2.1)
theorem qcZ{t:Tab}{i:Nat}{w:List Int}{l:List (List UInt8×Int)}{r:List (Int×Nat×List UInt8×Int)}{tx:List UInt8}{rest:List (List UInt8)}(h:qbN t w l (qa6 tx)≠0):qi0 t i w l r (tx::rest)=.inl (qbN t w l (qa6 tx),(i:Int)):=by
 simp only [qi0]
 cases hx:qa6 tx with
 | none=>rfl
 | some x=>rw [hx] at h;simp only [ne_eq,h,not_false_eq_true,if_true]
theorem qh5{t:Tab}{i:Nat}{w:List Int}{l:List (List UInt8×Int)}{r:List (Int×Nat×List UInt8×Int)}{tx:List UInt8}{rest:List (List UInt8)}{x:Ln}(hx:qa6 tx=some x)(h:qbN t w l (some x)=0):qi0 t i w l r (tx::rest)=qi0 t (i+1) (qdT t w x) (qmY w l x) (qg2 t w r (i:Int) x) rest:=by
 simp only [qi0,hx,h,ne_eq,not_true_eq_false,if_false]
theorem ql4{t:Tab}{w:List Int}{l:List (List UInt8×Int)}{tx:List UInt8}(h:qbN t w l (qa6 tx)=0):∃ x,qa6 tx=some x∧qbN t w l (some x)=0:=by
 cases hx:qa6 tx with
 | none=>rw [hx] at h;cases h
 | some x=>rw [hx] at h;exact ⟨x,rfl,h⟩
theorem qnK{t:Tab}{w:List Int}{l:List (List UInt8×Int)}{x:Ln}(hw:(w.length:Int)≤t.cells)(h:qbN t w l (some x)=0):((qdT t w x).length:Int)≤t.cells:=by
 simp only [qbN] at h
 split at h
 · cases h
 split at h
 · rename_i ho;rw [qdT,if_pos ho];exact hw
 split at h
 · cases h
 split at h
 · cases h
 split at h
 · cases h
 split at h
 · cases h
 · omega
theorem qmd(w:List Int)(x:Ln)(c:Int)(o:Bool):w.length≤(qcy w x c o).length:=by
 unfold qcy
 repeat' split
 all_goals (try simp only [List.length_append,List.length_cons,List.length_nil,List.length_replicate])
 all_goals omega
theorem qo0{r:List (Int×Nat×List UInt8×Int)}{w:List Int}{i:Int}{x:Ln}{c:Int}{o:Bool}(h:∀ y∈r,y.2.1 < w.length):∀ y∈qdJ r w i x c o,y.2.1 < (qcy w x c o).length:=by
  have hl:=qmd w x c o
  intro y hy
  unfold qdJ at hy
  split at hy
  · exact Nat.lt_of_lt_of_le (h y hy) hl
  · rename_i hs
    split at hy
    · rename_i hh
      rcases List.mem_append.1 hy with h1 | h1
      · exact Nat.lt_of_lt_of_le (h y h1) hl
      · rw [List.mem_singleton.1 h1]
        simp only [qcy,hs,if_false,hh.1,if_true,List.length_append,List.length_cons,List.length_nil]
        omega
    · exact Nat.lt_of_lt_of_le (h y hy) hl
theorem qrE{t:Tab}{r:List (Int×Nat×List UInt8×Int)}{w:List Int}{i:Int}{x:Ln}(h:∀ y∈r,y.2.1 < w.length):∀ y∈qg2 t w r i x,y.2.1 < (qdT t w x).length:=by
 unfold qg2 qdT
 split
 · exact h
 · exact qo0 h
theorem qnu{w:List Int}{l:List (List UInt8×Int)}{x:Ln}:(qmY w l x).length≤l.length+1:=by unfold qmY;split <;> simp
theorem qnP{t:Tab}{r:List (Int×Nat×List UInt8×Int)}{w:List Int}{i:Int}{x:Ln}:(qg2 t w r i x).length≤r.length+1:=by
 unfold qg2 qdJ
 repeat' split
 all_goals simp
theorem qjR(ba bm:Nat)(tc:Int)(A:Option Addr)(n c:Nat)(g:AG)(x y z:Nat×Obj)(L:Hl):(HA ba bm tc A n c g (x::y::z::L)).Perm (x::y::z::HA ba bm tc A n c g L):=
 (qij ..).trans (List.Perm.cons _ (qk8 ..))
theorem qio(ba bm:Nat)(tc:Int)(A:Option Addr)(n c:Nat)(g:AG)(L:Hl):HA ba bm tc A n c g L=HA ba bm tc A n c g []++L:=by simp [HA]
def Labs(s:World)(A:Option Addr)(n c:Nat)(l:List (List UInt8×Int)):Prop:=Sl 2 (fun _ x cs=>cs=[St x.1,.int .u32 x.2]∧U32 x.2) s A n c l
theorem Labs.le{D:Nat}{s s':World}{A:Option Addr}{n c:Nat}{l:List (List UInt8×Int)}(h:Labs s A n c l)(hl:Le D s s'):Labs s' A n c l:=Sl.le (fun _ _ h=>h) h hl
def Refs(s:World)(A:Option Addr)(n c:Nat)(l:List (Int×Nat×List UInt8×Int)):Prop:=Sl 4 (fun _ x cs=>cs=[Value.int .i64 x.1,Value.int .i64 (x.2.1:Int),St x.2.2.1,Value.int .u32 x.2.2.2]) s A n c l
theorem Refs.le{D:Nat}{s s':World}{A:Option Addr}{n c:Nat}{l:List (Int×Nat×List UInt8×Int)}(h:Refs s A n c l)(hl:Le D s s'):Refs s' A n c l:=Sl.le (fun _ _ h=>h) h hl
theorem qhI{α β:Type}{R:α→β→Prop}(f:α→β)(l:List α)(h:∀ x∈l,R x (f x)):All2 R l (l.map f):=by
 induction l with
 | nil=>exact All2.nil
 | cons x l ih=>exact All2.cons (h x Mc) (ih fun y hy=>h y (List.mem_cons_of_mem _ hy))
theorem Own.labs{e:Nat}{A:Hl}{Ad:Option Addr}{n c:Nat}{l:List (List UInt8×Int)}{s:World}(h:FL.Own e 2 A (.slice Ad n c) n (lbv l))(hu:∀ x∈l,U32 x.2)(hp:Pub A s)(hn:n=l.length):Labs s Ad n c l:=
 Own.rows (R:=fun _ (x:List UInt8×Int) cs=>cs=[St x.1,.int .u32 x.2]∧U32 x.2) h hp (qhI (fun (x:List UInt8×Int)=>[St x.1,Value.int .u32 x.2]) l fun x hx=>⟨rfl,rfl,hu x hx⟩) hn
theorem Own.refs{e:Nat}{A:Hl}{Ad:Option Addr}{n c:Nat}{l:List (Int×Nat×List UInt8×Int)}{s:World}(h:FL.Own e 4 A (.slice Ad n c) n (rfv l))(hp:Pub A s)(hn:n=l.length):Refs s Ad n c l:=
 Own.rows (R:=fun _ (x:Int×Nat×List UInt8×Int) cs=>cs=[Value.int .i64 x.1,Value.int .i64 (x.2.1:Int),St x.2.2.1,Value.int .u32 x.2.2.2]) h hp (qhI (fun (x:Int×Nat×List UInt8×Int)=>[Value.int .i64 x.1,Value.int .i64 (x.2.1:Int),St x.2.2.1,Value.int .u32 x.2.2.2]) l fun x hx=>⟨rfl,rfl⟩) hn
theorem Refs.at_{s:World}{A:Option Addr}{n c k:Nat}{l:List (Int×Nat×List UInt8×Int)}(h:Refs s A n c l)(hk:k < n):∃ b off x,A=some ⟨b,off,none⟩∧l[k]?=some x∧CellsAt s b (off+k * 4) [Value.int .i64 x.1,Value.int .i64 (x.2.1:Int),St x.2.2.1,Value.int .u32 x.2.2.2]:=by
 have hx:k < l.length:=by rw [← h.1];exact hk
 obtain ⟨b,off,cs,h1,h2,h3,h4⟩:=h.2.2.2 k l[k] (List.getElem?_eq_getElem hx)
 exact ⟨b,off,l[k],h1,List.getElem?_eq_getElem hx,by rw [← h4];exact h2⟩
theorem Labs.at_{s:World}{A:Option Addr}{n c k:Nat}{l:List (List UInt8×Int)}(h:Labs s A n c l)(hk:k < n):∃ b off x,A=some ⟨b,off,none⟩∧l[k]?=some x∧CellsAt s b (off+k * 2) [St x.1,Value.int .u32 x.2]∧U32 x.2:=by
 have hx:k < l.length:=by rw [← h.1];exact hk
 obtain ⟨b,off,cs,h1,h2,h3,h4,h5⟩:=h.2.2.2 k l[k] (List.getElem?_eq_getElem hx)
 exact ⟨b,off,l[k],h1,List.getElem?_eq_getElem hx,by rw [← h4];exact h2,h5⟩
theorem ql7{e:Nat}{M:Hl}{Ad:Option Addr}{n c:Nat}{xs:List Value}(h:FL.Own e 1 M (.slice Ad n c) n xs)(hn:0 < n):∃ b ys,Ad=some ⟨b,0,none⟩∧M=[(b,cb (xs++ys) e)]∧xs.length=n∧xs.length+ys.length=c∧n≤c∧c≤9223372036854775807:=by
 cases h with
 | nil=>omega
 | blk b cap _ _ ys h1 h2 h3 h4=>exact ⟨b,ys,rfl,rfl,by simpa using h1,by simpa using h2,h3,h4⟩
theorem qhd{e b c n:Nat}{xs ys:List Value}(h1:xs.length=n)(h2:xs.length+ys.length=c)(h3:n≤c)(h4:c≤9223372036854775807):FL.Own e 1 [(b,cb (xs++ys) e)] (.slice (some ⟨b,0,none⟩) n c) n xs:=
 .blk b c n xs ys (by simpa using h1) (by simpa using h2) h3 h4
theorem qoY{l:List (List UInt8×Int)}{r:List (Int×Nat×List UInt8×Int)}{w:List Int}{k:Nat}{x:Int×Nat×List UInt8×Int}{a:Int}(hx:r[k]?=some x)(ha:qbQ l x.2.2.1=some a):qiV l (r.drop k) w=qiV l (r.drop (k+1)) (w.set x.2.1 (w32 (w.getD x.2.1 0+a))):=by
 obtain ⟨hk,rfl⟩:=List.getElem?_eq_some_iff.1 hx
 rw [List.drop_eq_getElem_cons hk,qiV,ha]
theorem qd8{l:List (List UInt8×Int)}{r:List (Int×Nat×List UInt8×Int)}{w:List Int}{k:Nat}{x:Int×Nat×List UInt8×Int}(hx:r[k]?=some x)(ha:qbQ l x.2.2.1=none):qiV l (r.drop k) w=.inl (27,x.1):=by
 obtain ⟨hk,rfl⟩:=List.getElem?_eq_some_iff.1 hx
 rw [List.drop_eq_getElem_cons hk,qiV,ha]
theorem setU{w:List Int}(h:∀ x∈w,U32 x)(p:Nat)(v:Int)(hv:U32 v):∀ x∈w.set p v,U32 x:=fun x hx=>by
 rcases List.mem_or_eq_of_mem_set hx with h1 | h1
 · exact h x h1
 · rw [h1];exact hv
theorem qqx{l:List Int}{y:List Value}{p:Nat}(h:p < l.length):nth (wv l++y) (0+p)=some (.int .u32 (l.getD p 0)):=by
 have:=qcO (l:=l) (y:=y) (i:=(p:Int)) O O;simpa using this
theorem qpN{l:List Int}{y:List Value}{p:Nat}(v:Int)(h:p < l.length):qbz (wv l++y) (0+p) [.int .u32 v]=wv (l.set p v)++y:=by
 have:=qfC (l:=l) (y:=y) (i:=(p:Int)) v O O;simpa using this
theorem qpU{l:List Int}{y:List Value}{p:Nat}(h:p < l.length):Nat.ble (0+p+1) (wv l++y).length=true:=by
 have:=qfn (l:=l) (y:=y) (i:=(p:Int)) O O;simpa using this
open Go.FL
attribute [local irreducible] JC JO JA JB qa7 qaP qdj AC fill CellsAt QE Ev Mid
theorem qru(D:Nat)(L:Hl)(s:World)(x0 x1 x2:Nat×Obj)(hG:GW s)(ba bm:Nat)(t:Tab)(A:Option Addr)(n c:Nat)(hA:Inss s A n c t.ins)(g:AG)(hg:AGok g)(num:Int)(tx:List UInt8)(htx:tx.length≤400000)(htc:0≤t.cells∧t.cells≤65536)(hwl:(g.w.length:Int)≤t.cells)(hrl:g.r.length≤1000000)(hll:g.l.length≤1000000):AC Tryz.prog D 53 [.pointer (some ⟨ba,0,none⟩),.int .i64 num,St tx] (x0::x1::x2::HA ba bm t.cells A n c g L) s fun v L' _=>∃ g',L'=x0::x1::x2::HA ba bm t.cells A n c g' L∧v=.int .i64 (qbN t g.w g.l (qa6 tx))∧∀ x,qa6 tx=some x→qbN t g.w g.l (some x)=0→AGok g'∧g'.w=qdT t g.w x∧g'.l=qmY g.w g.l x∧g'.r=qg2 t g.w g.r num x:=
 AC.perm (qjR ..).symm (qpZ D (x0::x1::x2::L) s hG ba bm t A n c hA g hg num tx htx htc hwl hrl hll) fun v L1 s1 ⟨g',h1,h2⟩=>⟨_,by rw [h1];exact qjR ..,g',rfl,h2⟩
theorem qfg{t:Tab}{tx:List UInt8}(h:(qak t).1≠0):qf4 t tx=.inl (qak t):=by rw [qf4,if_pos h]
theorem qe3{t:Tab}{tx:List UInt8}(h:(qak t).1=0)(h2:400000 < tx.length):qf4 t tx=.inl (3,-2):=by rw [qf4,if_neg (by simpa using h),if_pos h2]
theorem qfi{t:Tab}{tx:List UInt8}{f:Int×Int}(h:(qak t).1=0)(h2:¬ 400000 < tx.length)(h3:qi0 t 0 [] [] [] (splitB 10 tx)=.inl f):qf4 t tx=.inl f:=by rw [qf4,if_neg (by simpa using h),if_neg h2,h3]
theorem qf8{t:Tab}{tx:List UInt8}{f:Int×Int}{w:List Int}{l:List (List UInt8×Int)}{r:List (Int×Nat×List UInt8×Int)}(h:(qak t).1=0)(h2:¬ 400000 < tx.length)(h3:qi0 t 0 [] [] [] (splitB 10 tx)=.inr (w,l,r))(h4:qiV l r w=.inl f):qf4 t tx=.inl f:=by rw [qf4,if_neg (by simpa using h),if_neg h2,h3];simp only [h4]
theorem qin{t:Tab}{tx:List UInt8}{w w2:List Int}{l:List (List UInt8×Int)}{r:List (Int×Nat×List UInt8×Int)}(h:(qak t).1=0)(h2:¬ 400000 < tx.length)(h3:qi0 t 0 [] [] [] (splitB 10 tx)=.inr (w,l,r))(h4:qiV l r w=.inr w2):qf4 t tx=.inr (w2,l):=by rw [qf4,if_neg (by simpa using h),if_neg h2,h3];simp only [h4]
theorem qsH:AGok ⟨.slice none 0 0,[],.slice none 0 0,[],.slice none 0 0,[],[],0,[],[],[]⟩:=⟨Own.nil,Own.nil,Own.nil,fun _=>rfl,(fun _ h=>by cases h),(fun _ h=>by cases h),(fun _ h=>by cases h)⟩
theorem qgv(D:Nat)(L:Hl)(s:World)(hG:GW s)(t:Tab)(A:Option Addr)(n c:Nat)(hA:Inss s A n c t.ins)(tx:List UInt8):AC Tryz.prog D 26 [.agg #[.int .i64 t.cells,.slice A n c],St tx] L s fun v L' s'=>∃ M',L'=M'++L∧∃ p f1 f2,v=.tuple #[p,.agg #[.int .i64 f1,.int .i64 f2]]∧((f1≠0∧qf4 t tx=.inl (f1,f2))∨(f1=0∧f2=0∧∃ ba bm Aw nw cw Al nl cl vr es ck Mw w l,p=.pointer (some ⟨ba,0,none⟩)∧M'=(ba,cb [.int .i64 t.cells,.slice A n c,.slice Aw nw cw,.slice Al nl cl,.map (some bm),vr] 79)::(bm,mp (fun l=>St l) es ck)::Mw∧FL.Own 38 1 Mw (.slice Aw nw cw) nw (wv w)∧(∀ x∈w,U32 x)∧Labs s' Al nl cl l∧qf4 t tx=.inr (w,l))):=by
 have hF:=qeX t
 refine qai (fn:=Tryz.f26) qaG Tryz.func26 V Z Tryz.ntmps26 Z (rs:=[.tmp 4,.cell 5 29]) Z [(0,_),(1,_)] Z<|Sr<|qaL Z Z ?_
 intro β1 s1 h1
 refine Zqa Z Z<|qag Z [_,_] Z Z ?_
 intro β2 s2 h2
 refine Nt<|Zs<|Sr<|qae (qad 1 [_,_] Z Z Z Z Z) Z<|Jc Z Z Z (qdd D _ _ _ _ _ _ (hA.le (h1.t h2))) ?_
 rintro _ _ s3 h3 ⟨rfl,rfl⟩
 refine qag Z [_,_] Z Z ?_
 intro β4 s4 h4
 refine Wt 0 [_,_] Y9<|Nt<|Sr<|qae (qad 0 [_,_] Z Z Z Z Z) Z<|qae (qal [] [_,_] Z Z Z Z Z Z) Z<|qae (qef Z Z (qdD _ _ _ _)) Z<|Nt<|?_
 refine qbc Z (fun c5=>?_) (fun c5=>?_)
 ·
  have hbad:(qak t).1≠0:=fun h=>c5 ⟨h,hF h⟩
  refine Zs<|qaD qaf 3 Z [1] (by intro x hx;exact qan hx) ?_
  intro s6 h6
  refine za 0 Z (qad 0 [_,_] Z Z Z Z Z) Z<|za 1 Z (qcq Z) Z<|qah 2 V<|Wu Z Tt 1 [_,_] Y9 (sM (qew (sbE _)))<|qac V<|Zt<|Zo<|Zu<|?_
  refine rR [_,_,_] _ (.tmp Z (.agg (us:=[_,_]) 1 Z Z Z Z Z (.nil))) Z (h1.t h2|>.t h3|>.t h4|>.t h6) fun _ hS2=>?_
  first
    | (refine ⟨[],rfl,.pointer none,_,_,rfl,.inl ⟨hbad,qfg hbad⟩⟩)
    | (refine ⟨[],rfl,.pointer none,3,-2,rfl,.inl ⟨by decide,qe3 ht0 hlong⟩⟩)
    | (exact ⟨_,qio ..,.pointer none,_,_,rfl,.inl ⟨hcode,qfi ht0 hlong (by rw [hS,hdr];exact qcZ hcode)⟩⟩)
    | (exact ⟨[_,_,_],rfl,.pointer none,_,_,rfl,.inl ⟨by decide,qf8 ht0 hlong hS (by rw [hR];exact qd8 hxr hmiss)⟩⟩)
    | (exact ⟨_,rfl,_,0,0,rfl,.inr ⟨rfl,rfl,ba,bm,Aw,w.length,cw,Al,l.length,cl,_,es,ck,Mj,wj,l,rfl,rfl,hOj,huj,hLb.le ((noSuchMark).t hS2),qin ht0 hlong hS hR⟩⟩)
 have ht0:(qak t).1=0:=c5.1
 have hcells:=(qoc hA ht0).cells
 refine Zk<|Zt<|Zs<|Sr<|Zqm Z Z<|qeI Z Z Z Z<|qdP Z Z Z<|Nt<|?_
 refine qab Z (fun c7=>?_) (fun c7=>?_)
 ·
  have hlong:400000 < tx.length:=by omega
  refine Sr<|Jc Z Z Z (qbr D _ _ _ _) ?_
  rintro _ _ s8 h8 ⟨rfl,rfl⟩
  refine Zqa Z Z<|Wt 1 [_,_] Y9<|Nt<|Zo<|Zu<|?_
  refine rR [_,_,_] _ (.tmp Z (.agg (us:=[_,_]) 1 Z Z Z Z Z (.nil))) Z (h1.t h2|>.t h3|>.t h4|>.t h8) fun _ hS2=>?_
  first
    | (refine ⟨[],rfl,.pointer none,_,_,rfl,.inl ⟨hbad,qfg hbad⟩⟩)
    | (refine ⟨[],rfl,.pointer none,3,-2,rfl,.inl ⟨by decide,qe3 ht0 hlong⟩⟩)
    | (exact ⟨_,qio ..,.pointer none,_,_,rfl,.inl ⟨hcode,qfi ht0 hlong (by rw [hS,hdr];exact qcZ hcode)⟩⟩)
    | (exact ⟨[_,_,_],rfl,.pointer none,_,_,rfl,.inl ⟨by decide,qf8 ht0 hlong hS (by rw [hR];exact qd8 hxr hmiss)⟩⟩)
    | (exact ⟨_,rfl,_,0,0,rfl,.inr ⟨rfl,rfl,ba,bm,Aw,w.length,cw,Al,l.length,cl,_,es,ck,Mj,wj,l,rfl,rfl,hOj,huj,hLb.le ((noSuchMark).t hS2),qin ht0 hlong hS hR⟩⟩)
 have hlong:¬ 400000 < tx.length:=by omega
 refine Zk<|Zt<|Sr<|qae (qad 2 [_,_] Z Z Z Z Z) Z<|qjS (fun l=>St l) Z ?_
 intro bm s9 h9
 refine qae (qal [(_,_),(_,_)] [_,_,_,_,_,_] Z Z Z Z Z Z) Z<|qaL Z Z ?_
 intro ba s10 h10
 refine At Z Z<|Zs<|Zs<|qbE 4<|qbE 4<|qbE 4<|Zr<|Zqm Z Z<|Jc Z Z Z (qmW D _ _ tx 10 O) ?_
 rintro _ _ s11 h11 ⟨rfl,Atq9,nt,ct,rfl,hTx⟩
 have hnt:=hTx.1
 have hct:=qgo 10 tx
 have hcl:tx.count 10≤tx.length:=List.count_le_length
 simp only [show ((10:UInt8).toNat:Int)=10 from rfl] at hnt hct hTx
 refine Ws Y4<|Zqm Z Z<|Nt<|Zp<|?_
   
 refine qdS [_,_,_] (γ:=Nat×AG) (fun g=>[(4,_),(5,_),(7,_),(30,_),(31,_),(32,.int .i64 (g.1:Int))]) (fun g=>HA ba bm t.cells A n c g.2 L) (fun g tw=>Le D s11 tw∧(g.1≤nt∧AGok g.2∧(g.2.w.length:Int)≤t.cells∧g.2.l.length≤g.1∧g.2.r.length≤g.1∧(∀ y∈g.2.r,y.2.1 < g.2.w.length)∧qi0 t 0 [] [] [] (splitB 10 tx)=qi0 t g.1 g.2.w g.2.l g.2.r ((splitB 10 tx).drop g.1))) (fun g=>nt - g.1) (fun _ _ _ h hl=>⟨h.1.trans hl,h.2⟩) (0,⟨.slice none 0 0,[],.slice none 0 0,[],.slice none 0 0,[],[],0,[],[],[]⟩) (.c6 Z Z Z Z Z Z (.nil _)) Z ⟨Le.refl _,⟨Nat.zero_le _,qsH,by simp only [List.length_nil];omega,Nat.le_refl _,Nat.le_refl _,(fun _ h=>by cases h),Z⟩⟩ ?_
 intro g s12 I12
 simp only [cQ9,nQ9]
 obtain ⟨k,g⟩:=g
 obtain ⟨hk0,hg,hwl,hll,hrl,hlt,hS⟩:=I12.2
 simp only at hk0 hg hwl hll hrl hlt hS
 dsimp only
 refine Sr<|qbY Z Z Z<|Nt<|Zs<|?_
 refine qab Z (fun c13=>?_) (fun c13=>?_)
 ·
  have hk:k < nt:=by omega
  obtain ⟨b,off,tx1,rfl,htxk,hctx,_⟩:=Strs.at_ (hTx.le I12.1) hk
  have htx1:tx1.length≤400000:=by have:=qcG 10 [] tx tx1 (List.mem_of_getElem? htxk);simp only [List.length_nil,Nat.zero_add] at this;omega
  have hdr:(splitB 10 tx).drop k=tx1::(splitB 10 tx).drop (k+1):=by
    obtain ⟨hk2,rfl⟩:=List.getElem?_eq_some_iff.1 htxk
    exact List.drop_eq_getElem_cons hk2
  refine Zk<|Zt<|Zs<|Zp<|Sr<|Zqm Z Z<|qae (qaX Z Z Z Z Z Z hk) Z<|qae (qaq Z Z Z (hctx.le (Lr D)) Z) Z<|Zqa Z Z<|At Z Z<|Sr<|Zqm Z Z<|Zqm Z Z<|Zqm Z Z<|Jc Z Z Z (qru D L _ _ _ _ (hG.le (h1.t h2|>.t h3|>.t h4|>.t h9|>.t h10|>.t h11|>.t I12.1)) ba bm t A n c (hA.le (h1.t h2|>.t h3|>.t h4|>.t h9|>.t h10|>.t h11|>.t I12.1)) g hg _ tx1 htx1 O hwl O O) ?_
  rintro _ _ s14 h14 ⟨g',rfl,rfl,hadd⟩
  refine At Z Z<|Sr<|Zqm Z Z<|qj3 Z Z Z<|Nt<|?_
  refine qbc Z (fun c15=>?_) (fun c15=>?_)
  ·
   have hcode:=c15
   refine Sr<|Zqm Z Z<|Zqm Z Z<|Jc Z Z Z (qbr D _ _ _ _) ?_
   rintro _ _ s16 h16 ⟨rfl,rfl⟩
   refine Zqa Z Z<|Wt 1 [_,_] Y9<|Nt<|Zo<|Zc<|Zu<|Zu<|Zc<|Zu<|?_
   refine rR [_,_,_] _ (.tmp Z (.agg (us:=[_,_]) 1 Z Z Z Z Z (.nil))) Z (h1.t h2|>.t h3|>.t h4|>.t h9|>.t h10|>.t h11|>.t I12.1|>.t h14|>.t h16) fun _ hS2=>?_
   first
     | (refine ⟨[],rfl,.pointer none,_,_,rfl,.inl ⟨hbad,qfg hbad⟩⟩)
     | (refine ⟨[],rfl,.pointer none,3,-2,rfl,.inl ⟨by decide,qe3 ht0 hlong⟩⟩)
     | (exact ⟨_,qio ..,.pointer none,_,_,rfl,.inl ⟨hcode,qfi ht0 hlong (by rw [hS,hdr];exact qcZ hcode)⟩⟩)
     | (exact ⟨[_,_,_],rfl,.pointer none,_,_,rfl,.inl ⟨by decide,qf8 ht0 hlong hS (by rw [hR];exact qd8 hxr hmiss)⟩⟩)
     | (exact ⟨_,rfl,_,0,0,rfl,.inr ⟨rfl,rfl,ba,bm,Aw,w.length,cw,Al,l.length,cl,_,es,ck,Mj,wj,l,rfl,rfl,hOj,huj,hLb.le ((noSuchMark).t hS2),qin ht0 hlong hS hR⟩⟩)
  have hcode:qbN t g.w g.l (qa6 tx1)=0:=by simpa using c15
  obtain ⟨x,hx,he0⟩:=ql4 hcode
  obtain ⟨hg2,ew,el,er⟩:=hadd x hx he0
  refine Zk<|Zb<|Zt<|Zr<|qaW Z Z Z (w64 O O)<|Zqm Z Z<|Zn<|?_
  refine qaa ⟨(k+1,g'),[],kp,Z,⟨(I12.1.t h14),⟨by simp only;omega,hg2,by simp only [ew];exact qnK hwl he0,by simp only [el];have:=qnu (w:=g.w) (l:=g.l) (x:=x);omega,by simp only [er];have:=qnP (t:=t) (w:=g.w) (r:=g.r) (i:=(k:Int)) (x:=x);omega,by simp only [er,ew];exact qrE hlt,by simp only [ew,el,er];rw [hS,hdr,qh5 hx he0]⟩⟩,Oz⟩
 have hdr:(splitB 10 tx).drop k=[]:=List.drop_eq_nil_of_le O
 rw [hdr,qi0] at hS
 have hgu:=hg
 obtain ⟨vw,Mw,vl,Ml,vr,Mr,es,ck,w,l,r⟩:=g
 obtain ⟨hOw,hOl,hOr,hE,huw,hul,hur⟩:=hg
 simp only at hOw hOl hOr hE huw hul hur
 obtain ⟨Aw,cw,rfl,kw,kx⟩:=Own.slice hOw
 obtain ⟨Al,cl,rfl,kl,km⟩:=Own.slice hOl
 obtain ⟨Ar,cr,rfl,kr,ks⟩:=Own.slice hOr
 simp only [HA]
 simp only at hS hlt hwl hll hrl
 refine Zl<|Zv<|Zv<|Zd<|Zt<|Zs<|Zs<|qhx (_::_::_::_::_::Mw) Ml _ ?_
 intro s17 h17 hpub17
 simp only [cQ9,nQ9]
 have hLb:=Own.labs hOl hul hpub17 rfl
 refine qhx (_::_::_::_::_::Mw) Mr _ ?_
 intro s18 h18 hpub18
 simp only [cQ9,nQ9]
 have hRf:=Own.refs hOr hpub18 rfl
 refine Zr<|Zqm Z Z<|qbo Z Z<|Wb Y5<|Wl 3 Y6<|Ws Y4<|Zqm Z Z<|Nt<|Zp<|?_
 refine qdS [_,_,_] (γ:=Nat×Hl×List Int) (fun g=>[(4,_),(5,_),(7,_),(50,_),(51,_),(52,.int .i64 (g.1:Int))]) (fun g=>(ba,cb [.int .i64 t.cells,.slice A n c,.slice Aw w.length cw,.slice Al l.length cl,.map (some bm),.slice Ar r.length cr] 79)::(bm,mp (fun l=>St l) es ck)::(g.2.1++L)) (fun g tw=>Le D s18 tw∧(g.1≤r.length∧FL.Own 38 1 g.2.1 (.slice Aw w.length cw) w.length (wv g.2.2)∧g.2.2.length=w.length∧(∀ x∈g.2.2,U32 x)∧qiV l r w=qiV l (r.drop g.1) g.2.2)) (fun g=>r.length - g.1) (fun _ _ _ h hl=>⟨h.1.trans hl,h.2⟩) (0,Mw,w) (.c6 Z Z Z Z Z Z (.nil _)) Z ⟨Le.refl _,⟨Nat.zero_le _,hOw,Z,huw,Z⟩⟩ ?_
 intro g s19 I19
 simp only [cQ9,nQ9]
 obtain ⟨j,Mj,wj⟩:=g
 obtain ⟨hj0,hOj,hwj,huj,hR⟩:=I19.2
 simp only at hj0 hOj hwj huj hR
 dsimp only
 refine Sr<|qbY Z Z Z<|Nt<|Zs<|?_
 refine qab Z (fun c20=>?_) (fun c20=>?_)
 ·
  have hk:j < r.length:=by omega
  obtain ⟨br,ofr,x,hAr,hxr,hcr⟩:=Refs.at_ (hRf.le I19.1) hk
  subst hAr
  have hpl:=hlt x (List.mem_of_getElem? hxr)
  obtain ⟨bw,yw,hAw,hMw,g1,g2,g3,g4⟩:=ql7 hOj O
  subst hMw
  subst hAw
  simp only [cQ9,nQ9]
  refine Zk<|Zt<|Zs<|Zp<|Sr<|qae (qbw Z Z Z Z Z Z hk) Z<|qae (qbG Z Z Z (hcr.le (Lr D)) Z) Z<|qag Z [_,_,_,_] Z Z ?_
  intro β21 s21 h21
  refine Wt 0 [_,_,_,_] Y9<|Nt<|Zs<|qbH qaf 13 Z _ (fun _ h=>h) ?_
  intro s22 h22
  refine za 0 Z (qao Z) Z<|za 1 Z (qau Z) Z<|za 2 Z (We Y4) Z<|za 3 Z (Wd 4 Y5) Z<|za 4 Z (We Y4) Z<|za 5 Z (qaw Z Z Z Z) Z<|za 6 Z (Wd 0 Y5) Z<|za 7 Z (qav (qgS KeyK.str 5 qld Z Z Z) (show Value.tuple #[(qb4 es x.2.2.1).getD (.int .u32 0),.bool (qb4 es x.2.2.1).isSome]=.tuple #[(qb4 es x.2.2.1).getD (.int .u32 0),.bool (qbQ l x.2.2.1).isSome] by rw [hE,Option.isSome_map])) Z<|za 8 Z (qao Z) Z<|za 9 Z (qiw Z Z) Z<|za 10 Z (qiw Z Z) Z<|za 11 Z (qcq Z) Z<|za 12 Z (qcq Z) Z ?_
  refine qac V<|Zt<|Zs<|Sr<|Zqm Z Z<|qcQ Z Z<|Nt<|?_
  refine qbU Z (fun c23=>?_) (fun c23=>?_)
  ·
   have hmiss:qbQ l x.2.2.1=none:=by simpa using c23
   refine Sr<|W0 Y5<|Wl 0 Y6<|Jc Z Z Z (qbr D _ _ _ _) ?_
   rintro _ _ s24 h24 ⟨rfl,rfl⟩
   refine Zqa Z Z<|Wt 2 [_,_] Y9<|Nt<|Zo<|Zu<|Zc<|Zu<|Zu<|Zc<|Zu<|?_
   refine rR [_,_,_,_] _ (.tmp Z (.agg (us:=[_,_]) 2 Z Z Z Z Z (.nil))) Z (h1.t h2|>.t h3|>.t h4|>.t h9|>.t h10|>.t h11|>.t I12.1|>.t h17|>.t h18|>.t I19.1|>.t h21|>.t h22|>.t h24) fun _ hS2=>?_
   first
     | (refine ⟨[],rfl,.pointer none,_,_,rfl,.inl ⟨hbad,qfg hbad⟩⟩)
     | (refine ⟨[],rfl,.pointer none,3,-2,rfl,.inl ⟨by decide,qe3 ht0 hlong⟩⟩)
     | (exact ⟨_,qio ..,.pointer none,_,_,rfl,.inl ⟨hcode,qfi ht0 hlong (by rw [hS,hdr];exact qcZ hcode)⟩⟩)
     | (exact ⟨[_,_,_],rfl,.pointer none,_,_,rfl,.inl ⟨by decide,qf8 ht0 hlong hS (by rw [hR];exact qd8 hxr hmiss)⟩⟩)
     | (exact ⟨_,rfl,_,0,0,rfl,.inr ⟨rfl,rfl,ba,bm,Aw,w.length,cw,Al,l.length,cl,_,es,ck,Mj,wj,l,rfl,rfl,hOj,huj,hLb.le (h18.t I19.1|>.t h21|>.t h22|>.t h24|>.t hS2),qin ht0 hlong hS hR⟩⟩)
  obtain ⟨a,ha⟩:=Option.isSome_iff_exists.1 c23
  rw [show (qb4 es x.2.2.1).getD (Value.int .u32 0)=.int .u32 a by rw [hE,ha];rfl]
  refine Zk<|Zt<|qaD qaf 12 Z [6] (by intro x hx;exact qan hx) ?_
  intro s25 h25
  refine za 0 Z (qao Z) Z<|za 1 Z (qau Z) Z<|za 2 Z (We Y4) Z<|za 3 Z (Wd 4 Y5) Z<|za 4 Z (We Y4) Z<|za 5 Z (Wd 0 Y5) Z<|za 6 Z (qaX Z Z Z Z Z Z O) Z<|za 8 Z (qao Z) Z<|qah 7 V<|qb1 Z Tt (qbL 6 Z Z Z Z (qqx O)) Z<|za 9 Z (qav (qdt Z Z) (congrArg (Value.int .u32) (qc9 _))) Z<|za 10 Z (qaX Z Z Z Z Z Z O) Z<|qah 11 V<|qa9 Z Tt 6 _ Z Z Z Z Z (qpU O) Z (qpN _ O) Z (fun x hx=>hx)<|qac V<|Zb<|Zt<|Zr<|qaW Z Z Z (w64 O O)<|Zqm Z Z<|Zn<|?_
  refine qaa ⟨(j+1,[(bw,cb (wv (wj.set x.2.1 (w32 (wj.getD x.2.1 0+a)))++yw) 38)],wj.set x.2.1 (w32 (wj.getD x.2.1 0+a))),[_],kp,Z,⟨(I19.1.t h21|>.t h22|>.t h25),⟨by simp only;omega,qhd (by simp only [qb6,List.length_set];exact hwj) (by simp only [qb6,List.length_set];rw [qb6] at g2;exact g2) g3 g4,by simp only [List.length_set];exact hwj,setU huj _ _ (qtR _),by simp only;rw [hR,qoY hxr ha]⟩⟩,Oz⟩
 have hdr2:r.drop j=[]:=List.drop_eq_nil_of_le O
 rw [hdr2,qiV] at hR
 refine Zl<|Zv<|Zv<|Zd<|Zt<|Sr<|Zqm Z Z<|qae (qal [] [_,_] Z Z Z Z Z Z) Z<|Zqa Z Z<|Wt 1 [_,_] Y9<|Nt<|Zo<|?_
 refine rR [_,_,_] _ (.tmp Z (.agg (us:=[_,_]) 1 Z Z Z Z Z (.nil))) Z (h1.t h2|>.t h3|>.t h4|>.t h9|>.t h10|>.t h11|>.t I12.1|>.t h17|>.t h18|>.t I19.1) fun _ hS2=>?_
 first
   | (refine ⟨[],rfl,.pointer none,_,_,rfl,.inl ⟨hbad,qfg hbad⟩⟩)
   | (refine ⟨[],rfl,.pointer none,3,-2,rfl,.inl ⟨by decide,qe3 ht0 hlong⟩⟩)
   | (exact ⟨_,qio ..,.pointer none,_,_,rfl,.inl ⟨hcode,qfi ht0 hlong (by rw [hS,hdr];exact qcZ hcode)⟩⟩)
   | (exact ⟨[_,_,_],rfl,.pointer none,_,_,rfl,.inl ⟨by decide,qf8 ht0 hlong hS (by rw [hR];exact qd8 hxr hmiss)⟩⟩)
   | (exact ⟨_,rfl,_,0,0,rfl,.inr ⟨rfl,rfl,ba,bm,Aw,w.length,cw,Al,l.length,cl,_,es,ck,Mj,wj,l,rfl,rfl,hOj,huj,hLb.le (h18.t I19.1|>.t hS2),qin ht0 hlong hS hR⟩⟩)
open Go.Proofs.Tryz
def qjq(t:Tab)(tx:List UInt8):List Int:=match qf4 t tx with
 | .inl _=>[]
 | .inr x=>x.1
def qnp(t:Tab)(tx:List UInt8):List (List UInt8×Int):=match qf4 t tx with
 | .inl _=>[]
 | .inr x=>x.2
def qdA(t:Tab)(tx:List UInt8):Int×Int:=match qf4 t tx with
 | .inl f=>f
 | .inr _=>(0,0)
theorem qim{t:Tab}{tx:List UInt8}{f:Int×Int}(h:qf4 t tx=.inl f):qjq t tx=[]∧qnp t tx=[]∧qdA t tx=f:=by simp [qjq,qnp,qdA,h]
theorem qfJ{t:Tab}{tx:List UInt8}{w:List Int}{l:List (List UInt8×Int)}(h:qf4 t tx=.inr (w,l)):qjq t tx=w∧qnp t tx=l∧qdA t tx=(0,0):=by simp [qjq,qnp,qdA,h]
theorem Labs.nil(s:World):Labs s none 0 0 []:=⟨rfl,Nat.le_refl _,by omega,fun i x h=>by cases h⟩
theorem qix(D:Nat)(L:Hl)(s:World)(hG:GW s)(t:Tab)(A:Option Addr)(n c:Nat)(hA:Inss s A n c t.ins)(tx:List UInt8):AC prog D 6 [.agg #[.int .i64 t.cells,.slice A n c],St tx] L s fun v L' s'=>∃ M',L'=M'++L∧∀ s2,Le D s' s2→Pub M' s2→∃ A1 n1 c1,v=.tuple #[.slice A1 n1 c1,.agg #[.int .i64 (qdA t tx).1,.int .i64 (qdA t tx).2]]∧Wds s2 A1 n1 c1 (qjq t tx):=by
 refine qai (fn:=f6) qaG func6 V Z ntmps6 Z (rs:=[.tmp 4,.cell 5 29]) Z [(0,_),(1,_)] Z<|Sr<|qaL Z Z ?_
 intro β1 s1 h1
 refine Zqa Z Z<|qag Z [_,_] Z Z ?_
 intro β2 s2 h2
 refine Nt<|Sr<|qae (qad 1 [_,_] Z Z Z Z Z) Z<|Zqm Z Z<|Jc Z Z Z (AC.mid [_,_] [] _ (qgv D _ _ (hG.le (h1.t h2)) _ _ _ _ (hA.le (h1.t h2)) tx)) ?_
 rintro _ _ s3 h3 ⟨Mx,rfl,p,f1,f2,rfl,hR⟩
 simp only [cQ9,nQ9]
 refine Zqm Z Z<|Zqx Z Z Z<|Zqx Z Z Z<|qag Z [_,_] Z Z ?_
 intro β4 s4 h4
 refine Zqa Z Z<|Wt 0 [_,_] Y9<|Nt<|Zs<|Sr<|qae (qad 0 [_,_] Z Z Z Z Z) Z<|qae (qal [] [_,_] Z Z Z Z Z Z) Z<|qae (qef Z Z (qdD _ _ _ _)) Z<|Nt<|?_
 refine qbc Z (fun c5=>?_) (fun c5=>?_)
 ·
  obtain ⟨hne,hbad⟩ | ⟨hz1,hz2,_⟩:=hR
  rotate_left
  · exact absurd ⟨hz1,hz2⟩ c5
  obtain ⟨e1,e2,e3⟩:=qim hbad
  refine Zs<|qaD qaf 3 Z [1] (by intro x hx;exact qan hx) ?_
  intro s6 h6
  refine za 0 Z (qad 0 [_,_] Z Z Z Z Z) Z<|za 1 Z (qcq Z) Z<|qah 2 V<|Wu Z Tt 1 [_,_] Y9 (sM (qew (sbE _)))<|qac V<|Zt<|Zo<|Zu<|?_
  refine rR [_,_,_] _ (.tmp Z (.agg (us:=[_,_]) 1 Z Z Z Z Z (.nil))) Z (h1.t h2|>.t h3|>.t h4|>.t h6) fun _ hS2=>?_
  first
    | (exact ⟨_,rfl,fun s2 hs2 hp=>⟨Aw,nw,cw,by rw [e3];rfl,by rw [e1];exact Own.wds hOw huw hp⟩⟩)
    | (exact ⟨_,rfl,fun s2 hs2 hp=>⟨none,0,0,by rw [e3];rfl,by first | (rw [e1];exact Wds.nil _ _ _ O) | (rw [e2];exact Labs.nil _)⟩⟩)
 obtain ⟨hne,hbad⟩ | ⟨hz1,hz2,ba,bm,Aw,nw,cw,Al,nl,cl,vr,es,ck,Mw,w,l,hp,hM,hOw,huw,hLb,hok⟩:=hR
 · exact absurd c5.1 hne
 subst hp
 subst hM
 have hnw:=hLb.1
 simp only [List.cons_append]
 obtain ⟨e1,e2,e3⟩:=qfJ hok
 refine Zk<|Zt<|Sr<|Zqm Z Z<|qbo Z Z<|Wb Y5<|Wl 3 Y6<|qae (qal [] [_,_] Z Z Z Z Z Z) Z<|Zqa Z Z<|Wt 1 [_,_] Y9<|Nt<|Zo<|?_
 refine rR [_,_,_,_,_] _ (.tmp Z (.agg (us:=[_,_]) 1 Z Z Z Z Z (.nil))) Z (h1.t h2|>.t h3|>.t h4) fun _ hS2=>?_
 first
   | (exact ⟨_,rfl,fun s2 hs2 hp=>⟨Aw,nw,cw,by rw [e3];rfl,by rw [e1];exact Own.wds hOw huw hp⟩⟩)
   | (exact ⟨_,rfl,fun s2 hs2 hp=>⟨none,0,0,by rw [e3];rfl,by first | (rw [e1];exact Wds.nil _ _ _ O) | (rw [e2];exact Labs.nil _)⟩⟩)
theorem qkC(D:Nat)(L:Hl)(s:World)(hG:GW s)(t:Tab)(A:Option Addr)(n c:Nat)(hA:Inss s A n c t.ins)(tx:List UInt8):AC prog D 13 [.agg #[.int .i64 t.cells,.slice A n c],St tx] L s fun v L' s'=>∃ M',L'=M'++L∧∀ s2,Le D s' s2→Pub M' s2→∃ A1 n1 c1,v=.tuple #[.slice A1 n1 c1,.agg #[.int .i64 (qdA t tx).1,.int .i64 (qdA t tx).2]]∧Labs s2 A1 n1 c1 (qnp t tx):=by
 refine qai (fn:=f13) qaG func13 V Z ntmps13 Z (rs:=[.tmp 4,.cell 5 29]) Z [(0,_),(1,_)] Z<|Sr<|qaL Z Z ?_
 intro β1 s1 h1
 refine Zqa Z Z<|qag Z [_,_] Z Z ?_
 intro β2 s2 h2
 refine Nt<|Sr<|qae (qad 1 [_,_] Z Z Z Z Z) Z<|Zqm Z Z<|Jc Z Z Z (AC.mid [_,_] [] _ (qgv D _ _ (hG.le (h1.t h2)) _ _ _ _ (hA.le (h1.t h2)) tx)) ?_
 rintro _ _ s3 h3 ⟨Mx,rfl,p,f1,f2,rfl,hR⟩
 simp only [cQ9,nQ9]
 refine Zqm Z Z<|Zqx Z Z Z<|Zqx Z Z Z<|qag Z [_,_] Z Z ?_
 intro β4 s4 h4
 refine Zqa Z Z<|Wt 0 [_,_] Y9<|Nt<|Zs<|Sr<|qae (qad 0 [_,_] Z Z Z Z Z) Z<|qae (qal [] [_,_] Z Z Z Z Z Z) Z<|qae (qef Z Z (qdD _ _ _ _)) Z<|Nt<|?_
 refine qbc Z (fun c5=>?_) (fun c5=>?_)
 ·
  obtain ⟨hne,hbad⟩ | ⟨hz1,hz2,_⟩:=hR
  rotate_left
  · exact absurd ⟨hz1,hz2⟩ c5
  obtain ⟨e1,e2,e3⟩:=qim hbad
  refine Zs<|qaD qaf 3 Z [1] (by intro x hx;exact qan hx) ?_
  intro s6 h6
  refine za 0 Z (qad 0 [_,_] Z Z Z Z Z) Z<|za 1 Z (qcq Z) Z<|qah 2 V<|Wu Z Tt 1 [_,_] Y9 (sM (qew (sbE _)))<|qac V<|Zt<|Zo<|Zu<|?_
  refine rR [_,_,_] _ (.tmp Z (.agg (us:=[_,_]) 1 Z Z Z Z Z (.nil))) Z (h1.t h2|>.t h3|>.t h4|>.t h6) fun _ hS2=>?_
  first
    | (exact ⟨_,rfl,fun s2 hs2 hp=>⟨Al,nl,cl,by rw [e3];rfl,by rw [e2];exact hLb.le (h4.t h6|>.t (hS2.t hs2))⟩⟩)
    | (exact ⟨_,rfl,fun s2 hs2 hp=>⟨none,0,0,by rw [e3];rfl,by first | (rw [e1];exact Wds.nil _ _ _ O) | (rw [e2];exact Labs.nil _)⟩⟩)
 obtain ⟨hne,hbad⟩ | ⟨hz1,hz2,ba,bm,Aw,nw,cw,Al,nl,cl,vr,es,ck,Mw,w,l,hp,hM,hOw,huw,hLb,hok⟩:=hR
 · exact absurd c5.1 hne
 subst hp
 subst hM
 have hnw:=hLb.1
 simp only [List.cons_append]
 obtain ⟨e1,e2,e3⟩:=qfJ hok
 refine Zk<|Zt<|Sr<|Zqm Z Z<|qbo Z Z<|Wb Y5<|Wl 3 Y6<|qae (qal [] [_,_] Z Z Z Z Z Z) Z<|Zqa Z Z<|Wt 1 [_,_] Y9<|Nt<|Zo<|?_
 refine rR [_,_,_,_,_] _ (.tmp Z (.agg (us:=[_,_]) 1 Z Z Z Z Z (.nil))) Z (h1.t h2|>.t h3|>.t h4) fun _ hS2=>?_
 first
   | (exact ⟨_,rfl,fun s2 hs2 hp=>⟨Al,nl,cl,by rw [e3];rfl,by rw [e2];exact hLb.le (h4.t (hS2.t hs2))⟩⟩)
   | (exact ⟨_,rfl,fun s2 hs2 hp=>⟨none,0,0,by rw [e3];rfl,by first | (rw [e1];exact Wds.nil _ _ _ O) | (rw [e2];exact Labs.nil _)⟩⟩)
theorem qec(D:Nat)(L:Hl)(s:World)(hG:GW s)(t:Tab)(A:Option Addr)(n c:Nat)(hA:Inss s A n c t.ins)(tx:List UInt8):AC prog D 6 [.agg #[.int .i64 t.cells,.slice A n c],St tx] L s fun v L' s'=>L=L'∧∃ A1 n1 c1,v=.tuple #[.slice A1 n1 c1,.agg #[.int .i64 (qdA t tx).1,.int .i64 (qdA t tx).2]]∧Wds s' A1 n1 c1 (qjq t tx):=AC.pubW (qix D L s hG t A n c hA tx)
theorem qkD(D:Nat)(L:Hl)(s:World)(hG:GW s)(t:Tab)(A:Option Addr)(n c:Nat)(hA:Inss s A n c t.ins)(tx:List UInt8):AC prog D 13 [.agg #[.int .i64 t.cells,.slice A n c],St tx] L s fun v L' s'=>L=L'∧∃ A1 n1 c1,v=.tuple #[.slice A1 n1 c1,.agg #[.int .i64 (qdA t tx).1,.int .i64 (qdA t tx).2]]∧Labs s' A1 n1 c1 (qnp t tx):=AC.pubW (qkC D L s hG t A n c hA tx)
end Go.Proofs.YtjindleklapakaaGreatDoor
namespace Go.Proofs.YtjindleklapakaaGreatDoor
open Go Go.FL Go.RowKit
def BV(M:Hl)(v:Value)(l:List UInt8):Prop:=FL.Own 5 1 M v l.length (bv l)∧(l=[]→M=[]∧v=.slice none 0 0)
theorem BV.nil:BV [] (.slice none 0 0) []:=⟨Own.nil,fun _=>⟨rfl,rfl⟩⟩
theorem qnN{e:Nat}{M:Hl}{n:Nat}{xs:List Value}(h:FL.Own e 1 M (.slice none 0 0) n xs):M=[]:=by cases h;rfl
theorem BV.app{M M1:Hl}{v v1:Value}{l l2:List UInt8}(h:BV M v l)(o:FL.Own 5 1 M1 v1 (l.length+l2.length) (bv l++bv l2))(hn:v=.slice none 0 0→l2.length=0→v1=.slice none 0 0):BV M1 v1 (l++l2):=by
 have hb:bv (l++l2)=bv l++bv l2:=by simp [bv]
 refine ⟨by rw [hb,List.length_append];exact o,fun h0=>?_⟩
 obtain ⟨h1,h2⟩:=List.append_eq_nil_iff.1 h0
 have hv:=hn (h.2 h1).2 (by rw [h2];rfl)
 subst hv
 exact ⟨qnN o,rfl⟩
theorem BV.one{M M1:Hl}{v v1:Value}{l:List UInt8}{c:UInt8}(o:FL.Own 5 1 M1 v1 (l.length+1) (bv l++[.int .u8 (c.toNat:Int)])):BV M1 v1 (l++[c]):=by
 have hb:bv (l++[c])=bv l++[.int .u8 (c.toNat:Int)]:=by simp [bv]
 exact ⟨by rw [hb,List.length_append];exact o,fun h0=>by simp at h0⟩
theorem BV.cap{M:Hl}{A:Option Addr}{n c:Nat}{l:List UInt8}(h:BV M (.slice A n c) l):A=none∨c≠0:=by
  by_cases h0:l=[]
  · have:=(h.2 h0).2;injection this with e;exact .inl e
  · right
    obtain ⟨_,c',e,h2,_⟩:=Own.slice h.1
    injection e with e1 e2 e3
    have:l.length≠0:=by simpa using h0
    omega
def qfO(t:Tab):List Int→List UInt8
 | []=>[]
 | [x]=>match qbZ t.ins x with
  | some y=>if y.operand then qcI++32::(Lib.decDigits x.toNat++[10]) else y.name++[10]
  | none=>qcI++32::(Lib.decDigits x.toNat++[10])
 | x::a::r=>match qbZ t.ins x with
  | some y=>if y.operand then y.name++32::(Lib.decDigits a.toNat++10::qfO t r) else y.name++10::qfO t (a::r)
  | none=>qcI++32::(Lib.decDigits x.toNat++10::qfO t (a::r))
def qgC(t:Tab)(l:List Int):List UInt8:=if (qak t).1≠0 then [] else if t.cells < (l.length:Int) then [] else if 400000 < (qfO t l).length then [] else qfO t l
def qgx(t:Tab)(l:List Int):Int×Int:=if (qak t).1≠0 then qak t else if t.cells < (l.length:Int) then (3,-2) else if 400000 < (qfO t l).length then (14,-2) else (0,0)
def qd5(t:Tab)(x:Int):Bool:=match qbZ t.ins x with
 | some y=>!y.operand
 | none=>false
theorem qeS{t:Tab}{x:Int}{y:Ins}{r:List Int}(h:qbZ t.ins x=some y)(ho:y.operand=false):qfO t (x::r)=y.name++10::qfO t r:=by
 cases r <;> simp [qfO,h,ho]
theorem qha{t:Tab}{x a:Int}{y:Ins}{r:List Int}(h:qbZ t.ins x=some y)(ho:y.operand=true):qfO t (x::a::r)=y.name++32::(Lib.decDigits a.toNat++10::qfO t r):=by
 simp [qfO,h,ho]
theorem qfW{t:Tab}{x:Int}{r:List Int}(h:qd5 t x=false)(h2:¬ ((qbZ t.ins x).isSome=true∧r≠[])):qfO t (x::r)=qcI++32::(Lib.decDigits x.toNat++10::qfO t r):=by
 cases hf:qbZ t.ins x with
 | none=>cases r <;> simp [qfO,hf]
 | some y=>
  rw [hf] at h2
  have hr:r=[]:=by
   by_cases hr:r=[]
   · exact hr
   · exact absurd ⟨rfl,hr⟩ h2
  subst hr
  unfold qd5 at h
  rw [hf] at h
  have ho:y.operand=true:=by simpa using h
  simp [qfO,hf,ho]
theorem qjN{l:List UInt8}(h:qez l=true):l≠[]∧l.length≤6:=by
 simp only [qez,Bool.and_eq_true] at h
 exact qfD h.1.1
theorem qom{t:Tab}(h:(qak t).1=0):∀ (i:Nat) (x:Ins),t.ins[i]?=some x→qb8 x=0∧(t.ins.take i).any (qdz x)=false:=by
  unfold qak at h
  split at h
  · cases h
  split at h
  · cases h
  have hr:=qdl h
  intro i x hi
  have hl:i < t.ins.length:=(List.getElem?_eq_some_iff.1 hi).1
  have:=hr i (Nat.zero_le _) O
  simp only [qbR,hi] at this
  split at this
  · contradiction
  · rename_i h0
    simp at h0
    refine ⟨h0,?_⟩
    split at this
    · cases this
    · rename_i h3;simpa using h3
theorem qjM{t:Tab}(h:(qak t).1=0){x:Ins}(hx:x∈t.ins):qez x.name=true:=by
 obtain ⟨i,hi⟩:=List.mem_iff_getElem?.1 hx
 have:=(qom h i x hi).1
 unfold qb8 at this
 split at this
 · cases this
 · rename_i h0;simpa using h0
theorem qh8{l:List Ins}{c:Int}{y:Ins}(h:qbZ l c=some y):y∈l∧y.code=c:=by
 refine ⟨List.mem_of_find?_eq_some h,?_⟩
 have:=List.find?_some h
 simpa using this
open Go.Proofs.Tryz
open Go.FL
attribute [local irreducible] JC JO JA JB qa7 qaP qdj AC fill CellsAt QE Ev Mid
theorem qfR(D:Nat)(L:Hl)(s:World)(bb:Nat)(p:Option Addr)(hp:p=none∨p=some ⟨bb,0,none⟩)(v:Value):AC prog D 63 [.pointer (some ⟨bb,0,none⟩)] ((bb,cb [.pointer p,v] 104)::L) s fun u L' _=>u=.tuple #[]∧L'=(bb,cb [.pointer (some ⟨bb,0,none⟩),v] 104)::L:=by
 refine qai (fn:=f63) qaG func63 V Z ntmps63 Z (rs:=[]) Z [(0,_)] Z<|Sr<|Zqm Z Z<|qbo Z Z<|W0 Y5<|Wl 0 Y6<|qae (qs7 underlying102 Z) Z<|Nt<|?_
 refine qcW Z (fun c1=>?_) (fun c1=>?_)
 ·
  obtain rfl:p=none:=by simpa using c1
  refine Zr<|Zqm Z Z<|Zqm Z Z<|qae (qsZ 0 underlying102 underlying165 Z Z Z Z) Z<|qae (qqh func83 V V V V Z Z) Z<|qae (qog 0 underlying165 underlying102 Z Z Z V) Z<|qbo Z Z<|W0 Y5<|Wt 0 [_,_] Y9<|Zn ?_
  refine qat [] _ (.inl Z) (.nil) Z (Lr D) fun _ hS2=>?_
  exact ⟨rfl,rfl⟩
 obtain rfl:p=some ⟨bb,0,none⟩:=hp.resolve_left (fun h=>by rw [h] at c1;cases c1)
 refine Sr<|Zqm Z Z<|qbo Z Z<|W0 Y5<|Wl 0 Y6<|Zqm Z Z<|qae (qs2 underlying102 Z Z Z) Z<|Nt<|Zz Z<|Zk<|?_
 refine qat [] _ (.inl Z) (.nil) Z (Lr D) fun _ hS2=>?_
 exact ⟨rfl,rfl⟩
theorem qlv(D:Nat)(L:Hl)(s:World)(bb:Nat)(p:Option Addr)(hp:p=none∨p=some ⟨bb,0,none⟩)(M:Hl)(v:Value)(l:List UInt8)(hb:BV M v l)(l2:List UInt8)(hlen:l.length+l2.length≤140737488355328):AC prog D 41 [.pointer (some ⟨bb,0,none⟩),St l2] ((bb,cb [.pointer p,v] 104)::(M++L)) s fun u L' _=>u=.tuple #[.int .i64 (l2.length:Int),.nilIface]∧∃ M' v',L'=(bb,cb [.pointer (some ⟨bb,0,none⟩),v'] 104)::(M'++L)∧BV M' v' (l++l2):=by
 obtain ⟨Ab,cb1,rfl,kb1,kb2⟩:=Own.slice hb.1
 refine qai (fn:=f41) qaG func41 V Z ntmps41 Z (rs:=[.tmp 4,.tmp 5]) Z [(0,_),(1,_)] Z<|Sr<|Zqa Z Z<|At Z Z<|Sr<|Zqm Z Z<|Jc Z Z Z (qfR D _ _ bb p hp _) ?_
 rintro _ _ s1 h1 ⟨rfl,rfl⟩
 refine Nt<|Sr<|Zqm Z Z<|Zqm Z Z<|qbo Z Z<|Wb Y5<|Wl 0 Y6<|Zqm Z Z<|qqW (sz:=1) (m:=l2.length) (news:=l2.map fun b=>Value.int .u8 (b.toNat:Int)) [_] M L Z Z Z Z Z Z Z hb.1 (by simp) (fun hT w i k1 i1 i2 i3 i4=>qos l2 k1 underlying9 i1 i2 i3 i4) ⟨by simp [ti5];omega,by omega⟩ Z ?_
 intro v1 M1 s2 h2 o1 n1
 obtain ⟨Av1,cv1,rfl,_,_⟩:=Own.slice o1
 simp only [cQ9,nQ9]
 refine qbo Z Z<|Wb Y5<|Wt 0 [_,_] Y9<|Nt<|Sr<|Zqm Z Z<|qeI Z Z Z Z<|Zqa Z Z<|At Z Z<|Zo<|?_
 refine rR [] _ (.tmp Z (.t1 Z)) Z (h1.t h2) fun _ hS2=>?_
 exact ⟨rfl,M1,_,rfl,hb.app o1 n1⟩
theorem qly(D:Nat)(L:Hl)(s:World)(bb:Nat)(p:Option Addr)(hp:p=none∨p=some ⟨bb,0,none⟩)(M:Hl)(v:Value)(l:List UInt8)(hb:BV M v l)(c:UInt8)(hlen:l.length+1≤140737488355328):AC prog D 43 [.pointer (some ⟨bb,0,none⟩),.int .u8 (c.toNat:Int)] ((bb,cb [.pointer p,v] 104)::(M++L)) s fun u L' _=>u=.nilIface∧∃ M' v',L'=(bb,cb [.pointer (some ⟨bb,0,none⟩),v'] 104)::(M'++L)∧BV M' v' (l++[c]):=by
 obtain ⟨Ab,cb1,rfl,kb1,kb2⟩:=Own.slice hb.1
 refine qai (fn:=f43) qaG func43 V Z ntmps43 Z (rs:=[.tmp 4]) Z [(0,_),(1,_)] Z<|Sr<|At Z Z<|Sr<|Zqm Z Z<|Jc Z Z Z (qfR D _ _ bb p hp _) ?_
 rintro _ _ s1 h1 ⟨rfl,rfl⟩
 refine Nt<|Sr<|Zqm Z Z<|Zqm Z Z<|qbo Z Z<|Wb Y5<|Wl 0 Y6<|Zqm Z Z<|qa0 [(_,_)] [_] Z Z Z Z Z Z Z Z Z ?_
 intro βn s2 h2 hcb
 refine qbO (sz:=1) [_] M L Z Z Z Z Z Z Z hb.1 (Row.of_cells (hcb.le (Lr D)) Z Z) ⟨by simp [ti5];omega,by omega⟩ Z ?_
 intro v1 M1 s3 h3 o1
 obtain ⟨Av1,cv1,rfl,_,_⟩:=Own.slice o1
 simp only [cQ9,nQ9]
 refine qbo Z Z<|Wb Y5<|Wt 0 [_,_] Y9<|Nt<|Sr<|At Z Z<|Zo<|?_
 refine rR [] _ (.t1 Z) Z (h1.t h2|>.t h3) fun _ hS2=>?_
 exact ⟨rfl,M1,_,rfl,BV.one (M:=M) (v:=.slice Ab l.length cb1) o1⟩
theorem qqZ(D:Nat)(L:Hl)(s:World)(bb:Nat)(p:Option Addr)(M:Hl)(v:Value)(l:List UInt8)(hb:BV M v l):AC prog D 44 [.pointer (some ⟨bb,0,none⟩)] ((bb,cb [.pointer p,v] 104)::L) s fun u L' _=>u=.int .i64 (l.length:Int)∧L'=(bb,cb [.pointer p,v] 104)::L:=by
 obtain ⟨Ab,cb1,rfl,kb1,kb2⟩:=Own.slice hb.1
 refine qai (fn:=f44) qaG func44 V Z ntmps44 Z (rs:=[.tmp 2]) Z [(0,_)] Z<|Sr<|At Z Z<|Sr<|Zqm Z Z<|qbo Z Z<|Wb Y5<|Wl 0 Y6<|Ws Y4<|At Z Z<|Zo<|?_
 refine rR [] _ (.t1 Z) Z (Lr D) fun _ hS2=>?_
 exact ⟨rfl,rfl⟩
theorem qqL(D:Nat)(L:Hl)(s:World)(bb:Nat)(p:Option Addr)(M:Hl)(v:Value)(l:List UInt8)(hb:BV M v l):AC prog D 45 [.pointer (some ⟨bb,0,none⟩)] ((bb,cb [.pointer p,v] 104)::(M++L)) s fun u L' _=>u=St l∧L'=L:=by
 obtain ⟨Ab,cb1,rfl,kb1,kb2⟩:=Own.slice hb.1
 refine qai (fn:=f45) qaG func45 V Z ntmps45 Z (rs:=[.tmp 2]) Z [(0,_)] Z<|Sr<|At Z Z<|Zs<|qaT qaf 12 Z 1 ?_
 intro s1 h1
 refine za 0 Z (qao Z) Z<|za 1 Z (qau Z) Z<|za 2 Z (We Y4) Z<|za 3 Z (Wd 0 Y5) Z<|za 4 Z (qsE Z hb.cap) Z<|za 5 Z (qao Z) Z<|za 6 Z (qau Z) Z<|za 7 Z (We Y4) Z<|za 8 Z (Wd 0 Y5) Z<|za 9 Z (qdw Z Z Z) Z<|qah 10 V<|qrK Z Tt [_] M L Z underlying142 V Z Z hb.1 (fun h=>(hb.2 h).1) Z (fun x hx _=>qoV hx) ?_
 intro s2 h2
 simp only [cQ9,nQ9]
 refine za 11 Z (qcq Z) Z<|qac V<|Zt<|Zo<|?_
 refine rR [_] _ (.t1 Z) Z (h1.t h2) fun _ hS2=>?_
 exact ⟨rfl,rfl⟩
theorem qjO{α:Type}{p:α→Bool}{l:List α}{k:Nat}{x:α}(h:∀ i y,i < k→l[i]?=some y→p y=false)(hk:l[k]?=some x)(hx:p x=true):l.find? p=some x:=by
 induction l generalizing k with
 | nil=>cases hk
 | cons y l ih=>
  cases k with
  | zero=>simp at hk;subst hk;simp [List.find?,hx]
  | succ k=>simp only [List.find?,h 0 y O rfl];exact ih (fun i z hi hz=>h (i+1) z O hz) hk
theorem qiR{α:Type}{p:α→Bool}{l:List α}(h:∀ i y,i < l.length→l[i]?=some y→p y=false):l.find? p=none:=by
 rw [List.find?_eq_none]
 intro y hy
 obtain ⟨i,hi⟩:=List.mem_iff_getElem?.1 hy
 simp [h i y (List.getElem?_eq_some_iff.1 hi).1 hi]
def PF(s:World)(l:List Ins)(code:Int)(p:Option Addr):Prop:=(p=none∧qbZ l code=none)∨∃ b off y A' n' c',p=some ⟨b,off,none⟩∧qbZ l code=some y∧CellsAt s b off [St y.name,.int .u32 y.code,.bool y.operand,.slice A' n' c']
theorem PF.some'{s:World}{l:List Ins}{code:Int}{p:Option Addr}{y:Ins}(h:PF s l code p)(hy:qbZ l code=some y):∃ b off A' n' c',p=some ⟨b,off,none⟩∧CellsAt s b off [St y.name,.int .u32 y.code,.bool y.operand,.slice A' n' c']:=by
 rcases h with ⟨_,h2⟩ | ⟨b,off,y',A',n',c',h1,h2,h3⟩
 · rw [h2] at hy;cases hy
 · rw [h2] at hy;injection hy with hy;subst hy;exact ⟨b,off,A',n',c',h1,h3⟩
theorem PF.le{D:Nat}{s s':World}{l:List Ins}{code:Int}{p:Option Addr}(h:PF s l code p)(hl:Le D s s'):PF s' l code p:=by
 rcases h with h | ⟨b,off,y,A',n',c',h1,h2,h3⟩
 · exact .inl h
 · exact .inr ⟨b,off,y,A',n',c',h1,h2,h3.le hl⟩
theorem PF.isSome{s:World}{l:List Ins}{code:Int}{p:Option Addr}(h:PF s l code p):p.isSome=(qbZ l code).isSome:=by
 rcases h with ⟨h1,h2⟩ | ⟨b,off,y,A',n',c',h1,h2,h3⟩ <;> rw [h1,h2] <;> rfl
theorem qkM{t:Tab}{x:Int}(h:qd5 t x=true):∃ y,qbZ t.ins x=some y∧y.operand=false:=by
 unfold qd5 at h
 cases hf:qbZ t.ins x with
 | none=>rw [hf] at h;cases h
 | some y=>rw [hf] at h;exact ⟨y,rfl,by simpa using h⟩
theorem qmI{t:Tab}{x:Int}{y:Ins}(h:¬ qd5 t x=true)(hf:qbZ t.ins x=some y):y.operand=true:=by
 unfold qd5 at h;rw [hf] at h;simpa using h
theorem qbJ{l:List Int}{k:Nat}{x:Int}(h:l[k]?=some x):l.drop k=x::l.drop (k+1):=by
 obtain ⟨hk,rfl⟩:=List.getElem?_eq_some_iff.1 h
 exact List.drop_eq_getElem_cons hk
theorem qm8(D:Nat)(L:Hl)(s:World)(t:Tab)(A:Option Addr)(n c:Nat)(hA:Inss s A n c t.ins)(code:Int)(bt:Nat)(x0 x1 x2:Nat×Obj):AC prog D 40 [.int .u32 code,.pointer (some ⟨bt,0,none⟩)] (x0::x1::x2::(bt,cb [.int .i64 t.cells,.slice A n c] 24)::L) s fun v L' s'=>L'=x0::x1::x2::(bt,cb [.int .i64 t.cells,.slice A n c] 24)::L∧∃ p,v=.pointer p∧PF s' t.ins code p:=by
 have hn:=hA.1
 have hc1:=hA.2.1
 have hc2:=hA.2.2.1
 refine qai (fn:=f40) qaG func40 V Z ntmps40 Z (rs:=[.tmp 3]) Z [(0,_),(1,_)] Z<|Sr<|At Z Z<|Zs<|Sr<|Wb Y5<|Wl 3 Y6<|Ws Y4<|Zqm Z Z<|Nt<|Zp<|?_
 refine qaQ (γ:=Nat) (fun k=>[(0,_),(1,_),(3,_),(7,_),(8,.int .i64 (k:Int))]) (fun _=>_) (fun k tw=>Le D s tw∧(k≤n∧∀ i x,i < k→t.ins[i]?=some x→decide (x.code=code)=false)) (fun k=>n - k) (fun _ _ _ h hl=>⟨h.1.trans hl,h.2⟩) 0 (.c5 Z Z Z Z Z (.nil _)) Z ⟨Le.refl _,⟨Nat.zero_le _,fun i c hi=>by omega⟩⟩ ?_
 intro k s1 I1
 have hk0:=I1.2.1
 have hI:=I1.2.2
 refine Sr<|qbY Z Z Z<|Nt<|Zs<|?_
 refine qab Z (fun c2=>?_) (fun c2=>?_)
 ·
  have hk:k < n:=by omega
  obtain ⟨b,off,x,A',n',c',rfl,hx,hcx,hax,hnl,hcd⟩:=Inss.at_ (hA.le I1.1) hk
  refine Zk<|Zt<|Zs<|Zp<|Sr<|Zqm Z Z<|At Z Z<|Sr<|Wb Y5<|Wl 3 Y6<|Zqm Z Z<|qae (qbw Z Z Z Z Z Z hk) Z<|qae (qdh Z Z Z Z) Z<|qae (qcK 1 Z Z Z (hcx.le (Lr D)) Z) Z<|Zqm Z Z<|qaJ Z Z Z<|Nt<|?_
  refine qab Z (fun c3=>?_) (fun c3=>?_)
  ·
   have hz:=c3
   refine Sr<|Wb Y5<|Wl 3 Y6<|Zqm Z Z<|qae (qbw Z Z Z Z Z Z hk) Z<|At Z Z<|Zo<|Zc<|Zu<|Zu<|Zc<|Zu<|?_
   refine rR [] _ (.t1 Z) Z I1.1 fun _ hS2=>?_
   first
     | (exact ⟨rfl,_,rfl,.inr ⟨_,_,x,A',n',c',rfl,qjO hI hx (decide_eq_true hz),hcx.le ((Lr D).t hS2)⟩⟩)
     | (exact ⟨rfl,none,rfl,.inl ⟨rfl,qiR (fun i y hi h=>hI i y O h)⟩⟩)
  have hz:=c3
  refine Zk<|Zb<|Zt<|Zr<|qaW Z Z Z (w64 O O)<|Zqm Z Z<|Zn<|?_
  refine qaa ⟨(k+1),[],kp,Z,⟨I1.1,⟨by omega,qaS hI hx (decide_eq_false hz)⟩⟩,O⟩
 refine Zl<|Zv<|Zv<|Zd<|Zt<|Sr<|At Z Z<|Zo<|?_
 refine rR [] _ (.t1 Z) Z I1.1 fun _ hS2=>?_
 first
   | (exact ⟨rfl,_,rfl,.inr ⟨_,_,x,A',n',c',rfl,qjO hI hx (decide_eq_true hz),hcx.le ((noSuchMark).t hS2)⟩⟩)
   | (exact ⟨rfl,none,rfl,.inl ⟨rfl,qiR (fun i y hi h=>hI i y O h)⟩⟩)
theorem qfw(D:Nat)(X L:Hl)(s:World)(bb:Nat)(p:Option Addr)(hp:p=none∨p=some ⟨bb,0,none⟩)(M:Hl)(v:Value)(l:List UInt8)(hb:BV M v l)(l2:List UInt8)(hlen:l.length+l2.length≤140737488355328):AC prog D 41 [.pointer (some ⟨bb,0,none⟩),St l2] ((bb,cb [.pointer p,v] 104)::(X++(M++L))) s fun u L' _=>u=.tuple #[.int .i64 (l2.length:Int),.nilIface]∧∃ M' v',L'=(bb,cb [.pointer (some ⟨bb,0,none⟩),v'] 104)::(X++(M'++L))∧BV M' v' (l++l2):=
 AC.perm (List.Perm.cons _ (List.perm_append_comm_assoc ..)) (qlv D (X++L) s bb p hp M v l hb l2 hlen) fun u L1 s1 ⟨h0,M',v',h1,h2⟩=>⟨_,by rw [h1];exact List.Perm.cons _ (List.perm_append_comm_assoc ..),h0,M',v',rfl,h2⟩
theorem qfs(D:Nat)(X L:Hl)(s:World)(bb:Nat)(p:Option Addr)(hp:p=none∨p=some ⟨bb,0,none⟩)(M:Hl)(v:Value)(l:List UInt8)(hb:BV M v l)(c:UInt8)(hlen:l.length+1≤140737488355328):AC prog D 43 [.pointer (some ⟨bb,0,none⟩),.int .u8 (c.toNat:Int)] ((bb,cb [.pointer p,v] 104)::(X++(M++L))) s fun u L' _=>u=.nilIface∧∃ M' v',L'=(bb,cb [.pointer (some ⟨bb,0,none⟩),v'] 104)::(X++(M'++L))∧BV M' v' (l++[c]):=
 AC.perm (List.Perm.cons _ (List.perm_append_comm_assoc ..)) (qly D (X++L) s bb p hp M v l hb c hlen) fun u L1 s1 ⟨h0,M',v',h1,h2⟩=>⟨_,by rw [h1];exact List.Perm.cons _ (List.perm_append_comm_assoc ..),h0,M',v',rfl,h2⟩
theorem qoQ(D:Nat)(X L:Hl)(s:World)(bb:Nat)(p:Option Addr)(M:Hl)(v:Value)(l:List UInt8)(hb:BV M v l):AC prog D 45 [.pointer (some ⟨bb,0,none⟩)] ((bb,cb [.pointer p,v] 104)::(X++(M++L))) s fun u L' _=>u=St l∧L'=X++L:=
 AC.perm (List.Perm.cons _ (List.perm_append_comm_assoc ..)) (qqL D (X++L) s bb p M v l hb) fun u L1 s1 ⟨h0,h1⟩=>⟨_,List.Perm.refl _,h0,h1⟩
theorem qj5(D:Nat)(L:Hl)(s:World)(hG:GW s)(x:Int)(hx:U32 x):AC prog D 42 [.int .i64 x] L s fun v L' _=>v=St (Lib.decDigits x.toNat)∧L=L':=by
 have h:=qql D L s hG x (by have:=hx.1;omega) (by have:=hx.2;omega)
 rwa [show Lib.itoa x=Lib.decDigits x.toNat by unfold Lib.itoa;rw [if_neg (by have:=hx.1;omega)]] at h
theorem qkN{t:Tab}{x:Int}{y:Ins}(h:qbZ t.ins x=some y):(!y.operand)=decide (qd5 t x=true):=by unfold qd5;rw [h];simp
theorem qkQ{t:Tab}{x:Int}(h:(qbZ t.ins x).isSome=false):¬ qd5 t x=true:=by
 unfold qd5
 cases hf:qbZ t.ins x with
 | none=>simp
 | some y=>rw [hf] at h;cases h
theorem qdn{t:Tab}{l:List Int}(h:(qak t).1≠0):qgC t l=[]∧qgx t l=qak t:=by unfold qgC qgx;rw [if_pos h,if_pos h];exact ⟨rfl,rfl⟩
theorem qcH{t:Tab}{l:List Int}(h:(qak t).1=0)(h2:t.cells < (l.length:Int)):qgC t l=[]∧qgx t l=(3,-2):=by unfold qgC qgx;rw [if_neg (by simpa using h),if_pos h2,if_neg (by simpa using h),if_pos h2];exact ⟨rfl,rfl⟩
theorem qdv{t:Tab}{l:List Int}(h:(qak t).1=0)(h2:¬ t.cells < (l.length:Int))(h3:400000 < (qfO t l).length):qgC t l=[]∧qgx t l=(14,-2):=by unfold qgC qgx;rw [if_neg (by simpa using h),if_neg h2,if_pos h3,if_neg (by simpa using h),if_neg h2,if_pos h3];exact ⟨rfl,rfl⟩
theorem qd2{t:Tab}{l:List Int}(h:(qak t).1=0)(h2:¬ t.cells < (l.length:Int))(h3:¬ 400000 < (qfO t l).length):qgC t l=qfO t l∧qgx t l=(0,0):=by unfold qgC qgx;rw [if_neg (by simpa using h),if_neg h2,if_neg h3,if_neg (by simpa using h),if_neg h2,if_neg h3];exact ⟨rfl,rfl⟩
theorem qqX(D:Nat)(L:Hl)(s:World)(hG:GW s)(t:Tab)(A:Option Addr)(n c:Nat)(hA:Inss s A n c t.ins)(A1:Option Addr)(n1 c1:Nat)(im:List Int)(hIm:Wds s A1 n1 c1 im):AC prog D 14 [.agg #[.int .i64 t.cells,.slice A n c],.slice A1 n1 c1] L s fun v L' _=>L=L'∧v=.tuple #[St (qgC t im),.agg #[.int .i64 (qgx t im).1,.int .i64 (qgx t im).2]]:=by
 have hF:=qeX t
 have hn1:=hIm.1
 have hu:=hIm.u32
 refine qai (fn:=f14) qaG func14 V Z ntmps14 Z (rs:=[.tmp 4,.cell 5 29]) Z [(0,_),(1,_)] Z<|Sr<|qaL Z Z ?_
 intro β1 s1 h1
 refine Zqa Z Z<|qag Z [_,_] Z Z ?_
 intro β2 s2 h2
 refine Nt<|Zs<|Sr<|qae (qad 1 [_,_] Z Z Z Z Z) Z<|Jc Z Z Z (qdd D _ _ _ _ _ _ (hA.le (h1.t h2))) ?_
 rintro _ _ s3 h3 ⟨rfl,rfl⟩
 refine qag Z [_,_] Z Z ?_
 intro β4 s4 h4
 refine Wt 0 [_,_] Y9<|Nt<|Sr<|qae (qad 0 [_,_] Z Z Z Z Z) Z<|qae (qal [] [_,_] Z Z Z Z Z Z) Z<|qae (qef Z Z (qdD _ _ _ _)) Z<|Nt<|?_
 refine qbc Z (fun c5=>?_) (fun c5=>?_)
 ·
  have hbad:(qak t).1≠0:=fun h=>c5 ⟨h,hF h⟩
  refine Zs<|qaD qaf 3 Z [1] (by intro x hx;exact qan hx) ?_
  intro s6 h6
  refine za 0 Z (qad 0 [_,_] Z Z Z Z Z) Z<|za 1 Z (qcq Z) Z<|qah 2 V<|Wu Z Tt 1 [_,_] Y9 (sM (qew (sbE _)))<|qac V<|Zt<|Zo<|Zu<|?_
  refine rR [_,_,_] L (.tmp Z (.agg (us:=[_,_]) 1 Z Z Z Z Z (.nil))) Z (h1.t h2|>.t h3|>.t h4|>.t h6) fun _ hS2=>?_
  first
    | (rw [(qdn hbad).1,(qdn hbad).2];exact ⟨rfl,rfl⟩)
    | (rw [(qcH ht0 hlong).1,(qcH ht0 hlong).2];exact ⟨rfl,rfl⟩)
    | (rw [(qdv ht0 hlong hbig).1,(qdv ht0 hlong hbig).2];exact ⟨rfl,rfl⟩)
    | (rw [(qd2 ht0 hlong hbig).1,(qd2 ht0 hlong hbig).2,hS];exact ⟨rfl,rfl⟩)
 have ht0:(qak t).1=0:=c5.1
 have hcells:=(qoc hA ht0).cells
 refine Zk<|Zt<|Zs<|Sr<|Zqm Z Z<|Ws Y4<|W0 Y5<|Wl 2 Y6<|qdP Z Z Z<|Nt<|?_
 refine qab Z (fun c7=>?_) (fun c7=>?_)
 ·
  have hlong:t.cells < (im.length:Int):=by omega
  refine Sr<|Jc Z Z Z (qbr D _ _ _ _) ?_
  rintro _ _ s8 h8 ⟨rfl,rfl⟩
  refine Zqa Z Z<|Wt 1 [_,_] Y9<|Nt<|Zo<|Zu<|?_
  refine rR [_,_,_] L (.tmp Z (.agg (us:=[_,_]) 1 Z Z Z Z Z (.nil))) Z (h1.t h2|>.t h3|>.t h4|>.t h8) fun _ hS2=>?_
  first
    | (rw [(qdn hbad).1,(qdn hbad).2];exact ⟨rfl,rfl⟩)
    | (rw [(qcH ht0 hlong).1,(qcH ht0 hlong).2];exact ⟨rfl,rfl⟩)
    | (rw [(qdv ht0 hlong hbig).1,(qdv ht0 hlong hbig).2];exact ⟨rfl,rfl⟩)
    | (rw [(qd2 ht0 hlong hbig).1,(qd2 ht0 hlong hbig).2,hS];exact ⟨rfl,rfl⟩)
 have hlong:¬ t.cells < (im.length:Int):=by omega
 refine Zk<|Zt<|Sr<|qae (qfx Z) Z<|At Z Z<|Sr<|qag Z [_,_] Z Z ?_
 intro β9 s9 h9
 refine Nt<|Zs<|Sr<|At Z Z<|Zp<|?_
 refine qaQ (γ:=Nat×Option Addr×Value×Hl×List UInt8) (fun g=>[(1,_),(4,_),(5,_),(7,_),(8,_),(9,.int .i64 (g.1:Int))]) (fun g=>(β9,cb [.pointer g.2.1,g.2.2.1] 104)::(β4,cb [.int .i64 (qak t).1,.int .i64 (qak t).2] 29)::(β2,cb [.int .i64 0,.int .i64 0] 29)::(β1,cb [.int .i64 t.cells,.slice A n c] 24)::(g.2.2.2.1++L)) (fun g tw=>Le D s9 tw∧(g.1≤n1∧(g.2.1=none∨g.2.1=some ⟨β9,0,none⟩)∧BV g.2.2.2.1 g.2.2.1 g.2.2.2.2∧g.2.2.2.2.length≤g.1 * 18∧qfO t im=g.2.2.2.2++qfO t (im.drop g.1))) (fun g=>n1 - g.1) (fun _ _ _ h hl=>⟨h.1.trans hl,h.2⟩) (0,none,.slice none 0 0,[],[]) (.c6 Z Z Z Z Z Z (.nil _)) Z ⟨Le.refl _,⟨Nat.zero_le _,.inl Z,BV.nil,Nat.zero_le _,Z⟩⟩ ?_
 intro g s10 I10
 obtain ⟨k,pt,vo,Mo,out⟩:=g
 obtain ⟨hk0,hpt,hBV,hol,hS⟩:=I10.2
 simp only at hk0 hpt hBV hol hS
 dsimp only
 refine Zs<|Sr<|Zqm Z Z<|Zqm Z Z<|Ws Y4<|qbY Z Z Z<|Nt<|?_
 refine qab Z (fun c11=>?_) (fun c11=>?_)
 ·
  have hk:k < n1:=by omega
  obtain ⟨b,off,x,rfl,hx,hcx,hux⟩:=Wds.at_ (hIm.le (h1.t h2|>.t h3|>.t h4|>.t h9|>.t I10.1)) hk
  have hux1:=hux.1
  have hux2':=hux.2
  refine Zk<|Zt<|Zs<|Zp<|Sr<|Zqm Z Z<|Zqm Z Z<|Zqm Z Z<|qae (qaX Z Z Z Z Z Z hk) Z<|qae (qaq Z Z Z (hcx.le (Lr D)) Z) Z<|qaz (first:=[]) (captured:=[_]) Z Z Z (qm8 D _ _ t A n c (hA.le (h1.t h2|>.t h3|>.t h4|>.t h9|>.t I10.1)) x _ _ _ _) ?_
  rintro _ _ s12 h12 ⟨rfl,p,rfl,hpf⟩
  refine At Z Z<|Zs<|Zp<|?_
  refine qbV 44 (qd5 t x=true) ?_ ?_
  ·
   refine Zr<|Zqm Z Z<|qae (qpy underlying100 Z) Z<|Zqm Z Z ?_
   refine qfF (t:=47) Z (fun c14=>?_) (fun c14=>?_)
   ·
    refine Zg Z Z ?_
    obtain ⟨y,hfy⟩:=Option.isSome_iff_exists.1 (hpf.isSome.symm.trans As)
    obtain ⟨b3,o3,A3,n3,c3,rfl,hcy⟩:=(hpf.le (Lr D)).some' hfy
    refine Zqm Z Z<|Zg Z Z<|qbo Z Z<|Zg Z Z<|qae (qdh Z Z Z Z) Z<|Zg Z Z<|qae (qcK 2 Z Z Z (hcy.le (Lr D)) Z) Z<|Zg Z Z<|qcQ Z Z<|ZqT Z Z Z<|Zqa Z Z<|Zn<|?_
    refine qaa (MidB.mk (Lr D) Sb Z ((qkN hfy)))
   refine Wf Y4<|Wf Y4<|Wf Y4<|Wf Y4<|Wf Y4<|ZqF Z Z Z<|Zqa Z Z<|Zn<|?_
   refine qaa (MidB.mk (Lr D) Sb Z ((decide_eq_false (qkQ (hpf.isSome.symm.trans As))).symm))
  intro s13 h13
  refine qab Z (fun c15=>?_) (fun c15=>?_)
  ·
   obtain ⟨y,hfy,hyo⟩:=qkM c15
   obtain ⟨b3,o3,A3,n3,c3,rfl,hcy⟩:=(hpf.le h13).some' hfy
   have hyl:=(qjN (qjM ht0 (qh8 hfy).1)).2
   refine Zr<|Zqm Z Z<|qbo Z Z<|W0 Y5<|qae (qaq Z Z Z (hcy.le (Lr D)) Z) Z<|Jc Z Z Z (qfw D [_,_,_] L _ _ pt hpt Mo vo out hBV y.name (by first | omega | (simp only [List.length_append,List.length_cons,List.length_nil];omega))) ?_
   rintro _ _ s16 h16 ⟨rfl,M1,v1,rfl,hB1⟩
   simp only [cQ9,nQ9]
   refine Zn<|Zb<|Zt<|Zr<|Jc Z Z Z (qfs D [_,_,_] L _ _ _ (.inr Z) M1 v1 _ hB1 10 (by first | omega | (simp only [List.length_append,List.length_cons,List.length_nil];omega))) ?_
   rintro _ _ s17 h17 ⟨rfl,M2,v2,rfl,hB2⟩
   simp only [cQ9,nQ9]
   refine Zn<|Zb<|Zt<|Zr<|Zqm Z Z<|qaW Z Z Z (w64 O O)<|Zqa Z Z<|Zn<|?_
   refine qaa ⟨(k+1,some ⟨β9,0,none⟩,v2,M2,(out++y.name)++[10]),[],kp,Z,⟨(I10.1.t h12|>.t h13|>.t h16|>.t h17),by first | exact ⟨by simp only;omega,.inr Z,hB2,by simp only [List.length_append,List.length_cons,List.length_nil];omega,by simp only;rw [hS,qbJ hx,qeS hfy hyo];simp⟩ | exact ⟨by simp only;omega,.inr Z,hB2,by simp only [List.length_append,List.length_cons,List.length_nil];omega,by simp only;rw [hS,qbJ hx,qbJ hx2,qha hfy hyo];simp⟩ | exact ⟨by simp only;omega,.inr Z,hB2,by simp only [List.length_append,List.length_cons,List.length_nil];omega,by simp only;rw [hS,qbJ hx,qfW (by simpa using h44) hwd];simp [qcI]⟩⟩,Oz⟩
  have h44:=c15
  refine qbV 59 ((qbZ t.ins x).isSome=true∧k+1 < n1) ?_ ?_
  ·
   refine Zr<|Zqm Z Z<|qae (qpy underlying100 Z) Z<|Zqm Z Z ?_
   refine qfF (t:=62) Z (fun c19=>?_) (fun c19=>?_)
   ·
    refine Zg Z Z<|Zqm Z Z<|Zg Z Z<|qaW Z Z Z (w64 O O)<|Zg Z Z<|Zqm Z Z<|Zg Z Z<|Ws Y4<|Zg Z Z<|qbY Z Z Z<|ZqT Z Z Z<|Zqa Z Z<|Zn ?_
    refine qaa (MidB.mk (Lr D) Sb Z (decide_eq_decide.2 (⟨fun h=>⟨hpf.isSome.symm.trans As,by omega⟩,fun h=>by omega⟩)))
   refine Wf Y4<|Wf Y4<|Wf Y4<|Wf Y4<|Wf Y4<|ZqF Z Z Z<|Zqa Z Z<|Zn<|?_
   refine qaa (MidB.mk (Lr D) Sb Z ((decide_eq_false (fun h=>absurd (hpf.isSome.trans h.1) (by rw [show p.isSome=false by assumption];decide))).symm))
  intro s18 h18
  refine qab Z (fun c20=>?_) (fun c20=>?_)
  ·
   obtain ⟨y,hfy⟩:=Option.isSome_iff_exists.1 c20.1
   have hyo:=qmI h44 hfy
   obtain ⟨b3,o3,A3,n3,c3,rfl,hcy⟩:=(hpf.le (h13.t h18)).some' hfy
   have hyl:=(qjN (qjM ht0 (qh8 hfy).1)).2
   have hk2:k+1 < n1:=c20.2
   obtain ⟨b4,off4,x2,hE2,hx2,hcx2,hux2⟩:=Wds.at_ (hIm.le (h1.t h2|>.t h3|>.t h4|>.t h9|>.t I10.1|>.t h12|>.t h13|>.t h18)) hk2
   injection hE2 with hE2
   injection hE2 with e1 e2
   subst e1
   subst e2
   have hv1:=hux2.1
   have hv2:=hux2.2
   refine Sr<|Zqm Z Z<|qae (qby (c:=((k+1:Nat):Int)) Z Z (by rw [w64 O O];simp)) Z<|At Z Z<|qaT qaf 13 Z 0 ?_
   intro s21 h21
   refine za 0 Z (qao Z) Z<|za 1 Z (qau Z) Z<|za 2 Z (qaw Z Z Z Z) Z<|za 3 Z (qaq Z Z Z (hcy.le h21) Z) Z<|za 4 Z (qji Z Z (by simp only [List.length_append,List.length_cons,List.length_nil];omega)) Z<|za 5 Z (qao Z) Z<|za 6 Z (qao Z) Z<|za 7 Z (qaX Z Z Z Z Z Z hk2) Z<|za 8 Z (qaq Z Z Z (hcx2.le h21) Z) Z<|za 9 Z (qaH Z Z Z Z Z (w64 O O)) Z<|qah 10 V<|Jb Z Tt Z Z Z (qj5 D _ _ (hG.le (h1.t h2|>.t h3|>.t h4|>.t h9|>.t I10.1|>.t h12|>.t h13|>.t h18|>.t h21)) x2 hux2) ?_
   rintro _ _ s22 h22 ⟨rfl,rfl⟩
   refine ⟨fun _ _ h=>h,?_⟩
   have hdl:=qjs (u:=x2.toNat) O
   refine za 11 Z (qji Z Z (by simp only [List.length_append,List.length_cons,List.length_nil];omega)) Z<|qah 12 V<|Jb Z Tt Z Z Z (qfw D [_,_,_] L _ _ pt hpt Mo vo out hBV _ (by first | omega | (simp only [List.length_append,List.length_cons,List.length_nil];omega))) ?_
   rintro _ _ s23 h23 ⟨rfl,M1,v1,rfl,hB1⟩
   refine ⟨(fun _ hx _=>by cases hx),?_⟩
   simp only [cQ9,nQ9]
   refine qac V<|Zb<|Zt<|Zr<|Jc Z Z Z (qfs D [_,_,_] L _ _ _ (.inr Z) M1 v1 _ hB1 10 (by first | omega | (simp only [List.length_append,List.length_cons,List.length_nil];omega))) ?_
   rintro _ _ s24 h24 ⟨rfl,M2,v2,rfl,hB2⟩
   simp only [cQ9,nQ9]
   refine Zn<|Zb<|Zt<|Zr<|Zqm Z Z<|qaW Z Z Z (w64 O O)<|Zqa Z Z<|Zn<|?_
   refine qaa ⟨(k+2,some ⟨β9,0,none⟩,v2,M2,(out++((y.name++[32])++Lib.decDigits x2.toNat))++[10]),[],kp,Z,⟨(I10.1.t h12|>.t h13|>.t h18|>.t h21|>.t h22|>.t h23|>.t h24),by first | exact ⟨by simp only;omega,.inr Z,hB2,by simp only [List.length_append,List.length_cons,List.length_nil];omega,by simp only;rw [hS,qbJ hx,qeS hfy hyo];simp⟩ | exact ⟨by simp only;omega,.inr Z,hB2,by simp only [List.length_append,List.length_cons,List.length_nil];omega,by simp only;rw [hS,qbJ hx,qbJ hx2,qha hfy hyo];simp⟩ | exact ⟨by simp only;omega,.inr Z,hB2,by simp only [List.length_append,List.length_cons,List.length_nil];omega,by simp only;rw [hS,qbJ hx,qfW (by simpa using h44) hwd];simp [qcI]⟩⟩,Oz⟩
  have hwd:¬ ((qbZ t.ins x).isSome=true∧im.drop (k+1)≠[]):=fun h=>c20 ⟨h.1,by have h2:=h.2;rw [ne_eq,List.drop_eq_nil_iff] at h2;omega⟩
  refine Zr<|Zqm Z Z<|Zqm Z Z<|qae (qaX Z Z Z Z Z Z hk) Z<|qae (qaq Z Z Z (hcx.le (h12.t h13|>.t h18)) Z) Z<|qae (qaH Z Z Z Z Z (w64 O O)) Z<|Jc Z Z Z (qj5 D _ _ (hG.le (h1.t h2|>.t h3|>.t h4|>.t h9|>.t I10.1|>.t h12|>.t h13|>.t h18)) x hux) ?_
  rintro _ _ s25 h25 ⟨rfl,rfl⟩
  have hdl:=qjs (u:=x.toNat) O
  refine qae (qji Z Z (by simp only [List.length_append,List.length_cons,List.length_nil];omega)) Z<|Jc Z Z Z (qfw D [_,_,_] L _ _ pt hpt Mo vo out hBV _ (by first | omega | (simp only [List.length_append,List.length_cons,List.length_nil];omega))) ?_
  rintro _ _ s26 h26 ⟨rfl,M1,v1,rfl,hB1⟩
  simp only [cQ9,nQ9]
  refine Zn<|Zb<|Zt<|Zr<|Jc Z Z Z (qfs D [_,_,_] L _ _ _ (.inr Z) M1 v1 _ hB1 10 (by first | omega | (simp only [List.length_append,List.length_cons,List.length_nil];omega))) ?_
  rintro _ _ s27 h27 ⟨rfl,M2,v2,rfl,hB2⟩
  simp only [cQ9,nQ9]
  refine Zn<|Zb<|Zt<|Zr<|Zqm Z Z<|qaW Z Z Z (w64 O O)<|Zqa Z Z<|Zn<|?_
  refine qaa ⟨(k+1,some ⟨β9,0,none⟩,v2,M2,(out++([119,111,114,100,32]++Lib.decDigits x.toNat))++[10]),[],kp,Z,⟨(I10.1.t h12|>.t h13|>.t h18|>.t h25|>.t h26|>.t h27),by first | exact ⟨by simp only;omega,.inr Z,hB2,by simp only [List.length_append,List.length_cons,List.length_nil];omega,by simp only;rw [hS,qbJ hx,qeS hfy hyo];simp⟩ | exact ⟨by simp only;omega,.inr Z,hB2,by simp only [List.length_append,List.length_cons,List.length_nil];omega,by simp only;rw [hS,qbJ hx,qbJ hx2,qha hfy hyo];simp⟩ | exact ⟨by simp only;omega,.inr Z,hB2,by simp only [List.length_append,List.length_cons,List.length_nil];omega,by simp only;rw [hS,qbJ hx,qfW (by simpa using h44) hwd];simp [qcI]⟩⟩,Oz⟩
 have hdr:im.drop k=[]:=List.drop_eq_nil_of_le O
 rw [hdr,qfO,List.append_nil] at hS
 refine Zl<|Zv<|Zv<|Zd<|Zt<|Zs<|Sr<|Jc Z Z Z (qqZ D _ _ _ _ Mo vo out hBV) ?_
 rintro _ _ s28 h28 ⟨rfl,rfl⟩
 refine qdP Z Z Z<|Nt<|?_
 refine qab Z (fun c29=>?_) (fun c29=>?_)
 ·
  have hbig:400000 < (qfO t im).length:=by rw [hS];omega
  refine Sr<|Jc Z Z Z (qbr D _ _ _ _) ?_
  rintro _ _ s30 h30 ⟨rfl,rfl⟩
  refine Zqa Z Z<|Wt 2 [_,_] Y9<|Nt<|Zo<|Zu<|?_
  refine rR (_::_::_::_::Mo) L (.tmp Z (.agg (us:=[_,_]) 2 Z Z Z Z Z (.nil))) Z (h1.t h2|>.t h3|>.t h4|>.t h9|>.t I10.1|>.t h28|>.t h30) fun _ hS2=>?_
  first
    | (rw [(qdn hbad).1,(qdn hbad).2];exact ⟨rfl,rfl⟩)
    | (rw [(qcH ht0 hlong).1,(qcH ht0 hlong).2];exact ⟨rfl,rfl⟩)
    | (rw [(qdv ht0 hlong hbig).1,(qdv ht0 hlong hbig).2];exact ⟨rfl,rfl⟩)
    | (rw [(qd2 ht0 hlong hbig).1,(qd2 ht0 hlong hbig).2,hS];exact ⟨rfl,rfl⟩)
 have hbig:¬ 400000 < (qfO t im).length:=by rw [hS];omega
 refine Zk<|Zt<|Sr<|Jc Z Z Z (qoQ D [_,_,_] L _ _ _ Mo vo out hBV) ?_
 rintro _ _ s31 h31 ⟨rfl,rfl⟩
 simp only [cQ9,nQ9]
 refine qae (qal [] [_,_] Z Z Z Z Z Z) Z<|Zqa Z Z<|Wt 1 [_,_] Y9<|Nt<|Zo<|?_
 refine rR [_,_,_] L (.tmp Z (.agg (us:=[_,_]) 1 Z Z Z Z Z (.nil))) Z (h1.t h2|>.t h3|>.t h4|>.t h9|>.t I10.1|>.t h28|>.t h31) fun _ hS2=>?_
 first
   | (rw [(qdn hbad).1,(qdn hbad).2];exact ⟨rfl,rfl⟩)
   | (rw [(qcH ht0 hlong).1,(qcH ht0 hlong).2];exact ⟨rfl,rfl⟩)
   | (rw [(qdv ht0 hlong hbig).1,(qdv ht0 hlong hbig).2];exact ⟨rfl,rfl⟩)
   | (rw [(qd2 ht0 hlong hbig).1,(qd2 ht0 hlong hbig).2,hS];exact ⟨rfl,rfl⟩)
end Go.Proofs.YtjindleklapakaaGreatDoor
namespace Go.Proofs.YtjindleklapakaaGreatDoor
open Go Go.FL Go.RowKit
def qub(c:UInt8):Int:=if (c.toNat:Int)≤57 then ((c.toNat:Int) - 48) % 256+27 else ((c.toNat:Int) - 97) % 256+1
def qge(k:Int)(c:UInt8):Int:=w32 (w32 (k * 37)+qub c)
def keyV(l:List UInt8):Int:=l.foldl qge 0
def qsm(l:List UInt8):Int:=if qaE l=true then keyV l else 0
def qpQ(l:List UInt8):Int×Int:=if qaE l=true then (0,0) else (7,-1)
theorem qtT(c:UInt8):Value.int .u32 (IntKind.u32.wrap (IntKind.u32.wrap (IntKind.u8.wrap ((c.toNat:Int) - 97))+1))=.int .u32 (((c.toNat:Int) - 97) % 256+1):=by
 rw [IntKind.wrap_u32,IntKind.wrap_u32,IntKind.wrap_u8];congr 1;omega
theorem qtP(c:UInt8):Value.int .u32 (IntKind.u32.wrap (IntKind.u32.wrap (IntKind.u8.wrap ((c.toNat:Int) - 48))+27))=.int .u32 (((c.toNat:Int) - 48) % 256+27):=by
 rw [IntKind.wrap_u32,IntKind.wrap_u32,IntKind.wrap_u8];congr 1;omega
theorem qmj{l:List UInt8}{k:Nat}{c:UInt8}(h:l[k]?=some c)(a:Int):(l.drop k).foldl qge a=(l.drop (k+1)).foldl qge (qge a c):=by
 obtain ⟨hk,rfl⟩:=List.getElem?_eq_some_iff.1 h
 rw [List.drop_eq_getElem_cons hk,List.foldl_cons]
def qpx(d:Nat):UInt8:=if d≤26 then UInt8.ofNat (97+(d - 1)) else UInt8.ofNat (48+(d - 27))
def nmF(n:Nat)(acc:List UInt8):Option (List UInt8):=if n=0 then some acc else if n % 37=0 then none else nmF (n / 37) (acc++[qpx (n % 37)])
termination_by n
decreasing_by omega
def qhW(n:Nat):List UInt8:=match nmF n [] with
 | none=>[]
 | some b=>if qaE b.reverse=true then b.reverse else []
def qhl(n:Nat):Int×Int:=match nmF n [] with
 | none=>(6,-1)
 | some b=>if qaE b.reverse=true then (0,0) else (6,-1)
theorem qf0(acc:List UInt8):nmF 0 acc=some acc:=by rw [nmF,if_pos rfl]
theorem qhF{n:Nat}{acc:List UInt8}(h:n≠0)(h2:n % 37=0):nmF n acc=none:=by rw [nmF,if_neg h,if_pos h2]
theorem qeU{n:Nat}{acc:List UInt8}(h:n≠0)(h2:n % 37≠0):nmF n acc=nmF (n / 37) (acc++[qpx (n % 37)]):=by rw [nmF,if_neg h,if_neg h2]
theorem qm3(n:Nat):Value.int .u32 ((n:Int).tmod 37)=.int .u32 ((n % 37:Nat):Int):=by rw [Int.tmod_eq_emod_of_nonneg O];rfl
theorem qjL{n:Nat}(h:n < 4294967296):Value.int .u32 (IntKind.u32.wrap ((n:Int).tdiv 37))=.int .u32 ((n / 37:Nat):Int):=by
 rw [Int.tdiv_eq_ediv_of_nonneg O,IntKind.wrap_u32];congr 1;omega
theorem qt6{d:Nat}(h0:d≠0)(h:d≤26):Value.int .u8 (IntKind.u8.wrap (97+IntKind.u8.wrap (IntKind.u32.wrap ((d:Int) - 1))))=.int .u8 ((qpx d).toNat:Int):=by
 rw [IntKind.wrap_u32,IntKind.wrap_u8,IntKind.wrap_u8,qpx,if_pos h];congr 1;simp;omega
theorem qt1{d:Nat}(h:¬ d≤26)(h2:d < 37):Value.int .u8 (IntKind.u8.wrap (48+IntKind.u8.wrap (IntKind.u32.wrap ((d:Int) - 27))))=.int .u8 ((qpx d).toNat:Int):=by
 rw [IntKind.wrap_u32,IntKind.wrap_u8,IntKind.wrap_u8,qpx,if_neg h];congr 1;simp;omega
def grp(w:Nat):List UInt8:=if w < 128 then [UInt8.ofNat w] else UInt8.ofNat (w % 128+128)::grp (w / 128)
termination_by w
decreasing_by omega
theorem qc6{w:Nat}(h:w < 128):grp w=[UInt8.ofNat w]:=by rw [grp,if_pos h]
theorem qg7{w:Nat}(h:¬ w < 128):grp w=UInt8.ofNat (w % 128+128)::grp (w / 128):=by rw [grp,if_neg h]
theorem qq9{w:Nat}(h:w < 4294967296):(grp w).length≤5:=by
 have key:∀ (k w:Nat),w < 128 ^ (k+1)→(grp w).length≤k+1:=by
  intro k
  induction k with
  | zero=>intro w h;rw [qc6 (by simpa using h)];simp
  | succ k ih=>
   intro w h
   by_cases h1:w < 128
   · rw [qc6 h1];simp
   · rw [qg7 h1,List.length_cons];have:=ih (w / 128) (by rw [Nat.pow_succ] at h;omega);omega
 exact key 4 w O
def qhn(l:List Int):List UInt8:=(l.map fun x=>grp x.toNat).flatten
def qiz(l:List Int):List UInt8:=if 65536 < l.length then [] else qhn l
def qhJ(l:List Int):Int×Int:=if 65536 < l.length then (3,-1) else (0,0)
def upG:Nat→Nat→List UInt8→Int ⊕ (Nat×Nat×UInt8×List UInt8)
 | _,_,[]=>.inl 15
 | sz,n,c::r=>if c.toNat < 128 then .inr (n+c.toNat % 128 * 128 ^ sz,sz+1,c,r) else if sz+1=5 then .inl 6 else upG (sz+1) (n+c.toNat % 128 * 128 ^ sz) r
theorem qmN{sz n:Nat}{b:List UInt8}{x:Nat×Nat×UInt8×List UInt8}(h:upG sz n b=.inr x):x.2.2.2.length < b.length:=by
  induction b generalizing sz n with
  | nil=>simp [upG] at h
  | cons c r ih=>
    simp only [upG] at h
    split at h
    · injection h with h;subst h;simp
    · split at h
      · cases h
      · have:=ih h;simp;omega
def upF(at_:Nat)(acc:List Int)(b:List UInt8):(Int×Int) ⊕ List Int:=
 if b=[] then .inr acc else match h:upG 0 0 b with
  | .inl e=>.inl (e,(at_:Int))
  | .inr x=>if 4294967295 < x.1∨(1 < x.2.1∧x.2.2.1=0) then .inl (6,(at_:Int)) else upF (at_+x.2.1) (acc++[(x.1:Int)]) x.2.2.2
termination_by b.length
decreasing_by exact qmN h
def qkV(b:List UInt8):(Int×Int) ⊕ List Int:=if 327680 < b.length then .inl (3,-1) else match upF 0 [] b with
 | .inl f=>.inl f
 | .inr l=>if 65536 < l.length then .inl (14,-1) else .inr l
def qr2(b:List UInt8):List Int:=match qkV b with
 | .inl _=>[]
 | .inr l=>l
def qnm(b:List UInt8):Int×Int:=match qkV b with
 | .inl f=>f
 | .inr _=>(0,0)
theorem qmf(k:Nat)(acc:List Int):upF k acc []=.inr acc:=by rw [upF,if_pos rfl]
theorem qcL{k:Nat}{acc:List Int}{b:List UInt8}{e:Int}(h0:b≠[])(h:upG 0 0 b=.inl e):upF k acc b=.inl (e,(k:Int)):=by
 rw [upF,if_neg h0];split
 · rename_i e' h';rw [h] at h';injection h' with h';rw [h']
 · rename_i x h';rw [h] at h';cases h'
theorem qep{k:Nat}{acc:List Int}{b:List UInt8}{x:Nat×Nat×UInt8×List UInt8}(h0:b≠[])(h:upG 0 0 b=.inr x)(hb:4294967295 < x.1∨(1 < x.2.1∧x.2.2.1=0)):upF k acc b=.inl (6,(k:Int)):=by
 rw [upF,if_neg h0];split
 · rename_i e' h';rw [h] at h';cases h'
 · rename_i y h';rw [h] at h';injection h' with h';subst h';rw [if_pos hb]
theorem qg6{k:Nat}{acc:List Int}{b:List UInt8}{x:Nat×Nat×UInt8×List UInt8}(h0:b≠[])(h:upG 0 0 b=.inr x)(hb:¬ (4294967295 < x.1∨(1 < x.2.1∧x.2.2.1=0))):upF k acc b=upF (k+x.2.1) (acc++[(x.1:Int)]) x.2.2.2:=by
 rw [upF,if_neg h0];split
 · rename_i e' h';rw [h] at h';cases h'
 · rename_i y h';rw [h] at h';injection h' with h';subst h';rw [if_neg hb]
section
variable{P:Program}{t:Nat}
theorem qt7:∀ k:Fin 256,k.val ||| 128=k.val % 128+128:=by decide +kernel
theorem qso:∀ k:Fin 256,k.val &&& 127=k.val % 128:=by decide +kernel
theorem qk9(w:Nat)(W:World):(binOp .or t (.int .u8 (IntKind.u8.wrap (w:Int))) (.int .u8 128)).run P W=.ok (.int .u8 ((UInt8.ofNat (w % 128+128)).toNat:Int)) W:=by
 have h3:Op.intBits .or .u8 (IntKind.u8.wrap (w:Int)) 128=pure (.int .u8 (IntKind.u8.wrap ((BitVec.ofInt 8 (IntKind.u8.wrap (w:Int)) ||| BitVec.ofInt 8 128).toNat:Int))):=rfl
 have h4:(BitVec.ofInt 8 (IntKind.u8.wrap (w:Int)) ||| BitVec.ofInt 8 128).toNat=w % 128+128:=by
  rw [BitVec.toNat_or,BitVec.toNat_ofInt,BitVec.toNat_ofInt,IntKind.wrap_u8]
  have e1:(((w:Int) % 256) % ((2 ^ 8:Nat):Int)).toNat=w % 256:=by omega
  have e2:((128:Int) % ((2 ^ 8:Nat):Int)).toNat=128:=by decide
  rw [e1,e2]
  have:=qt7 ⟨w % 256,by omega⟩
  simp only at this
  rw [this];omega
 simp only [binOp,h3,h4]
 show Result.ok _ _=_
 rw [IntKind.wrap_u8]
 congr 2
theorem qkn(c:UInt8)(W:World):(binOp .and t (.int .u8 (c.toNat:Int)) (.int .u8 127)).run P W=.ok (.int .u8 ((c.toNat % 128:Nat):Int)) W:=by
 have hc:=c.toNat_lt
 have h3:Op.intBits .and .u8 (c.toNat:Int) 127=pure (.int .u8 (IntKind.u8.wrap ((BitVec.ofInt 8 (c.toNat:Int) &&& BitVec.ofInt 8 127).toNat:Int))):=rfl
 have h4:(BitVec.ofInt 8 (c.toNat:Int) &&& BitVec.ofInt 8 127).toNat=c.toNat % 128:=by
  rw [BitVec.toNat_and,BitVec.toNat_ofInt,BitVec.toNat_ofInt]
  have e1:((c.toNat:Int) % ((2 ^ 8:Nat):Int)).toNat=c.toNat:=by omega
  have e2:((127:Int) % ((2 ^ 8:Nat):Int)).toNat=127:=by decide
  rw [e1,e2]
  exact qso ⟨c.toNat,by omega⟩
 simp only [binOp,h3,h4]
 show Result.ok _ _=_
 rw [IntKind.wrap_u8]
 congr 2
 omega
theorem qn9{w:Nat}(h:w < 4294967296)(W:World):(binOp .shr t (.int .u32 (w:Int)) (.int .u64 7)).run P W=.ok (.int .u32 ((w / 128:Nat):Int)) W:=by
 have h3:Op.shift .shr .u32 (w:Int) .u64 7=pure (.int .u32 ((w:Int).fdiv (2 ^ min 7 32))):=by
  unfold Op.shift
  rw [if_neg O]
  rfl
 simp only [binOp,h3]
 show Result.ok _ _=_
 congr 2
 rw [Int.fdiv_eq_ediv_of_nonneg _ Dc]
 rfl
theorem qmq{x k:Nat}(hx:x < 128)(hk:k < 5)(W:World):(binOp .shl t (.int .u64 (x:Int)) (.int .i64 (7 * (k:Int)))).run P W=.ok (.int .u64 ((x * 128 ^ k:Nat):Int)) W:=by
 have h3:Op.shift .shl .u64 (x:Int) .i64 (7 * (k:Int))=pure (.int .u64 (IntKind.u64.wrap ((x:Int) * 2 ^ min (7 * (k:Int)).toNat 64))):=by
  unfold Op.shift
  rw [if_neg O]
  rfl
 simp only [binOp,h3]
 show Result.ok _ _=_
 congr 2
 have e:min (7 * (k:Int)).toNat 64=7 * k:=by omega
 rw [e,show (2:Int) ^ (7 * k)=((128 ^ k:Nat):Int) by rw [Int.pow_mul];simp]
 have hb:128 ^ k≤128 ^ 4:=Nat.pow_le_pow_right O O
 have hb2:x * 128 ^ k≤127 * 128 ^ 4:=Nat.mul_le_mul O hb
 rw [← Int.natCast_mul]
 exact qkP O O
theorem qnC{a x k:Nat}(ha:a < 128 ^ k)(hx:x < 128)(hk:k < 5)(W:World):(binOp .or t (.int .u64 (a:Int)) (.int .u64 ((x * 128 ^ k:Nat):Int))).run P W=.ok (.int .u64 ((a+x * 128 ^ k:Nat):Int)) W:=by
 have hb:128 ^ k≤128 ^ 4:=Nat.pow_le_pow_right O O
 have hb2:x * 128 ^ k≤127 * 128 ^ 4:=Nat.mul_le_mul O hb
 have h3:Op.intBits .or .u64 (a:Int) ((x * 128 ^ k:Nat):Int)=pure (.int .u64 (IntKind.u64.wrap ((BitVec.ofInt 64 (a:Int) ||| BitVec.ofInt 64 ((x * 128 ^ k:Nat):Int)).toNat:Int))):=rfl
 have h4:(BitVec.ofInt 64 (a:Int) ||| BitVec.ofInt 64 ((x * 128 ^ k:Nat):Int)).toNat=a+x * 128 ^ k:=by
  rw [BitVec.toNat_or,BitVec.toNat_ofInt,BitVec.toNat_ofInt]
  have e1:((a:Int) % ((2 ^ 64:Nat):Int)).toNat=a:=by omega
  have e2:(((x * 128 ^ k:Nat):Int) % ((2 ^ 64:Nat):Int)).toNat=x * 128 ^ k:=by omega
  rw [e1,e2]
  have hp:(128:Nat) ^ k=2 ^ (7 * k):=by rw [Nat.pow_mul]
  have hs:=Nat.shiftLeft_add_eq_or_of_lt (show a < 2 ^ (7 * k) by rw [← hp];exact ha) x
  rw [Nat.shiftLeft_eq,← hp] at hs
  rw [Nat.or_comm,← hs,Nat.add_comm]
 simp only [binOp,h3,h4]
 show Result.ok _ _=_
 congr 2
 exact qkP O O
end
end Go.Proofs.YtjindleklapakaaGreatDoor
