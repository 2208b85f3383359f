/-
  What functions of the program compute, as plain Lean functions (m_..), and proofs that they compute it (c_..). Printed by a program of the author; no conditions.
-/
import Derived.Test.YtbmjpjhbankpoaaGreatQueryCheckBFloat
import Derived.Test.YtbmjpjhbankpoaaGreatProg
import Derived.Test.YtbmjpjhbankpoaaGreatQueryCheckF1
set_option linter.unusedVariables false
set_option maxRecDepth 100000
set_option maxHeartbeats 2000000
namespace Go.Proofs.YtbmjpjhbankpoaaGreat
open Go Go.RowKit
open Go.IntKind (i8 i16 i32 i64 u8 u16 u32 u64)
open Go.Proofs.Tryz

theorem Zoi:Y2 Tryz.prog 3 1 8:=⟨Tryz.t3,_,rfl,rfl,rfl,rfl,rfl⟩
def Zel (kk_L3:(List Int→(List Int)→Option (List Int))) (aa:List Int) (ab:List Int):Option (List Int):=
  kk_L3 aa ab
def Qb (N:Nat) (ad:List Int) (kk_L2:(List Int→(List Int)→(List Int)→Option (List Int))) (ae:(Int×List Int)):List Int→(List Int)→(List Int)→Option (List Int)
  | [],aa,ab=>kk_L2 aa ab (ad++[ae.1])
  | ac :: ag,aa,ab=>(Zv aa ac).bind fun ah=>(some (aa.set (Int.toNat ac) (i64.wrap (ah - 1)))).bind fun af=>(Zv af ac).bind fun ai=>if (decide (ai=0))=true then ((Zei N ab ac).bind fun aj=>Zel (Qb N ad kk_L2 ae ag) af aj) else (Zel (Qb N ad kk_L2 ae ag) af ab)
termination_by structural x=>x
def Ux (N:Nat) (ac:(List (List Int))):Nat→(List Int)→(List Int)→(List Int)→Option (List Int)
  | 0,_,_,_=>none
  | ae+1,af,ad,ab=>if (decide (0<(ad.length:Int)))=true then ((Zg6 N ad).bind fun aa=>Xb ((ab.length+[aa.1].length) * 8≤140737488355328∧ab.length+[aa.1].length≤maxLen) ((Zv ac aa.1).bind fun ag=>Qb N ab (Ux N ac ae) aa ag af aa.2)) else (some ab)
termination_by structural x=>x
def Zem (aa:Nat) (kk_L1:(Nat→(List Int)→(List Int)→Option (List Int))) (ab:List Int) (ac:List Int):Option (List Int):=
  kk_L1 (aa+1) ab ac
def Qa (N:Nat) (ad:(List (List Int))):List (List Int)→Nat→(List Int)→(List Int)→Option (List Int)
  | [],aa,ab,ac=>Ux N ad N ab ac ([]:List Int)
  | ae :: af,aa,ab,ac=>(Zv ab (aa:Int)).bind fun ai=>(some (ab.set (Int.toNat (aa:Int)) (ae.length:Int))).bind fun ag=>if (decide ((ae.length:Int)=0))=true then ((Zei N ac (aa:Int)).bind fun ah=>Zem aa (Qa N ad af) ag ah) else (Zem aa (Qa N ad af) ag ac)
termination_by structural x=>x
def Zek (N:Nat) (aa:(List (List Int))) (ab:(List (List Int))):Option (List Int):=
  Xb (aa.length * 8≤281474976710656∧aa.length≤maxLen) (Qa N ab aa 0 (List.replicate aa.length (0:Int)) ([]:List Int))
theorem Zud (N:Nat) (c1:Nat) (col:Zh) (w0:World) (a0:Option Addr) (b6:Nat) (ab:(List (List Int))) (a1:Option Addr) (a5:Nat) (af:(List (List Int))) (h0:Sl (Za.slice (Za.int .i64)) col w0 a0 b6 ab) (h1:Sl (Za.slice (Za.int .i64)) col w0 a1 a5 af) (r:List Int) (hm:Zek N ab af=some r):
    Calls Tryz.prog 202 #[.slice a0 ab.length b6,.slice a1 af.length a5] w0 (fun e w'=>∃ (col':Zh) (ra1:Option Addr) (rc2:Nat),e= .returned ((.slice ra1 r.length rc2))∧Zf col w0 col' w'∧Zl (Za.int .i64) 3 c1 col' w' ra1 rc2 r):=by
 refine Xv 4 (m:=66) func202 rfl rfl rfl rfl rfl ?_;rw [Zek.eq_1] at hm;have aa:=St.start col w0;refine Zb<|Zd<|Zu rfl<|Zc<|Zb<|Zd<|Zk rfl<|lV _ (Zs underlying24 rfl) ?_;obtain ⟨de,hm⟩:=Xd hm;refine Qr (col:=(Zo col)) (w:=w0) (r:=(Za.int .i64)) (n:=ab.length) (x0:=0) 1 rfl underlying40 Tryz.t3 rfl rfl rfl rfl rfl rfl rfl de.1 de.2 (X8 .i64 0) ?_;intro dm eq dn dp cy;refine Zu rfl<|Zc<|Zb<|Zd<|Zlw (col:=dn) (v:=(.slice none (([]:List Int).length) 0)) 2 rfl zeroValue244 ?_;intro ad dq df dg ae;replace ae:Zt 244 2 df dq ad #[.slice none (([]:List Int).length) 0]:=ae;refine Zc<|Zb<|Zb<|Zd<|Zk rfl<|lV _ (Zs underlying24 rfl)<|Zg rfl<|Zc<|Z0 ?_;replace aa:=(aa.grow dp).grow dg;replace cy:=cy.gr dg;refine Xi (fun n f bk=>∃ (av:Zh) (ai:Nat) (aw:Option Addr) (ax:Nat) (a6:List Int) (be:Option Addr) (bf:Nat) (a7:List Int) (bl:List (List Int)),n=bl.length∧ab.drop ai=bl∧Qa N af bl ai a6 a7=some r∧St w0 (Zo col) av bk∧Zl (Za.int .i64) 3 1 av bk aw ax a6∧Zl (Za.int .i64) 3 3 av bk be bf a7∧Zt 244 2 av bk ad #[.slice be a7.length bf]∧f 18=(.int .i64 ai)∧f 1=(.slice a1 af.length a5)∧f 16=(.slice a0 ab.length b6)∧f 17=(.int .i64 ab.length)∧f 5=(.slice aw a6.length ax)∧f 6=(.pointer (some ⟨ad,0,none⟩))∧f 1000000=(enc [])) ab.length ⟨df,0,dm,ab.length,(List.replicate ab.length (0:Int)),none,0,([]:List Int),ab,rfl,rfl,hm,aa,cy,Zl.nil,ae,rfl,rfl,rfl,rfl,rfl,rfl,rfl⟩ ?_;clear hm;intro n f bk hI;obtain ⟨av,ai,aw,ax,a6,be,bf,a7,bl,hn,hl,hm,aa,cz,bm,ae,c0,an,c3,c4,ao,ap,aq⟩:=hI;subst hn;refine .lD 18 c0<|.lD 1 an<|.lD 16 c3<|.lD 17 c4<|.lD 5 ao<|.lD 6 ap<|.lD 1000000 aq ?_;replace h0:=h0.keep (Zp.start col w0);replace h1:=h1.keep (Zp.start col w0)
 cases bl with
 | nil=>
  have hk:¬ ((ai:Int)<(ab.length:Int)):=by have:=List.drop_eq_nil_iff.1 hl;omega
  have hkb:=decide_eq_false hk;rw [Qa.eq_1] at hm;refine Zb<|Zd<|lV _ (Z4 _ _ rfl rfl)<|Zc<|Zb<|Wn (congrArg Value.bool hkb) ?_;refine Xl (Xk ?_);refine Zb<|Zd<|Zu rfl<|Zc<|Zb<|Z0<|Xi (fun n f bg=>∃ (ay:Zh) (b7:Option Addr) (b8:Nat) (bn:List Int) (b9:Option Addr) (ca:Nat) (bo:List Int) (cb:Option Addr) (cc:Nat) (ah:List Int) (ar:Nat),ar=n∧Ux N af ar bn bo ah=some r∧St w0 (Zo col) ay bg∧Zl (Za.int .i64) 3 1 ay bg b7 b8 bn∧Zl (Za.int .i64) 3 3 ay bg b9 ca bo∧Zt 244 2 ay bg ad #[.slice b9 bo.length ca]∧Zl (Za.int .i64) 3 4 ay bg cb cc ah∧f 1=(.slice a1 af.length a5)∧f 5=(.slice b7 bn.length b8)∧f 6=(.pointer (some ⟨ad,0,none⟩))∧f 9=(.slice cb ah.length cc)∧f 1000000=(enc [])) N ⟨av,aw,ax,a6,be,bf,a7,none,0,([]:List Int),N,rfl,hm,aa,cz,bm,ae,Zl.nil,rfl,rfl,rfl,rfl,rfl⟩ ?_;clear hm;intro n f bg hI;obtain ⟨ay,b7,b8,bn,b9,ca,bo,cb,cc,ah,ar,hn,hm,aa,c5,dr,ae,cd,an,ao,ap,bp,aq⟩:=hI;subst hn;refine .lD 1 an<|.lD 5 ao<|.lD 6 ap<|.lD 9 bp<|.lD 1000000 aq ?_
  cases ar with
  | zero=>rw [Ux.eq_1] at hm;cases hm
  | succ ar=>
   rw [Ux.eq_2] at hm;refine Zb<|Zb<|Zd<|lV _ (Zn isAgg244 rfl ae.at1)<|lV _ (Zs underlying244 rfl)<|lV _ (Wa _ _ rfl rfl)<|Zc ?_;refine Zy _ rfl (fun hb=>?_) (fun hb=>?_)
   ·rw [if_pos hb] at hm;refine Zr<|Z0<|Zb<|Zd ?_;obtain ⟨ac,ds,hm⟩:=bZ hm;refine lc rfl rfl (Z7 call267 rfl) (Zuc N ay _ 2 3 rfl ad bo b9 ca dr ae ac ds) ?_;rintro _ er ⟨dt,du,dv,rfl,c6,c7,aj⟩;refine ⟨_,rfl,?_⟩;refine Zj rfl<|Zc<|Zb<|Zd<|Zk rfl<|Zg rfl<|Wk (col:=dt) (r:=(Za.int .i64)) (xs:=[ac.1]) [.int .i64 ac.1] 5 rfl underlying40 Zoi rfl rfl rfl rfl rfl rfl (by intro v hv;simp only [List.mem_cons,List.not_mem_nil,or_false] at hv;subst hv;rfl) (Y6.ofF (Rows.consF (r:=(Za.int .i64)) (x:=ac.1) (cs:=[.int .i64 ac.1]) (X8 .i64 ac.1) Rows.nil0)) ?_;intro es dw dx bq dy;obtain ⟨dh,hm⟩:=Xd hm;replace cd:=(cd.kpp c6).gr bq;refine Wr (col:=dx) (w:=dw) (r:=(Za.int .i64)) (c:=4) (c2:=4) (xs:=ah) (ys:=[ac.1]) cd (dy.srcN (NB.int (k:=.i64))) rfl underlying40 Zoi rfl rfl rfl dh.1 dh.2 (by decide) ?_;intro br bs et dz ce ak;refine Zu rfl<|Zc<|Zb<|Zd<|Zk rfl<|Zg rfl ?_;obtain ⟨al,cf,hm⟩:=bZ hm;replace aa:=((aa.kpp c6).grow bq).kpp ce;refine lV _ (Zx underlying24 sizeOf40 rfl rfl (Zi cf).1 (Zi cf).2.1 ((h1.ks aa).addr cf)) ?_;obtain ⟨_,d0,d1⟩:=(h1.ks aa).atN cf;obtain ⟨⟨cg,ch,rfl,ag⟩,_⟩:=d0;refine lV _ (Zn isAgg40 rfl d1.one)<|lV _ (Zs underlying40 rfl)<|Zg rfl<|Zc<|Z0 ?_;replace c5:=((c5.kpp c6).gr bq).kpp ce;replace c7:=(c7.gr bq).kpp ce;replace aj:=(aj.gr bq).kpp ce;refine Xi (fun n f a8=>∃ (am:Zh) (a9:Nat) (az:Option Addr) (a2:Nat) (ba:List Int) (bh:Option Addr) (bi:Nat) (bb:List Int) (bt:List Int),n=bt.length∧al.drop a9=bt∧Qb N ah (Ux N af ar) ac bt ba bb=some r∧St w0 (Zo col) am a8∧Sl (Za.int .i64) am a8 cg ch al∧Zl (Za.int .i64) 3 1 am a8 az a2 ba∧Zl (Za.int .i64) 3 3 am a8 bh bi bb∧Zt 244 2 am a8 ad #[.slice bh bb.length bi]∧Zl (Za.int .i64) 3 4 am a8 br bs (ah++[ac.1])∧f 47=(.int .i64 a9)∧f 1=(.slice a1 af.length a5)∧f 45=(.slice cg al.length ch)∧f 46=(.int .i64 al.length)∧f 5=(.slice az ba.length a2)∧f 6=(.pointer (some ⟨ad,0,none⟩))∧f 9=(.slice br ((ah++[ac.1]).length) bs)∧f 1000000=(enc [])) al.length ⟨dz,0,b7,b8,bn,du,dv,ac.2,al,rfl,rfl,hm,aa,ag,c5,c7,aj,ak,rfl,rfl,rfl,rfl,rfl,rfl,rfl,rfl⟩ ?_;clear hm;intro n f a8 hI
    obtain ⟨am,a9,az,a2,ba,bh,bi,bb,bt,hn,hl,hm,aa,ag,bu,bv,aj,ak,c8,an,c9,da,ao,ap,bp,aq⟩:=hI;subst hn;refine .lD 47 c8<|.lD 1 an<|.lD 45 c9<|.lD 46 da<|.lD 5 ao<|.lD 6 ap<|.lD 9 bp<|.lD 1000000 aq ?_
    cases bt with
    | nil=>
     have hk:¬ ((a9:Int)<(al.length:Int)):=by have:=List.drop_eq_nil_iff.1 hl;omega
     have hkb:=decide_eq_false hk;rw [Qb.eq_1] at hm;refine Zb<|Zd<|lV _ (Z4 _ _ rfl rfl)<|Zc<|Zb<|Wn (congrArg Value.bool hkb) ?_;refine Xl (Xk ?_);exact ⟨ar,by omega,⟨am,az,a2,ba,bh,bi,bb,br,bs,(ah++[ac.1]),ar,rfl,hm,aa,bu,bv,aj,ak,rfl,rfl,rfl,rfl,rfl⟩⟩
    | cons di db=>
     obtain ⟨au,d2,d3⟩:=Wv hl;have hk:(a9:Int)<(al.length:Int):=by omega
     have hkb:=decide_eq_true hk;rw [Qb.eq_2] at hm;refine Zb<|Zd<|lV _ (Z4 _ _ rfl rfl)<|Zc<|Zb<|Wo (congrArg Value.bool hkb)<|Zr<|Zb ?_;refine Wp.cut (fun f bc=>∃ (a3:Zh) (ci:Option Addr) (cj:Nat) (bw:List Int) (ck:Option Addr) (cl:Nat) (bx:List Int),Zel (Qb N ah (Ux N af ar) ac db) bw bx=some r∧St w0 (Zo col) a3 bc∧Sl (Za.int .i64) a3 bc cg ch al∧Zl (Za.int .i64) 3 1 a3 bc ci cj bw∧Zl (Za.int .i64) 3 3 a3 bc ck cl bx∧Zt 244 2 a3 bc ad #[.slice ck bx.length cl]∧Zl (Za.int .i64) 3 4 a3 bc br bs (ah++[ac.1])∧f 1=(.slice a1 af.length a5)∧f 45=(.slice cg al.length ch)∧f 46=(.int .i64 al.length)∧f 47=(.int .i64 a9)∧f 5=(.slice ci bw.length cj)∧f 6=(.pointer (some ⟨ad,0,none⟩))∧f 9=(.slice br ((ah++[ac.1]).length) bs)∧f 1000000=(enc [])) ?_ ?_
     ·intro f bc hJ;obtain ⟨a3,ci,cj,bw,ck,cl,bx,hm,aa,ag,d4,d5,aj,ak,an,c9,da,c8,ao,ap,bp,aq⟩:=hJ;rw [Zel.eq_1] at hm;refine .lD 1 an<|.lD 45 c9<|.lD 46 da<|.lD 47 c8<|.lD 5 ao<|.lD 6 ap<|.lD 9 bp<|.lD 1000000 aq<|Zd<|lV _ (Z5 _ _ rfl rfl)<|Zg rfl<|Zc ?_;exact ⟨db.length,by simp,⟨a3,(a9+1),ci,cj,bw,ck,cl,bx,db,rfl,d2,hm,aa,ag,d4,d5,aj,ak,(congrArg (Value.int .i64) (Wy (Nat.lt_of_lt_of_le d3 ag.1.1))),rfl,rfl,rfl,rfl,rfl,rfl,rfl⟩⟩
     refine Z0<|Zb<|Zd ?_;refine lV _ (Zx underlying40 sizeOf3 rfl rfl (Zi au).1 (Zi au).2.1 (ag.addr au)) ?_;refine lV _ (Zn isAgg3 rfl (ag.atInt au))<|Zj rfl<|Zc<|Zb<|Zd<|Zk rfl<|Zg rfl ?_;obtain ⟨cm,a4,hm⟩:=bZ hm;refine lV _ (Zx underlying40 sizeOf3 rfl rfl (Zi a4).1 (Zi a4).2.1 (bu.addr a4)) ?_;refine lV _ (Zn isAgg3 rfl (bu.atInt a4))<|lV _ (Yb _ _ rfl rfl) ?_;refine lV _ (Zx underlying40 sizeOf3 rfl rfl (Zi a4).1 (Zi a4).2.1 (bu.addr a4)) ?_;obtain ⟨bz,cn,hm⟩:=bZ hm;have cn:bz=ba.set (Int.toNat di) (i64.wrap (cm - 1)):=(Option.some.inj cn).symm;refine Ww (x1:=i64.wrap (cm - 1)) (v:=(.int .i64 (i64.wrap (cm - 1)))) bu a4 rfl sizeOf3 (X8 .i64 (i64.wrap (cm - 1))) rfl rfl (by decide) ?_;intro eu b0 d6 bd;rw [← cn] at bd;refine .ld (d:=5) (v:=(.slice az bz.length a2)) (congrArg (fun n=>Value.slice az n a2) (show ba.length=bz.length by rw [cn,List.length_set])) ?_;refine Zc<|Zb<|Zd<|Zk rfl<|Zg rfl ?_;obtain ⟨ev,co,hm⟩:=bZ hm;refine lV _ (Zx underlying40 sizeOf3 rfl rfl (Zi co).1 (Zi co).2.1 (bd.addr co)) ?_;refine lV _ (Zn isAgg3 rfl (bd.atInt co))<|lV _ (Y9 _ _ rfl rfl)<|Zc ?_;replace ag:=ag.kp b0;replace bv:=bv.kp b0;replace ak:=ak.kp b0;replace aj:=aj.kp b0;replace aa:=aa.kp b0 d6;refine Zy _ rfl (fun hb=>?_) (fun hb=>?_)
     ·rw [if_pos hb] at hm;refine Zd<|Zg rfl ?_;obtain ⟨dj,d7,hm⟩:=bZ hm;refine lc rfl rfl (Xa call266 rfl rfl) (Zm4 N am _ 2 3 rfl ad bb bh bi di bv aj dj d7) ?_;rintro _ ew ⟨d8,d9,ea,rfl,cp,eb,ec⟩;refine ⟨_,rfl,?_⟩;refine Zc ?_;replace ag:=ag.kpp cp;replace bd:=bd.kpp cp;replace ak:=ak.kpp cp;replace aa:=aa.kpp cp;exact ⟨d8,az,a2,bz,d9,ea,dj,hm,aa,ag,bd,eb,ec,ak,rfl,rfl,rfl,rfl,rfl,rfl,rfl,rfl⟩
     rw [if_neg (Zz hb)] at hm;refine Zr ?_;exact ⟨am,az,a2,bz,bh,bi,bb,hm,aa,ag,bd,bv,aj,ak,rfl,rfl,rfl,rfl,rfl,rfl,rfl,rfl⟩
   rw [if_neg (Zz hb)] at hm;refine Xl (Xk ?_);refine Zb<|Zd<|Zk rfl<|Zu rfl<|Zc<|Zq ?_;cases hm;exact ⟨rfl,Xh w0.heap.size col ay (fun n=>bif Nat.beq n 4 then c1 else 0),cb,cc,rfl,aa.fin (fun n=>bif Nat.beq n 4 then c1 else 0),aa.finOwn (g:=(fun n=>bif Nat.beq n 4 then c1 else 0)) rfl cd (by decide) (by decide) rfl⟩
 | cons cq dc=>
  obtain ⟨au,ed,ee⟩:=Wv hl;have hk:(ai:Int)<(ab.length:Int):=by omega
  have hkb:=decide_eq_true hk;rw [Qa.eq_2] at hm;refine Zb<|Zd<|lV _ (Z4 _ _ rfl rfl)<|Zc<|Zb<|Wo (congrArg Value.bool hkb)<|Zr<|Zb ?_;refine Wp.cut (fun f b1=>∃ (bj:Zh) (cr:Option Addr) (ct:Nat) (b2:List Int) (cu:Option Addr) (cv:Nat) (b3:List Int),Zem ai (Qa N af dc) b2 b3=some r∧St w0 (Zo col) bj b1∧Zl (Za.int .i64) 3 1 bj b1 cr ct b2∧Zl (Za.int .i64) 3 3 bj b1 cu cv b3∧Zt 244 2 bj b1 ad #[.slice cu b3.length cv]∧f 1=(.slice a1 af.length a5)∧f 16=(.slice a0 ab.length b6)∧f 17=(.int .i64 ab.length)∧f 18=(.int .i64 ai)∧f 5=(.slice cr b2.length ct)∧f 6=(.pointer (some ⟨ad,0,none⟩))∧f 1000000=(enc [])) ?_ ?_
  ·intro f b1 hJ;obtain ⟨bj,cr,ct,b2,cu,cv,b3,hm,aa,ef,eg,ae,an,c3,c4,c0,ao,ap,aq⟩:=hJ;rw [Zem.eq_1] at hm;refine .lD 1 an<|.lD 16 c3<|.lD 17 c4<|.lD 18 c0<|.lD 5 ao<|.lD 6 ap<|.lD 1000000 aq<|Zd<|lV _ (Z5 _ _ rfl rfl)<|Zg rfl<|Zc ?_;exact ⟨dc.length,by simp,⟨bj,(ai+1),cr,ct,b2,cu,cv,b3,dc,rfl,ed,hm,aa,ef,eg,ae,(congrArg (Value.int .i64) (Wy (Nat.lt_of_lt_of_le ee (h0.ks aa).1.1))),rfl,rfl,rfl,rfl,rfl,rfl⟩⟩
  refine Z0<|Zb<|Zd<|Zg rfl ?_;refine lV _ (Zx underlying24 sizeOf40 rfl rfl (Zi au).1 (Zi au).2.1 ((h0.ks aa).addr au)) ?_;obtain ⟨_,eh,ei⟩:=(h0.ks aa).atN au;obtain ⟨⟨ex,ey,rfl,ez⟩,_⟩:=eh;refine lV _ (Zn isAgg40 rfl ei.one)<|Zj rfl<|Zu rfl<|Zc<|Zb<|Zd<|Zk rfl<|Zg rfl<|Zk rfl<|lV _ (Zs underlying40 rfl) ?_;obtain ⟨e0,cw,hm⟩:=bZ hm;refine lV _ (Zx underlying40 sizeOf3 rfl rfl (Zi cw).1 (Zi cw).2.1 (cz.addr cw)) ?_;obtain ⟨b4,cx,hm⟩:=bZ hm;have cx:b4=a6.set (Int.toNat (ai:Int)) (cq.length:Int):=(Option.some.inj cx).symm;refine Ww (x1:=(cq.length:Int)) (v:=(.int .i64 cq.length)) cz cw rfl sizeOf3 (X8 .i64 (cq.length:Int)) rfl rfl (by decide) ?_;intro e1 dd ej b5;rw [← cx] at b5;refine .ld (d:=5) (v:=(.slice aw b4.length ax)) (congrArg (fun n=>Value.slice aw n ax) (show a6.length=b4.length by rw [cx,List.length_set])) ?_;refine Zc<|Zb<|Zd<|Zk rfl<|lV _ (Zs underlying40 rfl)<|lV _ (Y9 _ _ rfl rfl)<|Zc ?_;replace bm:=bm.kp dd;replace ae:=ae.kp dd;replace aa:=aa.kp dd ej;refine Zy _ rfl (fun hb=>?_) (fun hb=>?_)
  ·rw [if_pos hb] at hm;refine Zd<|Zg rfl ?_;obtain ⟨dk,ek,hm⟩:=bZ hm;refine lc rfl rfl (Xa call266 rfl rfl) (Zm4 N av _ 2 3 rfl ad a7 be bf (ai:Int) bm ae dk ek) ?_;rintro _ e2 ⟨el,em,en,rfl,dl,eo,ep⟩;refine ⟨_,rfl,?_⟩;refine Zc ?_;replace b5:=b5.kpp dl;replace aa:=aa.kpp dl;exact ⟨el,aw,ax,b4,em,en,dk,hm,aa,b5,eo,ep,rfl,rfl,rfl,rfl,rfl,rfl,rfl⟩
  rw [if_neg (Zz hb)] at hm;refine Zr ?_;exact ⟨av,aw,ax,b4,be,bf,a7,hm,aa,b5,bm,ae,rfl,rfl,rfl,rfl,rfl,rfl,rfl⟩
def Qu (N:Nat) (aa:(List (List Int))):Option (List Int×Int):=
  (Zef aa).bind fun ab=>if (!decide (ab=0))=true then (some (([]:List Int),ab)) else ((Zee aa).bind fun ad=>(Zek N aa ad).bind fun ac=>if (decide ((ac.length:Int)<(aa.length:Int)))=true then (some (([]:List Int),42)) else (some (ac,0)))
theorem Zt9 (N:Nat) (c1:Nat) (col:Zh) (w0:World) (a0:Option Addr) (ac:Nat) (ab:(List (List Int))) (h0:Sl (Za.slice (Za.int .i64)) col w0 a0 ac ab) (r:(List Int×Int)) (hm:Qu N ab=some r):
    Calls Tryz.prog 89 #[.slice a0 ab.length ac] w0 (fun e w'=>∃ (col':Zh) (ra1:Option Addr) (rc2:Nat),e= .returned (.tuple #[.slice ra1 r.1.length rc2,.int .i64 r.2])∧Zf col w0 col' w'∧Zl (Za.int .i64) 3 c1 col' w' ra1 rc2 r.1):=by
 refine Zlj 2 3 (m:=21) (args:=[.slice a0 ab.length ac]) func89 rfl rfl rfl rfl rfl ?_;rw [Qu.eq_1] at hm;have aa:=St.start col w0;refine Zb<|Zd<|Zu rfl<|Zj rfl<|Zc<|Zb<|Zb<|Zd<|Zk rfl ?_;obtain ⟨aj,ak,hm⟩:=bZ hm;replace h0:=h0.keep (Zp.start col w0);refine lc rfl rfl (Z7 call201 rfl) (Zub (Zo col) _ a0 ac ab (h0.ks aa) aj ak) ?_;rintro _ al ⟨rfl,af⟩;refine ⟨_,rfl,?_⟩;replace af:Zf (Zo col) w0 (Zo col) al:=.of_below af;refine Zj rfl<|Zc<|Zb<|Zd<|Zg rfl<|lV _ (Yk _ _ rfl rfl)<|Zc ?_;replace aa:=aa.grow af;refine Zy _ rfl (fun hb=>?_) (fun hb=>?_)
 ·rw [if_pos hb] at hm;refine Zb<|Zd<|Zg rfl<|Zu rfl<|Zj rfl<|Zc<|Zq ?_;cases hm;exact ⟨rfl,Xh w0.heap.size col (Zo col) (fun n=>0),none,0,rfl,aa.fin (fun n=>0),Zl.nil⟩
 rw [if_neg (Zz hb)] at hm;refine Zr<|Zb<|Zd<|Zk rfl<|Zk rfl ?_;obtain ⟨ah,am,hm⟩:=bZ hm;refine lc rfl rfl (Z7 call203 rfl) (Zua 1 (Zo col) _ a0 ac ab (h0.ks aa) ah am) ?_;rintro _ an ⟨ad,ao,ap,rfl,aq,ar⟩;refine ⟨_,rfl,?_⟩;obtain ⟨au,av,hm⟩:=bZ hm;replace aa:=aa.grow aq;refine lc rfl rfl (Xa call202 rfl rfl) (Zud N 2 (Z3 1 ad) _ a0 ac ab ao ap ah ((h0.ks aa).froz 1) (ar.toSlF (Z2.row (Z2.int .i64))) au av) ?_;rintro _ az ⟨aw,ax,ay,rfl,ae,ag⟩;refine ⟨_,rfl,?_⟩;replace ag:=ag.thaw (Xz .i64) ae ((Fz.refl (col:=ad)).froz 1) (by decide);replace ae:=ae.thawR (col:=ad);generalize X1 an.heap.size ad aw=ai at *;refine Zu rfl<|Zc<|Zb<|Zb<|Zd<|Zk rfl<|lV _ (Zs underlying40 rfl)<|Zk rfl<|lV _ (Zs underlying24 rfl)<|lV _ (Z4 _ _ rfl rfl)<|Zc ?_;replace aa:=aa.grow ae;refine Zy _ rfl (fun hb=>?_) (fun hb=>?_)
 ·rw [if_pos hb] at hm;refine Zb<|Zd<|Zu rfl<|Zj rfl<|Zc<|Zq ?_;cases hm;exact ⟨rfl,Xh w0.heap.size col ai (fun n=>0),none,0,rfl,aa.fin (fun n=>0),Zl.nil⟩
 rw [if_neg (Zz hb)] at hm;refine Zr<|Zb<|Zd<|Zk rfl<|Zu rfl<|Zj rfl<|Zc<|Zq ?_;cases hm;exact ⟨rfl,Xh w0.heap.size col ai (fun n=>bif Nat.beq n 2 then c1 else 0),ax,ay,rfl,aa.fin (fun n=>bif Nat.beq n 2 then c1 else 0),aa.finOwn (g:=(fun n=>bif Nat.beq n 2 then c1 else 0)) rfl ag (by decide) (by decide) rfl⟩
def Qt (N:Nat) (aa:(List (List Int))):Option Int:=
  (Qu N aa).bind fun ab=>some ab.2
theorem Zt8 (N:Nat) (col:Zh) (w0:World) (a0:Option Addr) (ad:Nat) (ab:(List (List Int))) (h0:Sl (Za.slice (Za.int .i64)) col w0 a0 ad ab) (r:Int) (hm:Qt N ab=some r):
    Calls Tryz.prog 175 #[.slice a0 ab.length ad] w0 (fun e w'=>e= .returned ((.int .i64 r))∧Below w0.heap.size w0 w'):=by
 refine Xv 2 (m:=11) func175 rfl rfl rfl rfl rfl ?_;rw [Qt.eq_1] at hm;have ac:=St.start col w0;refine Zb<|Zd<|Zj rfl<|Zc<|Zb<|Zd<|Zk rfl ?_;obtain ⟨aa,ag,hm⟩:=bZ hm;replace h0:=h0.keep (Zp.start col w0);refine lc rfl rfl (Z7 call89 rfl) (Zt9 N 1 (Zo col) _ a0 ad ab (h0.ks ac) aa ag) ?_;rintro _ ai ⟨aj,ae,af,rfl,ah,ak⟩;refine ⟨_,rfl,?_⟩;refine lM (.tuple #[.slice ae aa.1.length af,.int .i64 aa.2])<|lV (.slice ae aa.1.length af) (Y4 rfl rfl)<|lV (.int .i64 aa.2) (Y4 rfl rfl)<|Zu rfl<|Zj rfl<|Zc<|Zb<|Zd<|Zg rfl<|Zj rfl<|Zc<|Zq ?_;cases hm;replace ac:=ac.grow ah;exact ⟨rfl,rfl,ac.below⟩
def Zfy (aa:Int) (kk_L2:(Int→Option Bool)) (ab:Bool):Option Bool:=
  if ab=true then (some false) else (kk_L2 (i64.wrap (aa+1)))
def Q8 (N:Nat) (aa:(List (List Int))) (ab:Int) (kk_L1:(Int→Option Bool)):Nat→Int→Option Bool
  | 0,_=>none
  | ad+1,ac=>(Zv aa ab).bind fun ae=>if (decide (ac<(ae.length:Int)))=true then ((Zv ae ac).bind fun af=>if (decide (af<0))=true then (Zfy ac (Q8 N aa ab kk_L1 ad) true) else (Zfy ac (Q8 N aa ab kk_L1 ad) (decide ((aa.length:Int)≤af)))) else (kk_L1 (i64.wrap (ab+1)))
termination_by structural x=>x
def Qj (N:Nat) (aa:(List (List Int))):Nat→Int→Option Bool
  | 0,_=>none
  | ac+1,ab=>if (decide (ab<(aa.length:Int)))=true then (Q8 N aa ab (Qj N aa ac) N 0) else (some true)
termination_by structural x=>x
def Zfx (N:Nat) (aa:(List (List Int))):Option Bool:=
  Qj N aa N 0
theorem Zve (N:Nat) (col:Zh) (w0:World) (a0:Option Addr) (ai:Nat) (ac:(List (List Int))) (h0:Sl (Za.slice (Za.int .i64)) col w0 a0 ai ac) (r:Bool) (hm:Zfx N ac=some r):
    Calls Tryz.prog 263 #[.slice a0 ac.length ai] w0 (fun e w'=>e= .returned ((.bool r))∧Below w0.heap.size w0 w'):=by
 refine Xv 2 (m:=36) func263 rfl rfl rfl rfl rfl ?_;rw [Zfx.eq_1] at hm;have aa:=St.start col w0;refine Zb<|Zd<|Xc rfl<|Zc<|Zb<|Zb<|Zd<|Zj rfl<|Zc<|Z0<|Xi (fun n f av=>∃ (ao:Zh) (ae:Int) (ad:Nat),ad=n∧Qj N ac ad ae=some r∧St w0 (Zo col) ao av∧f 0=(.slice a0 ac.length ai)∧f 3=(.int .i64 ae)∧f 1000000=(enc [])) N ⟨(Zo col),0,N,rfl,hm,aa,rfl,rfl,rfl⟩ ?_;clear hm;intro n f av hI;obtain ⟨ao,ae,ad,hn,hm,aa,aj,ak,al⟩:=hI;subst hn;refine .lD 0 aj<|.lD 3 ak<|.lD 1000000 al ?_;replace h0:=h0.keep (Zp.start col w0)
 cases ad with
 | zero=>rw [Qj.eq_1] at hm;cases hm
 | succ ad=>
  rw [Qj.eq_2] at hm;refine Zb<|Zb<|Zd<|Zg rfl<|Zk rfl<|lV _ (Zs underlying24 rfl)<|lV _ (Z4 _ _ rfl rfl)<|Zc ?_;refine Zy _ rfl (fun hb=>?_) (fun hb=>?_)
  ·rw [if_pos hb] at hm;refine Zr<|Zb<|Z0<|Zb<|Zd<|Zj rfl<|Zc<|Z0<|Xi (fun n f aw=>∃ (am:Zh) (ah:Int) (af:Nat),af=n∧Q8 N ac ae (Qj N ac ad) af ah=some r∧St w0 (Zo col) am aw∧f 0=(.slice a0 ac.length ai)∧f 3=(.int .i64 ae)∧f 4=(.int .i64 ah)∧f 1000000=(enc [])) N ⟨ao,0,N,rfl,hm,aa,rfl,rfl,rfl,rfl⟩ ?_;clear hm;intro n f aw hI;obtain ⟨am,ah,af,hn,hm,aa,aj,ak,ap,al⟩:=hI;subst hn;refine .lD 0 aj<|.lD 3 ak<|.lD 4 ap<|.lD 1000000 al ?_
   cases af with
   | zero=>rw [Q8.eq_1] at hm;cases hm
   | succ af=>
    rw [Q8.eq_2] at hm;refine Zb<|Zb<|Zd<|Zg rfl<|Zk rfl<|Zg rfl ?_;obtain ⟨a5,ag,hm⟩:=bZ hm;refine lV _ (Zx underlying24 sizeOf40 rfl rfl (Zi ag).1 (Zi ag).2.1 ((h0.ks aa).addr ag)) ?_;obtain ⟨_,az,a1⟩:=(h0.ks aa).atN ag;obtain ⟨⟨a6,a7,rfl,a8⟩,_⟩:=az;refine lV _ (Zn isAgg40 rfl a1.one)<|lV _ (Zs underlying40 rfl)<|lV _ (Z4 _ _ rfl rfl)<|Zc ?_;refine Zy _ rfl (fun hb=>?_) (fun hb=>?_)
    ·rw [if_pos hb] at hm;refine Zr<|Zb<|Z0<|Zb<|Zd<|Zk rfl<|Zg rfl ?_;refine lV _ (Zx underlying24 sizeOf40 rfl rfl (Zi ag).1 (Zi ag).2.1 ((h0.ks aa).addr ag)) ?_;obtain ⟨_,a2,a3⟩:=(h0.ks aa).atN ag;obtain ⟨⟨a9,ba,rfl,ax⟩,_⟩:=a2;refine lV _ (Zn isAgg40 rfl a3.one)<|Zg rfl ?_;obtain ⟨aq,an,hm⟩:=bZ hm;refine lV _ (Zx underlying40 sizeOf3 rfl rfl (Zi an).1 (Zi an).2.1 (ax.addr an)) ?_;refine lV _ (Zn isAgg3 rfl (ax.atInt an))<|Zj rfl<|Zc<|Zb ?_;refine Wp.cut (fun f ay=>∃ (ar:Zh) (au:Bool),Zfy ah (Q8 N ac ae (Qj N ac ad) af) au=some r∧St w0 (Zo col) ar ay∧f 0=(.slice a0 ac.length ai)∧f 3=(.int .i64 ae)∧f 35=(.bool au)∧f 4=(.int .i64 ah)∧f 1000000=(enc [])) ?_ ?_
     ·intro f ay hJ;obtain ⟨ar,au,hm,aa,aj,ak,a4,ap,al⟩:=hJ;rw [Zfy.eq_1] at hm;refine .lD 0 aj<|.lD 3 ak<|.lD 35 a4<|.lD 4 ap<|.lD 1000000 al ?_;refine Zy _ rfl (fun hb=>?_) (fun hb=>?_)
      ·rw [if_pos hb] at hm;refine Zb<|Zd<|Xc rfl<|Zc<|Zq ?_;cases hm;exact ⟨rfl,rfl,aa.below⟩
      rw [if_neg (Zz hb)] at hm;refine Zr<|Zd<|Zg rfl<|lV _ (Z5 _ _ rfl rfl)<|Zj rfl<|Zc ?_;exact ⟨af,by omega,⟨ar,(i64.wrap (ah+1)),af,rfl,hm,aa,rfl,rfl,rfl,rfl⟩⟩
     refine Zd<|Zg rfl<|lV _ (Z4 _ _ rfl rfl)<|Xf rfl ?_;by_cases ab:(decide (aq<0))=true
     ·rw [if_pos ab] at hm;refine lP 30 rfl (gq ab)<|lP 30 rfl (gq ab)<|lP 30 rfl (gq ab)<|lP 30 rfl (gq ab)<|lV (.bool true) (Xm (congrArg Value.bool ab) rfl)<|Zc ?_;exact ⟨am,true,hm,aa,rfl,rfl,rfl,rfl,rfl⟩
     rw [if_neg ab] at hm;replace ab:=Bool.eq_false_iff.2 ab;refine lG 30 rfl (gq ab)<|Zg rfl<|lG 30 rfl (gq ab)<|Zk rfl<|lG 30 rfl (gq ab)<|lV _ (Zs underlying24 rfl)<|lG 30 rfl (gq ab)<|lV _ (Uq _ _ rfl rfl)<|lV (.bool (decide ((ac.length:Int)≤aq))) (Xr (congrArg Value.bool ab) rfl)<|Zc ?_;exact ⟨am,(decide ((ac.length:Int)≤aq)),hm,aa,rfl,rfl,rfl,rfl,rfl⟩
    rw [if_neg (Zz hb)] at hm;refine Xl (Xk ?_);refine Zd<|Zg rfl<|lV _ (Z5 _ _ rfl rfl)<|Zj rfl<|Zc ?_;exact ⟨ad,by omega,⟨am,(i64.wrap (ae+1)),ad,rfl,hm,aa,rfl,rfl,rfl⟩⟩
  rw [if_neg (Zz hb)] at hm;refine Xl (Xk ?_);refine Zb<|Zd<|Xc rfl<|Zc<|Zq ?_;cases hm;exact ⟨rfl,rfl,aa.below⟩
def Zcz (N:Nat) (aa:List Int) (ac:Int):Nat→Int→Option Bool
  | 0,_=>none
  | ad+1,ab=>if (decide (ab<(aa.length:Int)))=true then ((Zv aa ab).bind fun ae=>if (decide (ae=ac))=true then (some true) else ((Zcz N aa ac ad) (i64.wrap (ab+1)))) else (some false)
termination_by structural x=>x
def Zcy (N:Nat) (aa:List Int) (ab:Int):Option Bool:=
  Zcz N aa ab N 0
theorem Zlf (N:Nat) (col:Zh) (w0:World) (a0:Option Addr) (ag:Nat) (ac:List Int) (ad:Int) (h0:Sl (Za.int .i64) col w0 a0 ag ac) (r:Bool) (hm:Zcy N ac ad=some r):
    Calls Tryz.prog 265 #[.slice a0 ac.length ag,.int .i64 ad] w0 (fun e w'=>e= .returned ((.bool r))∧Below w0.heap.size w0 w'):=by
 refine Xv 4 (m:=18) func265 rfl rfl rfl rfl rfl ?_;rw [Zcy.eq_1] at hm;have aa:=St.start col w0;refine Zb<|Zd<|Xc rfl<|Zc<|Zb<|Zb<|Zd<|Zj rfl<|Zc<|Z0<|Xi (fun n f ai=>∃ (ah:Zh) (ae:Int) (ab:Nat),ab=n∧Zcz N ac ad ab ae=some r∧St w0 (Zo col) ah ai∧f 0=(.slice a0 ac.length ag)∧f 1=(.int .i64 ad)∧f 5=(.int .i64 ae)∧f 1000000=(enc [])) N ⟨(Zo col),0,N,rfl,hm,aa,rfl,rfl,rfl,rfl⟩ ?_;clear hm;intro n f ai hI;obtain ⟨ah,ae,ab,hn,hm,aa,aj,ak,al,am⟩:=hI;subst hn;refine .lD 0 aj<|.lD 1 ak<|.lD 5 al<|.lD 1000000 am ?_;replace h0:=h0.keep (Zp.start col w0)
 cases ab with
 | zero=>rw [Zcz.eq_1] at hm;cases hm
 | succ ab=>
  rw [Zcz.eq_2] at hm;refine Zb<|Zb<|Zd<|Zg rfl<|Zk rfl<|lV _ (Zs underlying40 rfl)<|lV _ (Z4 _ _ rfl rfl)<|Zc ?_;refine Zy _ rfl (fun hb=>?_) (fun hb=>?_)
  ·rw [if_pos hb] at hm;refine Zr<|Zb<|Z0<|Zb<|Zd<|Zk rfl<|Zg rfl ?_;obtain ⟨an,af,hm⟩:=bZ hm;refine lV _ (Zx underlying40 sizeOf3 rfl rfl (Zi af).1 (Zi af).2.1 ((h0.ks aa).addr af)) ?_;refine lV _ (Zn isAgg3 rfl ((h0.ks aa).atInt af))<|Zg rfl<|lV _ (Y9 _ _ rfl rfl)<|Zc ?_;refine Zy _ rfl (fun hb=>?_) (fun hb=>?_)
   ·rw [if_pos hb] at hm;refine Zb<|Zd<|Xc rfl<|Zc<|Zq ?_;cases hm;exact ⟨rfl,rfl,aa.below⟩
   rw [if_neg (Zz hb)] at hm;refine Zr<|Zd<|Zg rfl<|lV _ (Z5 _ _ rfl rfl)<|Zj rfl<|Zc ?_;exact ⟨ab,by omega,⟨ah,(i64.wrap (ae+1)),ab,rfl,hm,aa,rfl,rfl,rfl,rfl⟩⟩
  rw [if_neg (Zz hb)] at hm;refine Xl (Xk ?_);refine Zb<|Zd<|Xc rfl<|Zc<|Zq ?_;cases hm;exact ⟨rfl,rfl,aa.below⟩
def Zc0 (N:Nat) (ad:(List (List Int))) (ac:Int) (kk_L1:(Int→Option Bool)):Nat→Int→Option Bool
  | 0,_=>none
  | ae+1,aa=>(Zv ad ac).bind fun ab=>if (decide (aa<(ab.length:Int)))=true then (Xb ((0:Int)≤aa∧aa≤(ab.length:Int)) ((Zv ab aa).bind fun af=>(Zcy N (ab.take (Int.toNat aa)) af).bind fun ag=>if ag=true then (some true) else ((Zc0 N ad ac kk_L1 ae) (i64.wrap (aa+1))))) else (kk_L1 (i64.wrap (ac+1)))
termination_by structural x=>x
def Zaa (N:Nat) (aa:(List (List Int))):Nat→Int→Option Bool
  | 0,_=>none
  | ac+1,ab=>if (decide (ab<(aa.length:Int)))=true then (Zc0 N aa ab (Zaa N aa ac) N 0) else (some false)
termination_by structural x=>x
def Zf1 (N:Nat) (aa:(List (List Int))):Option Bool:=
  Zaa N aa N 0
theorem Zvg (N:Nat) (col:Zh) (w0:World) (a0:Option Addr) (ai:Nat) (ae:(List (List Int))) (h0:Sl (Za.slice (Za.int .i64)) col w0 a0 ai ae) (r:Bool) (hm:Zf1 N ae=some r):
    Calls Tryz.prog 264 #[.slice a0 ae.length ai] w0 (fun e w'=>e= .returned ((.bool r))∧Below w0.heap.size w0 w'):=by
 refine Xv 2 (m:=34) func264 rfl rfl rfl rfl rfl ?_;rw [Zf1.eq_1] at hm;have aa:=St.start col w0;refine Zb<|Zd<|Xc rfl<|Zc<|Zb<|Zb<|Zd<|Zj rfl<|Zc<|Z0<|Xi (fun n f av=>∃ (am:Zh) (ah:Int) (af:Nat),af=n∧Zaa N ae af ah=some r∧St w0 (Zo col) am av∧f 0=(.slice a0 ae.length ai)∧f 3=(.int .i64 ah)∧f 1000000=(enc [])) N ⟨(Zo col),0,N,rfl,hm,aa,rfl,rfl,rfl⟩ ?_;clear hm;intro n f av hI;obtain ⟨am,ah,af,hn,hm,aa,an,ao,ap⟩:=hI;subst hn;refine .lD 0 an<|.lD 3 ao<|.lD 1000000 ap ?_;replace h0:=h0.keep (Zp.start col w0)
 cases af with
 | zero=>rw [Zaa.eq_1] at hm;cases hm
 | succ af=>
  rw [Zaa.eq_2] at hm;refine Zb<|Zb<|Zd<|Zg rfl<|Zk rfl<|lV _ (Zs underlying24 rfl)<|lV _ (Z4 _ _ rfl rfl)<|Zc ?_;refine Zy _ rfl (fun hb=>?_) (fun hb=>?_)
  ·rw [if_pos hb] at hm;refine Zr<|Zb<|Z0<|Zb<|Zd<|Zj rfl<|Zc<|Z0<|Xi (fun n f aq=>∃ (ab:Zh) (ad:Int) (ag:Nat),ag=n∧Zc0 N ae ah (Zaa N ae af) ag ad=some r∧St w0 (Zo col) ab aq∧f 0=(.slice a0 ae.length ai)∧f 3=(.int .i64 ah)∧f 4=(.int .i64 ad)∧f 1000000=(enc [])) N ⟨am,0,N,rfl,hm,aa,rfl,rfl,rfl,rfl⟩ ?_;clear hm;intro n f aq hI;obtain ⟨ab,ad,ag,hn,hm,aa,an,ao,az,ap⟩:=hI;subst hn;refine .lD 0 an<|.lD 3 ao<|.lD 4 az<|.lD 1000000 ap ?_
   cases ag with
   | zero=>rw [Zc0.eq_1] at hm;cases hm
   | succ ag=>
    rw [Zc0.eq_2] at hm;refine Zb<|Zb<|Zd<|Zg rfl<|Zk rfl<|Zg rfl ?_;obtain ⟨ar,ac,hm⟩:=bZ hm;refine lV _ (Zx underlying24 sizeOf40 rfl rfl (Zi ac).1 (Zi ac).2.1 ((h0.ks aa).addr ac)) ?_;obtain ⟨_,a1,a2⟩:=(h0.ks aa).atN ac;obtain ⟨⟨ba,bb,rfl,bc⟩,_⟩:=a1;refine lV _ (Zn isAgg40 rfl a2.one)<|lV _ (Zs underlying40 rfl)<|lV _ (Z4 _ _ rfl rfl)<|Zc ?_;refine Zy _ rfl (fun hb=>?_) (fun hb=>?_)
    ·rw [if_pos hb] at hm;refine Zr<|Zb<|Z0<|Zb<|W5 (col:=ab) (by kernel_rfl) (by kernel_rfl)<|qv rfl (fun _ hC=>Yr rfl) ?_;refine qv rfl (fun _ hC=>Xp rfl) ?_;refine qv rfl (fun _ hC=>Zx underlying24 sizeOf40 rfl rfl (Zi ac).1 (Zi ac).2.1 ((h0.ks aa).addr ac)) ?_;obtain ⟨_,a3,a4⟩:=(h0.ks aa).atN ac;obtain ⟨⟨aj,ak,rfl,aw⟩,_⟩:=a3;refine qv rfl (fun _ hC=>Zn isAgg40 rfl (a4.one.gr (hC.bl ab))) ?_;refine qv rfl (fun _ hC=>Xp rfl) ?_;obtain ⟨au,hm⟩:=Xd hm;refine qv (v:=.slice aj (Int.toNat ad) ak) rfl (fun _ hC=>Vk underlying40 sizeOf3 rfl rfl au.1 (by have:=aw.1.2;have:=au.2;omega)) ?_;refine .ld (d:=25) (v:=(.slice aj ((ar.take (Int.toNat ad)).length) ak)) (congrArg (fun n=>Value.slice aj n ak) (List.length_take_of_le (show (Int.toNat ad)≤ar.length by have:=au.2;omega)).symm) ?_;refine qv rfl (fun _ hC=>Yr rfl) ?_;refine qv rfl (fun _ hC=>Xp rfl) ?_;refine qv rfl (fun _ hC=>Zx underlying24 sizeOf40 rfl rfl (Zi ac).1 (Zi ac).2.1 ((h0.ks aa).addr ac)) ?_;obtain ⟨_,a5,a6⟩:=(h0.ks aa).atN ac;obtain ⟨⟨bd,be,rfl,ax⟩,_⟩:=a5;refine qv rfl (fun _ hC=>Zn isAgg40 rfl (a6.one.gr (hC.bl ab))) ?_;refine qv rfl (fun _ hC=>Xp rfl) ?_;obtain ⟨a7,al,hm⟩:=bZ hm;refine qv rfl (fun _ hC=>Zx underlying40 sizeOf3 rfl rfl (Zi al).1 (Zi al).2.1 (ax.addr al)) ?_;refine qv rfl (fun _ hC=>Zn isAgg3 rfl ((ax.gr (hC.bl ab)).atInt al)) ?_;obtain ⟨ay,a8,hm⟩:=bZ hm;refine qc (v:=(.bool ay)) rfl (fun _ hC=>⟨_,_,Xa call265 rfl rfl,(Zlf N ab _ aj ak (ar.take (Int.toNat ad)) a7 ((aw.take (Int.toNat ad)).gr (hC.bl ab)) ay a8).mono fun _ _ h=>⟨h.1,hC.trans (.of_below h.2)⟩⟩) ?_;refine Y1 ?_;intro a9 hC;replace hC:Zf ab aq ab a9:=.of_below hC.below;replace aa:=aa.grow hC;refine Zy _ rfl (fun hb=>?_) (fun hb=>?_)
     ·rw [if_pos hb] at hm;refine Zb<|Zd<|Xc rfl<|Zc<|Zq ?_;cases hm;exact ⟨rfl,rfl,aa.below⟩
     rw [if_neg (Zz hb)] at hm;refine Zr<|Zd<|Zg rfl<|lV _ (Z5 _ _ rfl rfl)<|Zj rfl<|Zc ?_;exact ⟨ag,by omega,⟨ab,(i64.wrap (ad+1)),ag,rfl,hm,aa,rfl,rfl,rfl,rfl⟩⟩
    rw [if_neg (Zz hb)] at hm;refine Xl (Xk ?_);refine Zd<|Zg rfl<|lV _ (Z5 _ _ rfl rfl)<|Zj rfl<|Zc ?_;exact ⟨af,by omega,⟨ab,(i64.wrap (ah+1)),af,rfl,hm,aa,rfl,rfl,rfl⟩⟩
  rw [if_neg (Zz hb)] at hm;refine Xl (Xk ?_);refine Zb<|Zd<|Xc rfl<|Zc<|Zq ?_;cases hm;exact ⟨rfl,rfl,aa.below⟩
theorem Zoh:Y2 Tryz.prog 3 1 8:=⟨Tryz.t3,_,rfl,rfl,rfl,rfl,rfl⟩
def Zfz (aa:Int) (kk_L2:(Int→Int→Option (List Int))) (ab:Int):Option (List Int):=
  kk_L2 ab (i64.wrap (aa+1))
def Zf0 (aa:Int) (kk_L3:(Bool→Int→Option (List Int))) (ab:Bool):Option (List Int):=
  kk_L3 ab (i64.wrap (aa+1))
def Q9 (N:Nat) (ac:(List (List Int))) (ad:List Int) (ae:Int) (aa:Int) (kk_L2:(Int→Int→Option (List Int))):Nat→Bool→Int→Option (List Int)
  | 0,_,_=>none
  | af+1,ag,ab=>(Zv ac aa).bind fun ah=>if (decide (ab<(ah.length:Int)))=true then (if ag=true then ((Zv ah ab).bind fun ai=>(Zcy N ad ai).bind fun aj=>Zf0 ab (Q9 N ac ad ae aa kk_L2 af) aj) else (Zf0 ab (Q9 N ac ad ae aa kk_L2 af) false)) else (if ag=true then (Zfz aa kk_L2 aa) else (Zfz aa kk_L2 ae))
termination_by structural x=>x
def Zbf (N:Nat) (ad:(List (List Int))) (aa:List Int) (kk_L1:(List Int→Option (List Int))) (ab:Int) (ac:Int) (kk_L2:(Int→Int→Option (List Int))) (ae:Bool):Option (List Int):=
  if ae=true then ((Zcy N aa ac).bind fun af=>Q9 N ad aa ab ac kk_L2 N (!af) 0) else (if (decide (ab<0))=true then (some aa) else (Xb ((aa.length+[ab].length) * 8≤140737488355328∧aa.length+[ab].length≤maxLen) (kk_L1 (aa++[ab]))))
def U4 (N:Nat) (aa:(List (List Int))) (ab:List Int) (kk_L1:(List Int→Option (List Int))):Nat→Int→Int→Option (List Int)
  | 0,_,_=>none
  | ae+1,ac,ad=>if (decide (ad<(aa.length:Int)))=true then (Zbf N aa ab kk_L1 ac ad (U4 N aa ab kk_L1 ae) (decide (ac<0))) else (Zbf N aa ab kk_L1 ac ad (U4 N aa ab kk_L1 ae) false)
termination_by structural x=>x
def Uo (N:Nat) (aa:(List (List Int))):Nat→(List Int)→Option (List Int)
  | 0,_=>none
  | ab+1,ac=>U4 N aa ac (Uo N aa ab) N (-1) 0
termination_by structural x=>x
def Sp (N:Nat) (aa:(List (List Int))):Option (List Int):=
  Uo N aa N ([]:List Int)
theorem Zvf (N:Nat) (c1:Nat) (col:Zh) (w0:World) (a0:Option Addr) (av:Nat) (ac:(List (List Int))) (h0:Sl (Za.slice (Za.int .i64)) col w0 a0 av ac) (r:List Int) (hm:Sp N ac=some r):
    Calls Tryz.prog 199 #[.slice a0 ac.length av] w0 (fun e w'=>∃ (col':Zh) (ra1:Option Addr) (rc2:Nat),e= .returned ((.slice ra1 r.length rc2))∧Zf col w0 col' w'∧Zl (Za.int .i64) 3 c1 col' w' ra1 rc2 r):=by
 refine Xv 2 (m:=52) func199 rfl rfl rfl rfl rfl ?_;rw [Sp.eq_1] at hm;have aa:=St.start col w0;refine Zb<|Zd<|Zu rfl<|Zc<|Zb<|Zd<|Zu rfl<|Zc<|Z0<|Xi (fun n f bc=>∃ (a1:Zh) (ag:Option Addr) (ah:Nat) (ab:List Int) (aj:Nat),aj=n∧Uo N ac aj ab=some r∧St w0 (Zo col) a1 bc∧Zl (Za.int .i64) 3 1 a1 bc ag ah ab∧f 0=(.slice a0 ac.length av)∧f 3=(.slice ag ab.length ah)∧f 1000000=(enc [])) N ⟨(Zo col),none,0,([]:List Int),N,rfl,hm,aa,Zl.nil,rfl,rfl,rfl⟩ ?_;clear hm;intro n f bc hI;obtain ⟨a1,ag,ah,ab,aj,hn,hm,aa,ad,ak,al,am⟩:=hI;subst hn;refine .lD 0 ak<|.lD 3 al<|.lD 1000000 am ?_;replace h0:=h0.keep (Zp.start col w0)
 cases aj with
 | zero=>rw [Uo.eq_1] at hm;cases hm
 | succ aj=>
  rw [Uo.eq_2] at hm;refine Z0<|Zb<|Zd<|Zj rfl<|Zc<|Zb<|Zb<|Zd<|Zj rfl<|Zc<|Z0<|Xi (fun n f bd=>∃ (az:Zh) (af:Int) (ai:Int) (an:Nat),an=n∧U4 N ac ab (Uo N ac aj) an af ai=some r∧St w0 (Zo col) az bd∧Zl (Za.int .i64) 3 1 az bd ag ah ab∧f 0=(.slice a0 ac.length av)∧f 3=(.slice ag ab.length ah)∧f 4=(.int .i64 af)∧f 5=(.int .i64 ai)∧f 1000000=(enc [])) N ⟨a1,(-1),0,N,rfl,hm,aa,ad,rfl,rfl,rfl,rfl,rfl⟩ ?_;clear hm;intro n f bd hI;obtain ⟨az,af,ai,an,hn,hm,aa,ad,ak,al,aq,ar,am⟩:=hI;subst hn;refine .lD 0 ak<|.lD 3 al<|.lD 4 aq<|.lD 5 ar<|.lD 1000000 am ?_
  cases an with
  | zero=>rw [U4.eq_1] at hm;cases hm
  | succ an=>
   rw [U4.eq_2] at hm;refine Zb<|Zb ?_;refine Wp.cut (fun f a2=>∃ (au:Zh) (be:Bool),Zbf N ac ab (Uo N ac aj) af ai (U4 N ac ab (Uo N ac aj) an) be=some r∧St w0 (Zo col) au a2∧Zl (Za.int .i64) 3 1 au a2 ag ah ab∧f 0=(.slice a0 ac.length av)∧f 15=(.bool be)∧f 3=(.slice ag ab.length ah)∧f 4=(.int .i64 af)∧f 5=(.int .i64 ai)∧f 1000000=(enc [])) ?_ ?_
   ·intro f a2 hJ;obtain ⟨au,be,hm,aa,ad,ak,bo,al,aq,ar,am⟩:=hJ;rw [Zbf.eq_1] at hm;refine .lD 0 ak<|.lD 15 bo<|.lD 3 al<|.lD 4 aq<|.lD 5 ar<|.lD 1000000 am ?_;refine Zy _ rfl (fun hb=>?_) (fun hb=>?_)
    ·rw [if_pos hb] at hm;refine Zr<|Zb ?_;refine Wp.cut (fun f bf=>∃ (a3:Zh) (a4:Int),Zfz ai (U4 N ac ab (Uo N ac aj) an) a4=some r∧St w0 (Zo col) a3 bf∧Zl (Za.int .i64) 3 1 a3 bf ag ah ab∧f 0=(.slice a0 ac.length av)∧f 3=(.slice ag ab.length ah)∧f 4=(.int .i64 a4)∧f 5=(.int .i64 ai)∧f 1000000=(enc [])) ?_ ?_
     ·intro f bf hJ;obtain ⟨a3,a4,hm,aa,ad,ak,al,aq,ar,am⟩:=hJ;rw [Zfz.eq_1] at hm;refine .lD 0 ak<|.lD 3 al<|.lD 4 aq<|.lD 5 ar<|.lD 1000000 am<|Zd<|Zg rfl<|lV _ (Z5 _ _ rfl rfl)<|Zj rfl<|Zc ?_;exact ⟨an,by omega,⟨a3,a4,(i64.wrap (ai+1)),an,rfl,hm,aa,ad,rfl,rfl,rfl,rfl,rfl⟩⟩
     refine Z0<|Zb<|Zd<|Zk rfl<|Zg rfl ?_;obtain ⟨bk,bp,hm⟩:=bZ hm;refine lc rfl rfl (Xa call265 rfl rfl) (Zlf N (Z3 1 au) _ ag ah ab ai (ad.toSlF (Z2.int .i64)) bk bp) ?_;rintro _ bq ⟨rfl,a5⟩;refine ⟨_,rfl,?_⟩;replace a5:Zf au a2 au bq:=.of_below a5;refine lV _ (V3 _ rfl)<|Xc rfl<|Zc<|Zb<|Zb<|Zd<|Zj rfl<|Zc<|Z0 ?_;replace ad:=ad.gr a5;replace aa:=aa.grow a5;refine Xi (fun n f a6=>∃ (ao:Zh) (a7:Bool) (ay:Int) (aw:Nat),aw=n∧Q9 N ac ab af ai (U4 N ac ab (Uo N ac aj) an) aw a7 ay=some r∧St w0 (Zo col) ao a6∧Zl (Za.int .i64) 3 1 ao a6 ag ah ab∧f 0=(.slice a0 ac.length av)∧f 3=(.slice ag ab.length ah)∧f 4=(.int .i64 af)∧f 5=(.int .i64 ai)∧f 6=(.bool a7)∧f 7=(.int .i64 ay)∧f 1000000=(enc [])) N ⟨au,(!bk),0,N,rfl,hm,aa,ad,rfl,rfl,rfl,rfl,rfl,rfl,rfl⟩ ?_;clear hm;intro n f a6 hI;obtain ⟨ao,a7,ay,aw,hn,hm,aa,ad,ak,al,aq,ar,bg,bh,am⟩:=hI;subst hn;refine .lD 0 ak<|.lD 3 al<|.lD 4 aq<|.lD 5 ar<|.lD 6 bg<|.lD 7 bh<|.lD 1000000 am ?_
     cases aw with
     | zero=>rw [Q9.eq_1] at hm;cases hm
     | succ aw=>
      rw [Q9.eq_2] at hm;refine Zb<|Zb<|Zd<|Zg rfl<|Zk rfl<|Zg rfl ?_;obtain ⟨b7,ax,hm⟩:=bZ hm;refine lV _ (Zx underlying24 sizeOf40 rfl rfl (Zi ax).1 (Zi ax).2.1 ((h0.ks aa).addr ax)) ?_;obtain ⟨_,br,bs⟩:=(h0.ks aa).atN ax;obtain ⟨⟨b8,b9,rfl,ca⟩,_⟩:=br;refine lV _ (Zn isAgg40 rfl bs.one)<|lV _ (Zs underlying40 rfl)<|lV _ (Z4 _ _ rfl rfl)<|Zc ?_;refine Zy _ rfl (fun hb=>?_) (fun hb=>?_)
      ·rw [if_pos hb] at hm;refine Zr<|Zb ?_;refine Wp.cut (fun f bi=>∃ (a8:Zh) (a9:Bool),Zf0 ay (Q9 N ac ab af ai (U4 N ac ab (Uo N ac aj) an) aw) a9=some r∧St w0 (Zo col) a8 bi∧Zl (Za.int .i64) 3 1 a8 bi ag ah ab∧f 0=(.slice a0 ac.length av)∧f 3=(.slice ag ab.length ah)∧f 4=(.int .i64 af)∧f 5=(.int .i64 ai)∧f 6=(.bool a9)∧f 7=(.int .i64 ay)∧f 1000000=(enc [])) ?_ ?_
       ·intro f bi hJ;obtain ⟨a8,a9,hm,aa,ad,ak,al,aq,ar,bg,bh,am⟩:=hJ;rw [Zf0.eq_1] at hm;refine .lD 0 ak<|.lD 3 al<|.lD 4 aq<|.lD 5 ar<|.lD 6 bg<|.lD 7 bh<|.lD 1000000 am<|Zd<|Zg rfl<|lV _ (Z5 _ _ rfl rfl)<|Zj rfl<|Zc ?_;exact ⟨aw,by omega,⟨a8,a9,(i64.wrap (ay+1)),aw,rfl,hm,aa,ad,rfl,rfl,rfl,rfl,rfl,rfl,rfl⟩⟩
       refine Z0<|Zd<|Xf rfl<|Xf rfl ?_;by_cases ae:a7=true
       ·rw [if_pos ae] at hm;refine lG 32 rfl (gq ae)<|Zk rfl<|lG 32 rfl (gq ae)<|Zk rfl<|lG 32 rfl (gq ae)<|Zg rfl<|lG 32 rfl (gq ae) ?_;refine lV _ (Zx underlying24 sizeOf40 rfl rfl (Zi ax).1 (Zi ax).2.1 ((h0.ks aa).addr ax)) ?_;refine lG 32 rfl (gq ae) ?_;obtain ⟨_,bt,bu⟩:=(h0.ks aa).atN ax;obtain ⟨⟨cb,cc,rfl,bl⟩,_⟩:=bt;refine lV _ (Zn isAgg40 rfl bu.one)<|lG 32 rfl (gq ae)<|Zg rfl<|lG 32 rfl (gq ae) ?_;obtain ⟨bv,ba,hm⟩:=bZ hm;refine lV _ (Zx underlying40 sizeOf3 rfl rfl (Zi ba).1 (Zi ba).2.1 (bl.addr ba)) ?_;refine lG 32 rfl (gq ae)<|lV _ (Zn isAgg3 rfl (bl.atInt ba))<|lG 32 rfl (gq ae) ?_;obtain ⟨bj,bw,hm⟩:=bZ hm;refine lc rfl rfl (Xa call265 rfl rfl) (Zlf N (Z3 1 ao) _ ag ah ab bv (ad.toSlF (Z2.int .i64)) bj bw) ?_;rintro _ bx ⟨rfl,bb⟩;refine ⟨_,rfl,?_⟩;replace bb:Zf ao a6 ao bx:=.of_below bb;refine lV (.bool bj) (Xm (congrArg Value.bool ae) rfl)<|Xc rfl<|Zc ?_;replace ad:=ad.gr bb;replace aa:=aa.grow bb;exact ⟨ao,bj,hm,aa,ad,rfl,rfl,rfl,rfl,rfl,rfl,rfl⟩
       rw [if_neg ae] at hm;replace ae:=Bool.eq_false_iff.2 ae;refine lP 32 rfl (gq ae)<|lP 32 rfl (gq ae)<|lP 32 rfl (gq ae)<|lP 32 rfl (gq ae)<|lP 32 rfl (gq ae)<|lP 32 rfl (gq ae)<|lP 32 rfl (gq ae)<|lP 32 rfl (gq ae)<|lP 32 rfl (gq ae)<|lV (.bool false) (Xr (congrArg Value.bool ae) rfl)<|Xc rfl<|Zc ?_;exact ⟨ao,false,hm,aa,ad,rfl,rfl,rfl,rfl,rfl,rfl,rfl⟩
      rw [if_neg (Zz hb)] at hm;refine Xl (Xk ?_);refine Zb<|Zd<|Xf rfl<|Zc ?_;refine Zy _ rfl (fun hb=>?_) (fun hb=>?_)
      ·rw [if_pos hb] at hm;refine Zd<|Zg rfl<|Zj rfl<|Zc ?_;exact ⟨ao,ai,hm,aa,ad,rfl,rfl,rfl,rfl,rfl⟩
      rw [if_neg (Zz hb)] at hm;refine Zr ?_;exact ⟨ao,af,hm,aa,ad,rfl,rfl,rfl,rfl,rfl⟩
    rw [if_neg (Zz hb)] at hm;refine Xl (Xk ?_);refine Zb<|Zb<|Zd<|Zg rfl<|lV _ (Z4 _ _ rfl rfl)<|Zc ?_;refine Zy _ rfl (fun hb=>?_) (fun hb=>?_)
    ·rw [if_pos hb] at hm;refine Zb<|Zd<|Zk rfl<|Zu rfl<|Zc<|Zq ?_;cases hm;exact ⟨rfl,Xh w0.heap.size col au (fun n=>bif Nat.beq n 1 then c1 else 0),ag,ah,rfl,aa.fin (fun n=>bif Nat.beq n 1 then c1 else 0),aa.finOwn (g:=(fun n=>bif Nat.beq n 1 then c1 else 0)) rfl ad (by decide) (by decide) rfl⟩
    rw [if_neg (Zz hb)] at hm;refine Zr<|Zd<|Zk rfl<|Zg rfl<|Wk (col:=au) (r:=(Za.int .i64)) (xs:=[af]) [.int .i64 af] 2 rfl underlying40 Zoh rfl rfl rfl rfl rfl rfl (by intro v hv;simp only [List.mem_cons,List.not_mem_nil,or_false] at hv;subst hv;rfl) (Y6.ofF (Rows.consF (r:=(Za.int .i64)) (x:=af) (cs:=[.int .i64 af]) (X8 .i64 af) Rows.nil0)) ?_;intro cd bz b0 bm b1;obtain ⟨bn,hm⟩:=Xd hm;replace ad:=ad.gr bm;refine Wr (col:=b0) (w:=bz) (r:=(Za.int .i64)) (c:=1) (c2:=1) (xs:=ab) (ys:=[af]) ad (b1.srcN (NB.int (k:=.i64))) rfl underlying40 Zoh rfl rfl rfl bn.1 bn.2 (by decide) ?_;intro b2 b3 ce b4 b5 b6;refine Zu rfl<|Zc ?_;replace aa:=(aa.grow bm).kpp b5;exact ⟨aj,by omega,⟨b4,b2,b3,(ab++[af]),aj,rfl,hm,aa,b6,rfl,rfl,rfl⟩⟩
   refine Zd<|Zg rfl<|Zk rfl<|lV _ (Zs underlying24 rfl)<|lV _ (Z4 _ _ rfl rfl)<|Xf rfl ?_;by_cases ap:(decide (ai<(ac.length:Int)))=true
   ·rw [if_pos ap] at hm;refine lG 12 rfl (gq ap)<|Zg rfl<|lG 12 rfl (gq ap)<|lV _ (Z4 _ _ rfl rfl)<|lV (.bool (decide (af<0))) (Xm (congrArg Value.bool ap) rfl)<|Zc ?_;exact ⟨az,(decide (af<0)),hm,aa,ad,rfl,rfl,rfl,rfl,rfl,rfl⟩
   rw [if_neg ap] at hm;replace ap:=Bool.eq_false_iff.2 ap;refine lP 12 rfl (gq ap)<|lP 12 rfl (gq ap)<|lV (.bool false) (Xr (congrArg Value.bool ap) rfl)<|Zc ?_;exact ⟨az,false,hm,aa,ad,rfl,rfl,rfl,rfl,rfl,rfl⟩
def So (N:Nat) (aa:(List (List Int))):Option Int:=
  (Zfx N aa).bind fun ab=>if (!ab)=true then (some 3) else ((Zf1 N aa).bind fun ac=>if ac=true then (some 40) else ((Sp N aa).bind fun ad=>if (decide ((ad.length:Int)<(aa.length:Int)))=true then (some 42) else (some 0)))
theorem Zvd (N:Nat) (col:Zh) (w0:World) (a0:Option Addr) (ac:Nat) (ab:(List (List Int))) (h0:Sl (Za.slice (Za.int .i64)) col w0 a0 ac ab) (r:Int) (hm:So N ab=some r):
    Calls Tryz.prog 193 #[.slice a0 ab.length ac] w0 (fun e w'=>e= .returned ((.int .i64 r))∧Below w0.heap.size w0 w'):=by
 refine Xv 2 (m:=18) func193 rfl rfl rfl rfl rfl ?_;rw [So.eq_1] at hm;have aa:=St.start col w0;refine Zb<|Zd<|Zj rfl<|Zc<|Zb<|Zd<|Zk rfl ?_;obtain ⟨ag,ah,hm⟩:=bZ hm;replace h0:=h0.keep (Zp.start col w0);refine lc rfl rfl (Z7 call263 rfl) (Zve N (Zo col) _ a0 ac ab (h0.ks aa) ag ah) ?_;rintro _ af ⟨rfl,ad⟩;refine ⟨_,rfl,?_⟩;replace ad:Zf (Zo col) w0 (Zo col) af:=.of_below ad;refine Xc rfl<|Zc<|Zb<|Zb<|Zd<|Xf rfl<|lV _ (V3 _ rfl)<|Zc ?_;replace aa:=aa.grow ad;refine Zy _ rfl (fun hb=>?_) (fun hb=>?_)
 ·rw [if_pos hb] at hm;refine Zb<|Zd<|Zj rfl<|Zc<|Zq ?_;cases hm;exact ⟨rfl,rfl,aa.below⟩
 rw [if_neg (Zz hb)] at hm;refine Zr<|Zb<|Zd<|Zk rfl ?_;obtain ⟨ai,aj,hm⟩:=bZ hm;refine lc rfl rfl (Z7 call264 rfl) (Zvg N (Zo col) _ a0 ac ab (h0.ks aa) ai aj) ?_;rintro _ ak ⟨rfl,ae⟩;refine ⟨_,rfl,?_⟩;replace ae:Zf (Zo col) af (Zo col) ak:=.of_below ae;refine Xc rfl<|Zc<|Zb<|Zb<|Zd<|Xf rfl<|Zc ?_;replace aa:=aa.grow ae;refine Zy _ rfl (fun hb=>?_) (fun hb=>?_)
 ·rw [if_pos hb] at hm;refine Zb<|Zd<|Zj rfl<|Zc<|Zq ?_;cases hm;exact ⟨rfl,rfl,aa.below⟩
 rw [if_neg (Zz hb)] at hm;refine Zr<|Zb<|Zb<|Zd<|Zk rfl ?_;obtain ⟨al,am,hm⟩:=bZ hm;refine lc rfl rfl (Z7 call199 rfl) (Zvf N 1 (Zo col) _ a0 ac ab (h0.ks aa) al am) ?_;rintro _ ao ⟨ap,aq,ar,rfl,an,au⟩;refine ⟨_,rfl,?_⟩;refine lV _ (Zs underlying40 rfl)<|Zk rfl<|lV _ (Zs underlying24 rfl)<|lV _ (Z4 _ _ rfl rfl)<|Zc ?_;replace aa:=aa.grow an;refine Zy _ rfl (fun hb=>?_) (fun hb=>?_)
 ·rw [if_pos hb] at hm;refine Zb<|Zd<|Zj rfl<|Zc<|Zq ?_;cases hm;exact ⟨rfl,rfl,aa.below⟩
 rw [if_neg (Zz hb)] at hm;refine Zr<|Zb<|Zd<|Zj rfl<|Zc<|Zq ?_;cases hm;exact ⟨rfl,rfl,aa.below⟩
theorem Zmw (N:Nat) (l:List Int) (x:Int) (hl:l.length≤1048576):∀ (n k:Nat),l.length<n+k→k≤l.length→Zcz N l x n (k:Int)=some (decide (x ∈ l.drop k))
 | 0,k,h,hk=>by omega
 | n+1,k,h,hk=>by
  rw [Zcz.eq_2]
  by_cases hlt:k<l.length
  ·rw [if_pos (by simpa using hlt),Xg hlt,Option.bind_some,wS (by omega),Zmw N l x hl n (k+1) (by omega) (by omega),List.drop_eq_getElem_cons hlt]
   by_cases he:l[k]=x
   ·rw [if_pos (by simpa using he),decide_eq_true (by rw [he];exact List.mem_cons_self)]
   ·rw [if_neg (by simpa using he)]
    exact congrArg some (decide_eq_decide.2 ⟨fun h=>List.mem_cons_of_mem _ h,fun h=>(List.mem_cons.1 h).resolve_left (Ne.symm he)⟩)
  ·rw [if_neg (by simpa using hlt),List.drop_eq_nil_of_le (by omega)];simp
theorem Zk3 {N:Nat} {l:List Int} {x:Int} (hl:l.length≤1048576) (hN:1048576<N):Zcy N l x=some (decide (x ∈ l)):=by
 rw [Zcy];simpa using Zmw N l x hl N 0 (by omega) (by omega)
def Uh (m:Int) (P:List (List Int)):Bool:=P.all fun l=>l.all fun p=>decide (0≤p∧p<m)
theorem Zpc (N:Nat) (P:List (List Int)) (i:Nat) (hi:i<P.length) (hP:P.length≤1048576) (hl:P[i].length≤1048576) (kk:Int→Option Bool):∀ (n k:Nat),P[i].length<n+k→k≤P[i].length→
  Q8 N P (i:Int) kk n (k:Int)=if (P[i].drop k).all (fun p=>decide (0≤p∧p<(P.length:Int))) then kk ((i+1:Nat):Int) else some false
 | 0,k,h,hk=>by omega
 | n+1,k,h,hk=>by
  rw [Q8.eq_2,Xg hi,Option.bind_some]
  by_cases hlt:k<P[i].length
  ·rw [if_pos (by simpa using hlt),Xg hlt,Option.bind_some,Zfy,Zfy,wS (by omega),Zpc N P i hi hP hl kk n (k+1) (by omega) (by omega),List.drop_eq_getElem_cons hlt]
   by_cases h1:P[i][k]<0
   ·rw [if_pos (by simpa using h1),if_pos rfl,if_neg (fun h=>by rw [List.all_cons,Bool.and_eq_true,decide_eq_true_eq] at h;omega)]
   ·rw [if_neg (by simpa using h1)]
    by_cases h2:(P.length:Int)≤P[i][k]
    ·rw [if_pos (by simpa using h2),if_neg (fun h=>by rw [List.all_cons,Bool.and_eq_true,decide_eq_true_eq] at h;omega)]
    ·rw [if_neg (by simpa using h2)]
     simp only [List.all_cons,Bool.and_eq_true]
     have h3:decide (0≤P[i][k]∧P[i][k]<(P.length:Int))=true:=by simp;omega
     simp only [h3,true_and]
  ·rw [if_neg (by simpa using hlt),List.drop_eq_nil_of_le (by omega),wS (by omega)];simp
theorem Zpb (N:Nat) (P:List (List Int)) (hP:P.length≤1048576) (hl:∀ l ∈ P,l.length≤1048576) (hN:1048576<N):∀ (n i:Nat),P.length<n+i→i≤P.length→
  Qj N P n (i:Int)=some (Uh P.length (P.drop i))
 | 0,i,h,hi=>by omega
 | n+1,i,h,hi=>by
  rw [Qj.eq_2]
  by_cases hlt:i<P.length
  ·have h0:=Zpc N P i hlt hP (hl _ (List.getElem_mem hlt)) (Qj N P n) N 0 (by have:=hl _ (List.getElem_mem hlt);omega) (by omega)
   rw [if_pos (by simpa using hlt)]
   rw [show (0:Int)=((0:Nat):Int) from rfl,h0,Zpb N P hP hl hN n (i+1) (by omega) (by omega),List.drop_eq_getElem_cons hlt]
   simp only [Uh,List.all_cons,List.drop_zero]
   by_cases h1:(P[i].all fun p=>decide (0≤p∧p<(P.length:Int)))=true
   ·rw [if_pos h1,h1,Bool.true_and]
   ·rw [if_neg h1,Bool.eq_false_iff.2 h1,Bool.false_and]
  ·rw [if_neg (by simpa using hlt),List.drop_eq_nil_of_le (by omega)];rfl
theorem Zw8 {N:Nat} {P:List (List Int)} (hP:P.length≤1048576) (hl:∀ l ∈ P,l.length≤1048576) (hN:1048576<N):Zfx N P=some (Uh P.length P):=by
 rw [Zfx];simpa using Zpb N P hP hl hN N 0 (by omega) (by omega)
def U3 (P:List (List Int)):Bool:=P.any fun l=>!decide l.Nodup
theorem Zqu (l:List Int) (k:Nat) (hk:k<l.length):(l.take (k+1)).Nodup↔(l.take k).Nodup∧l[k] ∉ l.take k:=by
 rw [List.take_succ_eq_append_getElem hk,List.nodup_append]
 simp only [List.nodup_cons,List.not_mem_nil,not_false_eq_true,List.nodup_nil,and_self,List.mem_singleton,true_and]
 constructor
 ·rintro ⟨h1,h2⟩;exact ⟨h1,fun h=>h2 _ h _ rfl rfl⟩
 ·rintro ⟨h1,h2⟩;exact ⟨h1,fun a ha b hb e=>h2 (by rw [← hb,← e];exact ha)⟩
theorem Ztq (N:Nat) (P:List (List Int)) (i:Nat) (hi:i<P.length) (hP:P.length≤1048576) (hl:P[i].length≤1048576) (hN:1048576<N) (kk:Int→Option Bool):∀ (n k:Nat),P[i].length<n+k→k≤P[i].length→(P[i].take k).Nodup→
  Zc0 N P (i:Int) kk n (k:Int)=if P[i].Nodup then kk ((i+1:Nat):Int) else some true
 | 0,k,h,hk,_=>by omega
 | n+1,k,h,hk,hnd=>by
  rw [Zc0.eq_2,Xg hi,Option.bind_some]
  by_cases hlt:k<P[i].length
  ·rw [if_pos (by simpa using hlt),Xj (by omega),Xg hlt,Option.bind_some,Zk3 (by simp;omega) hN,Option.bind_some,Int.toNat_natCast]
   by_cases h1:P[i][k] ∈ P[i].take k
   ·rw [if_pos (by simpa using h1),if_neg]
    intro h2
    exact ((Zqu _ k hlt).1 (h2.sublist (List.take_sublist _ _))).2 h1
   ·rw [if_neg (by simpa using h1),wS (by omega)]
    exact Ztq N P i hi hP hl hN kk n (k+1) (by omega) (by omega) ((Zqu _ k hlt).2 ⟨hnd,h1⟩)
  ·rw [if_neg (by simpa using hlt),wS (by omega)]
   rw [List.take_of_length_le (by omega)] at hnd
   rw [if_pos hnd]
theorem Ztp (N:Nat) (P:List (List Int)) (hP:P.length≤1048576) (hl:∀ l ∈ P,l.length≤1048576) (hN:1048576<N):∀ (n i:Nat),P.length<n+i→i≤P.length→
  Zaa N P n (i:Int)=some (U3 (P.drop i))
 | 0,i,h,hi=>by omega
 | n+1,i,h,hi=>by
  rw [Zaa.eq_2]
  by_cases hlt:i<P.length
  ·have h0:=Ztq N P i hlt hP (hl _ (List.getElem_mem hlt)) hN (Zaa N P n) N 0 (by have:=hl _ (List.getElem_mem hlt);omega) (by omega) (by simp)
   rw [if_pos (by simpa using hlt)]
   rw [show (0:Int)=((0:Nat):Int) from rfl,h0,Ztp N P hP hl hN n (i+1) (by omega) (by omega),List.drop_eq_getElem_cons hlt]
   simp only [U3,List.any_cons]
   by_cases h1:P[i].Nodup
   ·rw [if_pos h1];simp [h1]
   ·rw [if_neg h1];simp [h1]
  ·rw [if_neg (by simpa using hlt),List.drop_eq_nil_of_le (by omega)];rfl
theorem Zzx {N:Nat} {P:List (List Int)} (hP:P.length≤1048576) (hl:∀ l ∈ P,l.length≤1048576) (hN:1048576<N):Zf1 N P=some (U3 P):=by
 rw [Zf1];simpa using Ztp N P hP hl hN N 0 (by omega) (by omega)
def U2 (P:List (List Int)):Nat:=(P.map List.length).sum
theorem Zil (l:List Int) (P:List (List Int)):U2 (l :: P)=l.length+U2 P:=by simp [U2]
theorem Zkt {l:List Int}:∀ {P:List (List Int)},l ∈ P→l.length≤U2 P
 | x :: P,h=>by
  rw [Zil]
  rcases List.mem_cons.1 h with rfl | h
  ·omega
  ·have:=Zkt h;omega
def Zlo:Nat→List (List Int)→List (Int×Int)
 | _,[]=>[]
 | k,l :: P=>l.map (fun p=>(p,(k:Int)))++Zlo (k+1) P
theorem Zwh:∀ (k:Nat) (P:List (List Int)),(Zlo k P).length=U2 P
 | _,[]=>rfl
 | k,l :: P=>by rw [Zlo,List.length_append,List.length_map,Zwh,Zil]
def U6 (P:List (List Int)) (l:List Int) (i:Nat):Bool:=!decide ((i:Int) ∈ l)&&(P.getD i []).all fun p=>decide (p ∈ l)
def Vr (P:List (List Int)) (l:List Int) (i:Nat):Option Nat:=(List.range' i (P.length - i)).find? (U6 P l)
theorem Zx3 (P:List (List Int)) (l:List Int) (i:Nat) (h:P.length≤i):Vr P l i=none:=by
 rw [Vr,Nat.sub_eq_zero_of_le h];rfl
theorem Zx5 (P:List (List Int)) (l:List Int) (i:Nat) (h:i<P.length):Vr P l i=if U6 P l i then some i else Vr P l (i+1):=by
 rw [Vr,Vr,show P.length - i=(P.length - (i+1))+1 by omega,List.range'_succ,List.find?_cons]
 cases U6 P l i <;> simp
section
variable (N:Nat) (P:List (List Int)) (l:List Int)
theorem Zl5 (hP:P.length≤1048576) (hl:l.length≤1048576) (hN:1048576<N) (next:Int) (i:Nat) (hi:i<P.length) (hli:P[i].length≤1048576) (kk:Int→Int→Option (List Int)):∀ (n:Nat) (b:Bool) (k:Nat),P[i].length<n+k→k≤P[i].length→
  Q9 N P l next (i:Int) kk n b (k:Int)=kk (if (b&&(P[i].drop k).all fun p=>decide (p ∈ l))=true then (i:Int) else next) ((i+1:Nat):Int)
 | 0,b,k,h,hk=>by omega
 | n+1,b,k,h,hk=>by
  rw [Q9.eq_2,Xg hi,Option.bind_some]
  by_cases hlt:k<P[i].length
  ·rw [if_pos (by simpa using hlt),Xg hlt,Option.bind_some,Zk3 hl hN,Option.bind_some,Zf0,Zf0,wS (by omega),Zl5 hP hl hN next i hi hli kk n _ (k+1) (by omega) (by omega),Zl5 hP hl hN next i hi hli kk n _ (k+1) (by omega) (by omega),List.drop_eq_getElem_cons hlt,List.all_cons]
   cases b
   ·rw [if_neg (by decide),Bool.false_and,Bool.false_and]
   ·rw [if_pos rfl,Bool.true_and]
  ·rw [if_neg (by simpa using hlt),List.drop_eq_nil_of_le (by omega),Zfz,Zfz,wS (by omega),List.all_nil,Bool.and_true]
   cases b
   ·rw [if_neg (by decide),if_neg (by decide)]
   ·rw [if_pos rfl,if_pos rfl]
def Zrg (kk:List Int→Option (List Int)):Option Nat→Option (List Int)
 | none=>some l
 | some i=>kk (l++[(i:Int)])
theorem Zq2 (hl:l.length<1048576) (kk:List Int→Option (List Int)) (i:Nat) (i':Int) (kk2:Int→Int→Option (List Int)):Zbf N P l kk (i:Int) i' kk2 false=kk (l++[(i:Int)]):=by
 rw [Zbf,if_neg (by decide),if_neg (by rw [decide_eq_true_eq];omega),Xj (by simp only [List.length_cons,List.length_nil,maxLen];omega)]
theorem Zq1 (hP:P.length≤1048576) (hls:∀ x ∈ P,x.length≤1048576) (hl:l.length<1048576) (hN:1048576<N) (kk:List Int→Option (List Int)):∀ (n i:Nat),P.length<n+i→i≤P.length→
  U4 N P l kk n (-1) (i:Int)=Zrg l kk (Vr P l i)
 | 0,i,h,hi=>by omega
 | n+1,i,h,hi=>by
  rw [U4.eq_2]
  by_cases hlt:i<P.length
  ·have h3:=Zl5 N P l hP (by omega) hN (-1) i hlt (hls _ (List.getElem_mem hlt)) (U4 N P l kk n) N (!decide ((i:Int) ∈ l)) 0 (by have:=hls _ (List.getElem_mem hlt);omega) (by omega)
   rw [if_pos (by simpa using hlt),Zbf,if_pos (by decide),Zk3 (by omega) hN,Option.bind_some]
   rw [show (0:Int)=((0:Nat):Int) from rfl,h3,Zx5 P l i hlt,List.drop_zero]
   have hb:(!decide ((i:Int) ∈ l)&&P[i].all fun p=>decide (p ∈ l))=U6 P l i:=by
    rw [U6,List.getD_eq_getElem?_getD,List.getElem?_eq_getElem hlt];rfl
   rw [hb]
   by_cases hr:U6 P l i=true
   ·rw [if_pos hr,if_pos hr]
    match n,h with
    | 0,h=>omega
    | n+1,h=>
     rw [U4.eq_2]
     by_cases h2:i+1<P.length
     ·rw [if_pos (decide_eq_true (by omega)),show decide ((i:Int)<0)=false from decide_eq_false (by omega)]
      exact Zq2 N P l hl kk i _ _
     ·rw [if_neg (by rw [decide_eq_true_eq];omega)]
      exact Zq2 N P l hl kk i _ _
   ·rw [if_neg hr,if_neg hr]
    exact Zq1 hP hls hl hN kk n (i+1) (by omega) (by omega)
  ·rw [if_neg (by simpa using hlt),Zx3 P l i (by omega),Zbf,if_neg (by decide),if_pos (by decide)];rfl
end
theorem Zq3 {N:Nat} {P:List (List Int)} {l:List Int} (hP:P.length≤1048576) (hls:∀ x ∈ P,x.length≤1048576) (hl:l.length<1048576) (hN:1048576<N) (n:Nat):
  Uo N P (n+1) l=Zrg l (Uo N P n) (Vr P l 0):=by
 rw [Uo.eq_2]
 exact Zq1 N P l hP hls hl hN _ N 0 (by omega) (by omega)
theorem Zqs {P:List (List Int)} {l:List Int} {i j:Nat} (h:Vr P l i=some j):i≤j∧j<P.length∧U6 P l j=true∧∀ k,i≤k→k<j→U6 P l k=false:=by
 rw [Vr,List.find?_range'_eq_some] at h
 obtain ⟨h1,h2,h3⟩:=h
 rw [List.mem_range'] at h2
 obtain ⟨q,h4,h5⟩:=h2
 refine ⟨by omega,by omega,h1,fun k hk1 hk2=>?_⟩
 have:=h3 k hk1 hk2
 simpa using this
theorem Zx4 {P:List (List Int)} {l:List Int} {i:Nat} (h:Vr P l i=none):∀ k,i≤k→k<P.length→U6 P l k=false:=by
 rw [Vr,List.find?_eq_none] at h
 intro k hk1 hk2
 have:=h k (by rw [List.mem_range'];exact ⟨k - i,by omega,by omega⟩)
 simpa using this
theorem Zza {P:List (List Int)} {l:List Int} {i:Nat} (hi:i<P.length):U6 P l i=true↔(i:Int) ∉ l∧∀ p ∈ P[i],p ∈ l:=by
 rw [U6,List.getD_eq_getElem?_getD,List.getElem?_eq_getElem hi]
 simp
def Tb (P:List (List Int)) (l:List Int):Prop:=l.Nodup∧(∀ x ∈ l,0≤x∧x<(P.length:Int))∧∀ (i:Nat) (hi:i<P.length),(i:Int) ∈ l→∀ p ∈ P[i],p ∈ l
theorem Tb.len {P:List (List Int)} {l:List Int} (h:Tb P l):l.length≤P.length:=by
 have h1:=Zia (r:=(List.range P.length).map fun i:Nat=>(i:Int)) h.1 fun x hx=>by
  have:=h.2.1 x hx
  exact List.mem_map.2 ⟨x.toNat,List.mem_range.2 (by omega),by omega⟩
 simpa using h1
theorem Tb.step {P:List (List Int)} {l:List Int} {j:Nat} (h:Tb P l) (hn:Vr P l 0=some j):Tb P (l++[(j:Int)])∧l.length<P.length:=by
 obtain ⟨_,h2,h3,_⟩:=Zqs hn
 obtain ⟨h4,h5⟩:=(Zza h2).1 h3
 have h6:Tb P (l++[(j:Int)]):=by
  refine ⟨?_,?_,?_⟩
  ·rw [List.nodup_append]
   refine ⟨h.1,by simp,fun a ha b hb e=>?_⟩
   rw [List.mem_singleton] at hb;subst hb;subst e;exact h4 ha
  ·intro x hx
   rcases List.mem_append.1 hx with hx | hx
   ·exact h.2.1 x hx
   ·rw [List.mem_singleton] at hx;omega
  ·intro i hi hm p hp
   rcases List.mem_append.1 hm with hm | hm
   ·exact List.mem_append_left _ (h.2.2 i hi hm p hp)
   ·rw [List.mem_singleton] at hm
    have:i=j:=by omega
    subst this
    exact List.mem_append_left _ (h5 p hp)
 exact ⟨h6,by have:=h6.len;rw [List.length_append,List.length_cons,List.length_nil] at this;omega⟩
theorem Zq4 {N:Nat} {P:List (List Int)} (hP:P.length<1048576) (hls:∀ x ∈ P,x.length≤1048576) (hN:1048576<N):∀ (n:Nat) (l:List Int),Tb P l→P.length<n+l.length→
  ∃ r,Uo N P n l=some r∧Tb P r∧Vr P r 0=none
 | 0,l,h,hn=>by have:=h.len;omega
 | n+1,l,h,hn=>by
  have hl:=h.len
  rw [Zq3 (by omega) hls (by omega) hN]
  cases hnx:Vr P l 0 with
  | none=>exact ⟨l,rfl,h,hnx⟩
  | some j=>
   obtain ⟨h1,h2⟩:=h.step hnx
   exact Zq4 hP hls hN n _ h1 (by simp;omega)
theorem Zyd {N:Nat} {P:List (List Int)} (hP:P.length<1048576) (hls:∀ x ∈ P,x.length≤1048576) (hN:1048576<N):∃ r,Sp N P=some r∧Tb P r∧Vr P r 0=none:=by
 rw [Sp]
 exact Zq4 hP hls hN N [] ⟨.nil,by simp,by simp⟩ (by simp;omega)
def gD (h:List Int) (j:Nat):Int:=h.getD j 0
theorem Sg {h:List Int} {j:Nat} (hj:j<h.length):gD h j=h[j]:=by rw [gD,List.getD_eq_getElem?_getD,List.getElem?_eq_getElem hj];rfl
theorem S3 {h:List Int} {j:Nat} (hj:j<h.length):Zv h (j:Int)=some (gD h j):=by rw [Xg hj,Sg hj]
def U7 (h:List Int) (i p:Nat):List Int:=(h.set i (gD h p)).set p (gD h i)
theorem Zik (h:List Int) (i p:Nat):(U7 h i p).length=h.length:=by simp [U7]
theorem Ztf {h:List Int} {i p:Nat} (hi:i<h.length) (hp:p<h.length):(U7 h i p).Perm h:=by
 rw [U7,Sg hi,Sg hp];exact List.set_set_perm hi hp
theorem Zjd (h:List Int) (i j:Nat) (x:Int) (hi:i<h.length):gD (h.set i x) j=if j=i then x else gD h j:=by
 rw [gD,gD,List.getD_eq_getElem?_getD,List.getD_eq_getElem?_getD,List.getElem?_set]
 by_cases h1:i=j
 ·subst h1;rw [if_pos rfl,if_pos hi,if_pos rfl];rfl
 ·rw [if_neg h1,if_neg (Ne.symm h1)]
theorem Zat {h:List Int} {i p:Nat} (hi:i<h.length) (hp:p<h.length) (j:Nat):gD (U7 h i p) j=if j=p then gD h i else if j=i then gD h p else gD h j:=by
 rw [U7,Zjd _ _ _ _ (by simpa using hp),Zjd _ _ _ _ hi]
def Tk (h:List Int) (n:Nat):Prop:=∀ j,0<j→j<n→gD h ((j - 1) / 2)≤gD h j
theorem Tk.min {h:List Int} {n:Nat} (hh:Tk h n):∀ j,j<n→gD h 0≤gD h j:=by
 intro j
 induction j using Nat.strongRecOn with
 | ind j ih=>
  intro hj
  by_cases h0:j=0
  ·subst h0;exact Int.le_refl _
  ·exact Int.le_trans (ih ((j - 1) / 2) (by omega) (by omega)) (hh j (by omega) hj)
/-! ### push -/
def Ziu (h:List Int) (i:Nat):Prop:=(∀ j,0<j→j<h.length→j≠i→gD h ((j - 1) / 2)≤gD h j)∧∀ j,0<j→j<h.length→(j - 1) / 2=i→0<i→gD h ((i - 1) / 2)≤gD h j
theorem Ziu.step {h:List Int} {i:Nat} (hu:Ziu h i) (hi:i<h.length) (h0:0<i) (hlt:gD h i<gD h ((i - 1) / 2)):Ziu (U7 h i ((i - 1) / 2)) ((i - 1) / 2):=by
 have hp:(i - 1) / 2<h.length:=by omega
 refine ⟨fun j hj0 hj hjp=>?_,fun j hj0 hj hjp hp0=>?_⟩
 ·rw [Zik] at hj
  rw [Zat hi hp,Zat hi hp,if_neg hjp]
  by_cases hji:j=i
  ·subst hji;rw [if_pos rfl,if_pos rfl];omega
  ·rw [if_neg hji]
   have h1:=hu.1 j hj0 hj hji
   by_cases hq:(j - 1) / 2=(i - 1) / 2
   ·rw [if_pos hq];rw [hq] at h1;omega
   ·rw [if_neg hq]
    by_cases hq2:(j - 1) / 2=i
    ·rw [if_pos hq2];exact hu.2 j hj0 hj hq2 h0
    ·rw [if_neg hq2];exact h1
 ·rw [Zik] at hj
  rw [Zat hi hp,Zat hi hp,if_neg (by omega),if_neg (by omega),if_neg (by omega)]
  have h1:=hu.1 ((i - 1) / 2) hp0 hp (by omega)
  by_cases hji:j=i
  ·rw [if_pos hji];exact h1
  ·rw [if_neg hji]
   have h2:=hu.1 j hj0 hj hji
   rw [hjp] at h2;omega
theorem Zq8 {i:Nat} (h0:0<i) (h1:i≤9000000):i64.wrap (Int.tdiv (i64.wrap ((i:Int) - 1)) 2)=(((i - 1) / 2:Nat):Int):=by
 rw [Z6 (x:=(i:Int) - 1) (by omega),Int.tdiv_eq_ediv_of_nonneg (by omega),Z6 (by omega)];omega
theorem Zre (N:Nat):∀ (n:Nat) (h:List Int) (i:Nat),i<n→i<h.length→h.length≤9000000→Ziu h i→
  ∃ h',Qv N n h (i:Int)=some h'∧h'.Perm h∧Tk h' h'.length
 | 0,h,i,hn,_,_,_=>by omega
 | n+1,h,i,hn,hi,hl,hu=>by
  rw [Qv.eq_2]
  by_cases h0:0<i
  ·have hp:(i - 1) / 2<h.length:=by omega
   rw [if_pos (decide_eq_true (by omega)),S3 hi,Option.bind_some,Zq8 h0 (by omega),S3 hp,Option.bind_some,Zej,Zq8 h0 (by omega)]
   by_cases hlt:gD h i<gD h ((i - 1) / 2)
   ·obtain ⟨h',h1,h2,h3⟩:=Zre N n (U7 h i ((i - 1) / 2)) ((i - 1) / 2) (by omega) (by rw [Zik];exact hp) (by rw [Zik];exact hl) (hu.step hi h0 hlt)
    refine ⟨h',?_,h2.trans (Ztf hi hp),h3⟩
    rw [if_pos (decide_eq_true hlt),S3 hp,Option.bind_some,S3 hi,Option.bind_some,Option.bind_some,Int.toNat_natCast,Int.toNat_natCast,Xg (by simpa using hp),Option.bind_some,Option.bind_some]
    exact h1
   ·refine ⟨h,by rw [if_neg (by simpa using hlt)],.refl _,fun j hj0 hj=>?_⟩
    by_cases hji:j=i
    ·subst hji;omega
    ·exact hu.1 j hj0 hj hji
  ·have:i=0:=by omega
   subst this
   rw [if_neg (by decide),Zej,if_neg (by decide)]
   exact ⟨h,rfl,.refl _,fun j hj0 hj=>hu.1 j hj0 hj (by omega)⟩
theorem Zo6 {h:List Int} {x:Int} {j:Nat} (hj:j<h.length):gD (h++[x]) j=gD h j:=by
 rw [Sg hj,Sg (by simp;omega),List.getElem_append_left hj]
theorem Zrf {N:Nat} {h:List Int} (x:Int) (hl:h.length<2000000) (hh:Tk h h.length) (hN:2000000<N):∃ h',Zei N h x=some h'∧h'.Perm (x :: h)∧Tk h' h'.length:=by
 rw [Zei,Xj (by simp only [List.length_cons,List.length_nil,maxLen];omega)]
 have hle:(h++[x]).length=h.length+1:=by simp
 rw [Z6 (by omega),show (((h++[x]).length:Int) - 1)=((h.length:Nat):Int) by omega]
 obtain ⟨h',h1,h2,h3⟩:=Zre N N (h++[x]) h.length (by omega) (by omega) (by omega) ⟨fun j hj0 hj hji=>by rw [Zo6 (by omega),Zo6 (by omega)];exact hh j hj0 (by omega),fun j hj0 hj hji h0=>by omega⟩
 exact ⟨h',h1,h2.trans (List.perm_append_singleton x h),h3⟩
/-! ### pop -/
def Zgp (l:List Int) (n i:Nat):Prop:=(∀ j,0<j→j<n→(j - 1) / 2≠i→gD l ((j - 1) / 2)≤gD l j)∧∀ j,0<j→j<n→(j - 1) / 2=i→0<i→gD l ((i - 1) / 2)≤gD l j
theorem Zgp.step {l:List Int} {n i q:Nat} (hu:Zgp l n i) (hn:n≤l.length) (hi:i<n) (hq:q<n) (hqi:(q - 1) / 2=i) (hq0:0<q) (hlt:gD l q<gD l i) (hle:∀ j,0<j→j<n→(j - 1) / 2=i→gD l q≤gD l j):Zgp (U7 l i q) n q:=by
 have hi':i<l.length:=by omega
 have hq':q<l.length:=by omega
 refine ⟨fun j hj0 hj hjp=>?_,fun j hj0 hj hjp _=>?_⟩
 ·rw [Zat hi' hq',Zat hi' hq',if_neg hjp]
  by_cases h1:(j - 1) / 2=i
  ·rw [if_pos h1]
   by_cases h2:j=q
   ·rw [if_pos h2];omega
   ·rw [if_neg h2,if_neg (by omega)];exact hle j hj0 hj h1
  ·rw [if_neg h1,if_neg (show j≠q by omega)]
   by_cases h2:j=i
   ·subst h2
    rw [if_pos rfl];exact hu.2 q hq0 hq hqi hj0
   ·rw [if_neg h2];exact hu.1 j hj0 hj h1
 ·rw [Zat hi' hq',Zat hi' hq',hqi,if_neg (by omega),if_pos rfl,if_neg (by omega),if_neg (by omega)]
  have:=hu.1 j hj0 hj (by omega)
  rwa [hjp] at this
theorem Zzv {l:List Int} {n i q:Nat} (hn:n≤l.length) (hi:i<n) (hq:q<n):(U7 l i q).take n=U7 (l.take n) i q:=by
 have h1:∀ j,j<n→gD (l.take n) j=gD l j:=fun j hj=>by rw [Sg (by simp;omega),Sg (by omega),List.getElem_take]
 rw [U7,U7,List.take_set,List.take_set,h1 i hi,h1 q hq]
theorem Zrd (N:Nat) (p0:List Int) (x0:Int) (n:Nat) (hp0:p0.length=n+1) (hn:n≤2000000) (hN:2000000<N):∀ (m:Nat) (l:List Int) (i:Nat),n<m+i→(i<n∨n=0∧i=0)→l.length=n+1→Zgp l n i→
  ∃ t,Tr N p0 x0 m l (i:Int)=some (x0,t)∧t.Perm (l.take n)∧Tk t n
 | 0,l,i,hm,hi,hl,hu=>by omega
 | m+1,l,i,hm,hi,hl,hu=>by
  rw [Tr.eq_2]
  obtain ⟨N,rfl⟩:∃ N',N=N'+1+1+1:=⟨N - 3,by omega⟩
  have w1:i64.wrap ((p0.length:Int) - 1)=(n:Int):=by rw [Z6 (by omega)];omega
  have wa:i64.wrap (i64.wrap (2 * (i:Int))+1)=((2 * i+1:Nat):Int):=by rw [Z6 (x:=2 * (i:Int)) (by omega),Z6 (by omega)];omega
  have wb:i64.wrap (i64.wrap (2 * (i:Int))+2)=((2 * i+2:Nat):Int):=by rw [Z6 (x:=2 * (i:Int)) (by omega),Z6 (by omega)];omega
  -- one child after the other
  have stepv:∀ (v:Nat) (k least:Nat),v<2→k=2 * i+1+v→(least<n∨n=0)→least<l.length→∀ f kk,Ts (N+1+1+1) p0 x0 l (i:Int) kk (f+1) (v:Int) (least:Int)=
    Ts (N+1+1+1) p0 x0 l (i:Int) kk f ((v+1:Nat):Int) ((if k<n∧gD l k<gD l least then k else least:Nat):Int):=by
   intro v k least hv hk hle hll f kk
   rw [Ts.eq_2,if_pos (decide_eq_true (by omega)),wa,wb,w1]
   have hat:Zv [((2 * i+1:Nat):Int),((2 * i+2:Nat):Int)] (v:Int)=some (k:Int):=by
    rw [Uk]
    match v,hv with
    | 0,_=>simp [hk]
    | 1,_=>simp [hk];omega
   rw [hat,Option.bind_some]
   by_cases h1:k<n
   ·rw [if_pos (decide_eq_true (by omega)),S3 (by omega),Option.bind_some,S3 hll,Option.bind_some,Zeh,Zax,Zax,wS (by omega)]
    by_cases h2:gD l k<gD l least
    ·rw [if_pos (decide_eq_true h2),if_pos ⟨h1,h2⟩]
    ·rw [if_neg (by simpa using h2),if_neg (fun h=>h2 h.2)]
   ·rw [if_neg (by rw [decide_eq_true_eq];omega),Zeh,Zax,Zax,if_neg (by decide),wS (by omega),if_neg (fun h=>h1 h.1)]
  have hil:i<l.length:=by omega
  have e1:=stepv 0 (2 * i+1) i (by omega) (by omega) (by omega) hil (N+1+1) (Tr (N+1+1+1) p0 x0 m)
  generalize hq1:(if 2 * i+1<n∧gD l (2 * i+1)<gD l i then 2 * i+1 else i)=q1 at e1
  have hq1':(q1=i∧(2 * i+1<n→gD l i≤gD l (2 * i+1)))∨(q1=2 * i+1∧q1<n∧gD l q1<gD l i):=by
   by_cases hc:2 * i+1<n∧gD l (2 * i+1)<gD l i
   ·rw [if_pos hc] at hq1;subst hq1;exact .inr ⟨rfl,hc.1,hc.2⟩
   ·rw [if_neg hc] at hq1;subst hq1;exact .inl ⟨rfl,fun h=>by omega⟩
  have e2:=stepv 1 (2 * i+2) q1 (by omega) (by omega) (by omega) (by omega) (N+1) (Tr (N+1+1+1) p0 x0 m)
  generalize hq2:(if 2 * i+2<n∧gD l (2 * i+2)<gD l q1 then 2 * i+2 else q1)=q2 at e2
  have hq2':(q2=i∧(2 * i+1<n→gD l i≤gD l (2 * i+1))∧(2 * i+2<n→gD l i≤gD l (2 * i+2)))∨((q2=2 * i+1∨q2=2 * i+2)∧q2<n∧gD l q2<gD l i∧(2 * i+1<n→gD l q2≤gD l (2 * i+1))∧(2 * i+2<n→gD l q2≤gD l (2 * i+2))):=by
   by_cases hc:2 * i+2<n∧gD l (2 * i+2)<gD l q1
   ·rw [if_pos hc] at hq2;subst hq2
    rcases hq1' with ⟨rfl,h3⟩ | ⟨rfl,h3,h4⟩
    ·exact .inr ⟨.inr rfl,hc.1,hc.2,fun h=>by have:=h3 h;omega,fun _=>Int.le_refl _⟩
    ·exact .inr ⟨.inr rfl,hc.1,by omega,fun _=>by omega,fun _=>Int.le_refl _⟩
   ·rw [if_neg hc] at hq2;subst hq2
    rcases hq1' with ⟨rfl,h3⟩ | ⟨rfl,h3,h4⟩
    ·exact .inl ⟨rfl,h3,fun h=>by omega⟩
    ·exact .inr ⟨.inl rfl,h3,h4,fun _=>Int.le_refl _,fun h=>by omega⟩
  rw [show (0:Int)=((0:Nat):Int) from rfl,e1]
  rw [show ((0+1:Nat):Int)=((1:Nat):Int) from rfl,e2,Ts.eq_2,if_neg (by decide),w1,Int.toNat_natCast]
  rcases hq2' with ⟨rfl,h3,h4⟩ | ⟨h2,h3,h4,h5,h6⟩
  ·rw [if_pos (by simp)]
   refine ⟨_,rfl,.refl _,fun j hj0 hj=>?_⟩
   have ht:∀ k,k<n→gD (l.take n) k=gD l k:=fun k hk=>by rw [Sg (by simp;omega),Sg (by omega),List.getElem_take]
   rw [ht _ (by omega),ht _ hj]
   by_cases hq:(j - 1) / 2=q2
   ·rw [hq]
    rcases (show j=2 * q2+1∨j=2 * q2+2 by omega) with rfl | rfl
    ·exact h3 hj
    ·exact h4 hj
   ·exact hu.1 j hj0 hj hq
  ·have hq2l:q2<l.length:=by omega
   have hin:i<n:=by omega
   have hd:=hu.step (by omega) hin h3 (by omega) (by omega) h4 (fun j hj0 hj hji=>by
    rcases (show j=2 * i+1∨j=2 * i+2 by omega) with rfl | rfl
    ·exact h5 hj
    ·exact h6 hj)
   obtain ⟨t,k1,k2,k3⟩:=Zrd (N+1+1+1) p0 x0 n hp0 hn hN m (U7 l i q2) q2 (by omega) (.inl h3) (by rw [Zik];exact hl) hd
   refine ⟨t,?_,k2.trans ?_,k3⟩
   ·rw [if_neg (by simp;omega),S3 hq2l,Option.bind_some,S3 hil,Option.bind_some,Option.bind_some,Int.toNat_natCast,Int.toNat_natCast,Xg (by simpa using hq2l),Option.bind_some,Option.bind_some]
    exact k1
   ·rw [Zzv (by omega) hin h3];exact Ztf (by simp;omega) (by simp;omega)
theorem Zyf {N:Nat} {h:List Int} (hl:h.length≤2000000) (h0:0<h.length) (hh:Tk h h.length) (hN:2000000<N):∃ x t,Zg6 N h=some (x,t)∧h.Perm (x :: t)∧(∀ y ∈ h,x≤y)∧Tk t t.length:=by
 rw [Zg6]
 obtain ⟨n,hn⟩:∃ n,h.length=n+1:=⟨h.length - 1,by omega⟩
 have w1:i64.wrap ((h.length:Int) - 1)=(n:Int):=by rw [Z6 (by omega)];omega
 rw [w1,show (0:Int)=((0:Nat):Int) from rfl,S3 h0,Option.bind_some,S3 (by omega),Option.bind_some,Option.bind_some,Xj (by simp;omega),Int.toNat_natCast]
 have hd:Zgp (h.set 0 (gD h n)) n 0:=by
  refine ⟨fun j hj0 hj hji=>?_,fun j _ _ _ h=>by omega⟩
  rw [Zjd _ _ _ _ h0,Zjd _ _ _ _ h0,if_neg (by omega),if_neg (by omega)]
  exact hh j hj0 (by omega)
 obtain ⟨t,h1,h2,h3⟩:=Zrd N h (gD h 0) n hn (by omega) hN N (h.set 0 (gD h n)) 0 (by omega) (by omega) (by simpa using hn) hd
 have hpm:h.Perm (gD h 0 :: (h.set 0 (gD h n)).take n):=by
  match h,hn with
  | x :: r,hn=>
   have hr:r.length=n:=by simpa using hn
   match n,hr with
   | 0,hr=>rw [List.length_eq_zero_iff.1 hr];exact .refl _
   | n+1,hr=>
    have e:gD (x :: r) (n+1)=gD r n:=rfl
    rw [e,List.set_cons_zero,List.take_succ_cons]
    refine List.Perm.cons x ?_
    have:r=r.take n++[gD r n]:=by
     have:=List.take_succ_eq_append_getElem (show n<r.length by omega)
     rw [List.take_of_length_le (by omega)] at this
     rw [Sg (by omega)];exact this
    conv=>lhs;rw [this]
    exact List.perm_append_singleton _ _
 have hp2:h.Perm (gD h 0 :: t):=hpm.trans (List.Perm.cons _ h2.symm)
 refine ⟨gD h 0,t,h1,hp2,fun y hy=>?_,?_⟩
 ·obtain ⟨j,hj,rfl⟩:=List.getElem_of_mem hy
  rw [← Sg hj];exact hh.min j hj
 ·have:=hp2.length_eq
  rw [List.length_cons,hn] at this
  rw [show t.length=n by omega];exact h3
theorem Wx {α:Type} {l:List α} {d:α} {j:Nat} (hj:j<l.length):l.getD j d=l[j]:=by rw [List.getD_eq_getElem?_getD,List.getElem?_eq_getElem hj];rfl
theorem Zgt {α:Type} {l:List α} (d:α) {j:Nat} (hj:j<l.length):Zv l (j:Int)=some (l.getD j d):=by rw [Xg hj,Wx hj]
theorem S5 {α:Type} (l:List α) (d:α) (i j:Nat) (x:α) (hi:i<l.length):(l.set i x).getD j d=if j=i then x else l.getD j d:=by
 rw [List.getD_eq_getElem?_getD,List.getD_eq_getElem?_getD,List.getElem?_set]
 by_cases h1:i=j
 ·subst h1;rw [if_pos rfl,if_pos hi,if_pos rfl];rfl
 ·rw [if_neg h1,if_neg (Ne.symm h1)]
def V7:Nat→List (List Int)→Int→List Int
 | _,[],_=>[]
 | k,l :: P,p=>List.replicate (l.count p) (k:Int)++V7 (k+1) P p
def Zio (n:Nat) (l:List Int):Prop:=∀ x ∈ l,0≤x∧x<(n:Int)
theorem Znx (k:Nat) (kk:Nat→List (List Int)→Option (List (List Int))):∀ (l:List Int) (out:List (List Int)),Zio out.length l→(∀ p:Nat,(out.getD p []).length+l.length≤1048576)→
  ∃ out',Zav k kk l out=kk (k+1) out'∧out'.length=out.length∧∀ p:Nat,p<out.length→out'.getD p []=out.getD p []++List.replicate (l.count (p:Int)) (k:Int)
 | [],out,h,hb=>⟨out,by rw [Zav.eq_1],rfl,fun p hp=>by simp⟩
 | x :: l,out,h,hb=>by
  obtain ⟨h0,h1⟩:=h x List.mem_cons_self
  obtain ⟨q,rfl⟩:=Int.eq_ofNat_of_zero_le h0
  have hq:q<out.length:=by omega
  have hbq:=hb q
  simp only [List.length_cons] at hbq hb
  rw [Zav.eq_2,Zgt [] hq,Option.bind_some,Xj (by simp only [List.length_cons,List.length_nil,maxLen];omega),Int.toNat_natCast]
  obtain ⟨out',h2,h3,h4⟩:=Znx k kk l (out.set q (out.getD q []++[(k:Int)])) (by rw [List.length_set];exact fun y hy=>h y (List.mem_cons_of_mem _ hy)) (fun p=>by
   rw [S5 _ _ _ _ _ hq]
   have:=hb p
   split
   ·simp only [List.length_append,List.length_cons,List.length_nil];omega
   ·omega)
  refine ⟨out',h2,by rw [h3,List.length_set],fun p hp=>?_⟩
  rw [h4 p (by rw [List.length_set];exact hp),S5 _ _ _ _ _ hq,List.count_cons]
  by_cases hpq:p=q
  ·subst hpq
   rw [if_pos rfl,if_pos (by simp),List.append_assoc,show l.count (p:Int)+1=1+l.count (p:Int) by omega,show [(k:Int)]=List.replicate 1 (k:Int) from rfl,List.replicate_append_replicate]
  ·rw [if_neg hpq,if_neg (by simp;omega),Nat.add_zero]
theorem Zpi (p:Int):∀ (k:Nat) (P:List (List Int)),(V7 k P p).length≤U2 P
 | _,[]=>by simp [V7]
 | k,l :: P=>by
  rw [V7,List.length_append,List.length_replicate,Zil]
  have:=Zpi p (k+1) P
  have:=List.count_le_length (a:=p) (l:=l)
  omega
theorem Znw (n:Nat):∀ (P:List (List Int)) (k:Nat) (out:List (List Int)),out.length=n→(∀ l ∈ P,Zio n l)→(∀ p:Nat,(out.getD p []).length+U2 P≤1048576)→
  ∃ out',S6 P k out=some out'∧out'.length=n∧∀ p:Nat,p<n→out'.getD p []=out.getD p []++V7 k P p
 | [],k,out,hn,_,_=>⟨out,by rw [S6.eq_1],hn,fun p hp=>by simp [V7]⟩
 | l :: P,k,out,hn,h,hb=>by
  simp only [Zil] at hb
  rw [S6.eq_2]
  obtain ⟨out1,h1,h2,h3⟩:=Znx k (S6 P) l out (by rw [hn];exact h l List.mem_cons_self) (fun p=>by have:=hb p;omega)
  obtain ⟨out',h4,h5,h6⟩:=Znw n P (k+1) out1 (by omega) (fun x hx=>h x (List.mem_cons_of_mem _ hx)) (fun p=>by
   have:=hb p
   by_cases hp:p<out.length
   ·rw [h3 p hp,List.length_append,List.length_replicate]
    have:=List.count_le_length (a:=(p:Int)) (l:=l)
    omega
   ·rw [List.getD_eq_getElem?_getD,List.getElem?_eq_none (by omega)];simp;omega)
  refine ⟨out',by rw [h1,h4],h5,fun p hp=>?_⟩
  rw [h6 p hp,h3 p (by omega),List.append_assoc,V7]
theorem Zv6 {P:List (List Int)} (hP:P.length≤1048576) (ht:U2 P≤1048576) (h:∀ l ∈ P,Zio P.length l):∃ D,Zee P=some D∧D.length=P.length∧∀ p:Nat,p<P.length→D.getD p []=V7 0 P p:=by
 rw [Zee,Xj (by simp only [maxLen];omega)]
 have hr:∀ p:Nat,(List.replicate P.length ([]:List Int)).getD p []=[]:=fun p=>by
  rw [List.getD_eq_getElem?_getD,List.getElem?_replicate];split <;> rfl
 obtain ⟨D,h1,h2,h3⟩:=Znw P.length P 0 (List.replicate P.length []) (by simp) h (fun p=>by rw [hr];simpa using ht)
 exact ⟨D,h1,h2,fun p hp=>by rw [h3 p hp,hr];rfl⟩
theorem Zlv (p:Int):∀ (k:Nat) (P:List (List Int)) (c:Nat),(V7 k P p).count (c:Int)=if k≤c then (P.getD (c - k) []).count p else 0
 | k,[],c=>by simp [V7]
 | k,l :: P,c=>by
  rw [V7,List.count_append,Zlv p (k+1) P c,List.count_replicate]
  by_cases h1:k=c
  ·subst h1
   rw [if_pos (by simp),if_neg (by omega),if_pos (Nat.le_refl _),Nat.sub_self];rfl
  ·rw [if_neg (by simp;omega)]
   by_cases h2:k≤c
   ·rw [if_pos (by omega),if_pos h2,show c - k=(c - (k+1))+1 by omega];simp
   ·rw [if_neg (by omega),if_neg h2]
theorem Zpj (p:Int):∀ (k:Nat) (P:List (List Int)) (x:Int),x ∈ V7 k P p→∃ c:Nat,x=(c:Int)∧k≤c∧c<k+P.length
 | k,[],x,h=>by simp [V7] at h
 | k,l :: P,x,h=>by
  rw [V7] at h
  rcases List.mem_append.1 h with h | h
  ·exact ⟨k,(List.mem_replicate.1 h).2,Nat.le_refl _,by simp⟩
  ·obtain ⟨c,h1,h2,h3⟩:=Zpj p (k+1) P x h
   exact ⟨c,h1,by omega,by rw [List.length_cons];omega⟩
def Tc (P:List (List Int)) (out:List Int) (c:Nat):Nat:=(P.getD c []).countP fun q=>!decide (q ∈ out)
theorem Zn3 (out:List Int) (p:Int) (hp:p ∉ out):∀ l:List Int,(l.countP fun q=>!decide (q ∈ out))=(l.countP fun q=>!decide (q ∈ out++[p]))+l.count p
 | []=>rfl
 | x :: l=>by
  rw [List.countP_cons,List.countP_cons,List.count_cons,Zn3 out p hp l]
  by_cases h1:x=p
  ·subst h1
   have h2:(!decide (x ∈ out))=true:=by simp [hp]
   have h3:(!decide (x ∈ out++[x]))=false:=by simp
   rw [h2,h3];simp;omega
  ·have h3:(x ∈ out++[p])↔x ∈ out:=by simp [h1]
   rw [show (!decide (x ∈ out++[p]))=(!decide (x ∈ out)) from congrArg _ (decide_eq_decide.2 h3),if_neg (show ¬ ((x==p)=true) by simpa using h1)];omega
theorem Zn1 {P:List (List Int)} {out:List Int} {p:Int} (hp:p ∉ out) (c:Nat):Tc P out c=Tc P (out++[p]) c+(P.getD c []).count p:=Zn3 out p hp _
theorem Zsd (P:List (List Int)) (out:List Int) (c:Nat):U6 P out c=true↔(c:Int) ∉ out∧Tc P out c=0:=by
 rw [U6,Tc,List.countP_eq_zero]
 simp
structure Zip (P:List (List Int)) (out left ready:List Int):Prop where
 ok:Tb P out
 len:left.length=P.length
 cnt:∀ c:Nat,c<P.length→left.getD c 0=(Tc P out c:Int)
 heap:Tk ready ready.length
 nd:ready.Nodup
 mem:∀ y:Int,y ∈ ready↔∃ c:Nat,c<P.length∧y=(c:Int)∧(c:Int) ∉ out∧left.getD c 0=0
theorem Zmo (N:Nat) (P:List (List Int)) (hP:P.length≤1048576) (ht:U2 P≤1048576) (hN:2000000<N) (out:List Int) (p:Nat) (r2:List Int) (kk:List Int→List Int→List Int→Option (List Int)):
  ∀ (rest left ready:List Int),rest.length≤9000000000000000000→left.length=P.length→(∀ c:Nat,c<P.length→left.getD c 0=((Tc P (out++[(p:Int)]) c+rest.count (c:Int):Nat):Int))→
   Tk ready ready.length→ready.Nodup→(∀ y:Int,y ∈ ready↔∃ c:Nat,c<P.length∧y=(c:Int)∧(c:Int) ∉ out++[(p:Int)]∧left.getD c 0=0)→
   (∀ x ∈ rest,∃ c:Nat,c<P.length∧x=(c:Int)∧x ∉ out++[(p:Int)])→
   ∃ left' ready',Qb N out kk ((p:Int),r2) rest left ready=kk left' ready' (out++[(p:Int)])∧left'.length=P.length∧(∀ c:Nat,c<P.length→left'.getD c 0=(Tc P (out++[(p:Int)]) c:Int))∧
    Tk ready' ready'.length∧ready'.Nodup∧∀ y:Int,y ∈ ready'↔∃ c:Nat,c<P.length∧y=(c:Int)∧(c:Int) ∉ out++[(p:Int)]∧left'.getD c 0=0
 | [],left,ready,_,h1,h2,h3,h4,h5,_=>⟨left,ready,by rw [Qb.eq_1],h1,fun c hc=>by rw [h2 c hc];simp,h3,h4,h5⟩
 | x :: rest,left,ready,hrest,h1,h2,h3,h4,h5,h6=>by
  obtain ⟨c0,hc0,rfl,hx⟩:=h6 x List.mem_cons_self
  have hc0l:c0<left.length:=by omega
  have hcx:=h2 c0 hc0
  rw [List.count_cons,if_pos (by simp)] at hcx
  have hle:Tc P (out++[(p:Int)]) c0≤1048576:=by
   have h7:=List.countP_le_length (p:=fun q=>!decide (q ∈ out++[(p:Int)])) (l:=P.getD c0 [])
   rw [Wx hc0] at h7
   have h8:=Zkt (P:=P) (List.getElem_mem hc0)
   rw [Tc,Wx hc0];omega
  have hrl:ready.length≤P.length:=by
   have h7:=Zia (r:=(List.range P.length).map fun i:Nat=>(i:Int)) h4 fun y hy=>by
    obtain ⟨c,h8,h9,_⟩:=(h5 y).1 hy
    exact List.mem_map.2 ⟨c,List.mem_range.2 h8,h9.symm⟩
   simpa using h7
  have hv:i64.wrap (left.getD c0 0 - 1)=((Tc P (out++[(p:Int)]) c0+rest.count (c0:Int):Nat):Int):=by
   have h9:=List.count_le_length (a:=(c0:Int)) (l:=rest)
   rw [hcx,Z6]
   ·omega
   ·simp only [List.length_cons] at hrest
    omega
  have hl1:∀ c:Nat,c<P.length→(left.set c0 (i64.wrap (left.getD c0 0 - 1))).getD c 0=((Tc P (out++[(p:Int)]) c+rest.count (c:Int):Nat):Int):=fun c hc=>by
   rw [S5 _ _ _ _ _ hc0l]
   by_cases hcc:c=c0
   ·subst hcc;rw [if_pos rfl,hv]
   ·rw [if_neg hcc,h2 c hc,List.count_cons,if_neg (by simp;omega),Nat.add_zero]
  have hne:left.getD c0 0≠0:=by rw [hcx];omega
  have hnr:(c0:Int) ∉ ready:=fun h=>by
   obtain ⟨c,h8,h9,_,h10⟩:=(h5 _).1 h
   have:c=c0:=by omega
   subst this;exact hne h10
  have h6':∀ x ∈ rest,∃ c:Nat,c<P.length∧x=(c:Int)∧x ∉ out++[(p:Int)]:=fun x hx=>h6 x (List.mem_cons_of_mem _ hx)
  have hr':rest.length≤9000000000000000000:=by simp only [List.length_cons] at hrest;omega
  rw [Qb.eq_2,Zgt 0 hc0l,Option.bind_some,Option.bind_some,Int.toNat_natCast,Zgt 0 (by rw [List.length_set];exact hc0l),Option.bind_some,Zel,S5 _ _ _ _ _ hc0l,if_pos rfl]
  by_cases hz:i64.wrap (left.getD c0 0 - 1)=0
  ·obtain ⟨ready1,k1,k2,k3⟩:=Zrf (N:=N) (c0:Int) (by omega:ready.length<2000000) h3 hN
   rw [if_pos (by simpa using hz),k1,Option.bind_some,Zel]
   refine Zmo N P hP ht hN out p r2 kk rest _ ready1 hr' (by rw [List.length_set];exact h1) hl1 k3 (k2.nodup_iff.2 (List.nodup_cons.2 ⟨hnr,h4⟩)) (fun y=>?_) h6'
   rw [k2.mem_iff,List.mem_cons]
   constructor
   ·rintro (rfl | hy)
    ·exact ⟨c0,hc0,rfl,hx,by rw [S5 _ _ _ _ _ hc0l,if_pos rfl,hz]⟩
    ·obtain ⟨c,h8,h9,h10,h11⟩:=(h5 y).1 hy
     refine ⟨c,h8,h9,h10,?_⟩
     rw [S5 _ _ _ _ _ hc0l]
     split
     ·exact hz
     ·exact h11
   ·rintro ⟨c,h8,h9,h10,h11⟩
    by_cases hcc:c=c0
    ·subst hcc;exact .inl h9
    ·rw [S5 _ _ _ _ _ hc0l,if_neg hcc] at h11
     exact .inr ((h5 y).2 ⟨c,h8,h9,h10,h11⟩)
  ·rw [if_neg (by simpa using hz)]
   refine Zmo N P hP ht hN out p r2 kk rest _ ready hr' (by rw [List.length_set];exact h1) hl1 h3 h4 (fun y=>?_) h6'
   rw [h5 y]
   constructor
   ·rintro ⟨c,h8,h9,h10,h11⟩
    refine ⟨c,h8,h9,h10,?_⟩
    rw [S5 _ _ _ _ _ hc0l,if_neg (fun h=>hne (by rw [← h];exact h11))];exact h11
   ·rintro ⟨c,h8,h9,h10,h11⟩
    refine ⟨c,h8,h9,h10,?_⟩
    rw [S5 _ _ _ _ _ hc0l] at h11
    split at h11
    ·exact absurd h11 hz
    ·exact h11
theorem Zzt {N:Nat} {P D:List (List Int)} (hP:P.length≤1048576) (ht:U2 P≤1048576) (hN:2000000<N) (hD:D.length=P.length) (hDk:∀ p:Nat,p<P.length→D.getD p []=V7 0 P p) {out left ready:List Int} (hi:Zip P out left ready) (n:Nat):
  (Vr P out 0=none→Ux N D (n+1) left ready out=some out)∧
  ∀ p,Vr P out 0=some p→∃ left' ready',Zip P (out++[(p:Int)]) left' ready'∧Ux N D (n+1) left ready out=Ux N D n left' ready' (out++[(p:Int)]):=by
 have hrl:ready.length≤P.length:=by
  have h7:=Zia (r:=(List.range P.length).map fun i:Nat=>(i:Int)) hi.nd fun y hy=>by
   obtain ⟨c,h8,h9,_⟩:=(hi.mem y).1 hy
   exact List.mem_map.2 ⟨c,List.mem_range.2 h8,h9.symm⟩
  simpa using h7
 have hrd:∀ c:Nat,c<P.length→(U6 P out c=true↔(c:Int) ∈ ready):=fun c hc=>by
  rw [Zsd,hi.mem]
  constructor
  ·rintro ⟨h1,h2⟩;exact ⟨c,hc,rfl,h1,by rw [hi.cnt c hc,h2];rfl⟩
  ·rintro ⟨c',h1,h2,h3,h4⟩
   have:c'=c:=by omega
   subst this
   rw [hi.cnt c' h1] at h4
   exact ⟨h3,by omega⟩
 refine ⟨fun hn=>?_,fun p hn=>?_⟩
 ·have h0:ready=[]:=by
   cases hr:ready with
   | nil=>rfl
   | cons y l=>
    obtain ⟨c,h1,h2,_⟩:=(hi.mem y).1 (by rw [hr];exact List.mem_cons_self)
    have h3:=Zx4 hn c (Nat.zero_le _) h1
    have h4:=(hrd c h1).2 (by rw [← h2,hr];exact List.mem_cons_self)
    rw [h3] at h4;cases h4
  rw [Ux.eq_2,h0,if_neg (by decide)]
 ·obtain ⟨_,hp,hr,hmin⟩:=Zqs hn
  have hpr:=(hrd p hp).1 hr
  have hpos:0<ready.length:=List.length_pos_of_mem hpr
  obtain ⟨x,t,k1,k2,k3,k4⟩:=Zyf (N:=N) (by omega:ready.length≤2000000) hpos hi.heap hN
  have hxr:x ∈ ready:=k2.mem_iff.2 List.mem_cons_self
  have hxp:x=(p:Int):=by
   obtain ⟨c,h1,h2,_⟩:=(hi.mem x).1 hxr
   have h3:=k3 _ hpr
   have h4:¬ c<p:=fun hlt=>by
    have h5:=hmin c (Nat.zero_le _) hlt
    have h6:=(hrd c h1).2 (by rw [← h2];exact hxr)
    rw [h5] at h6;cases h6
   omega
  subst hxp
  have hnd:((p:Int) :: t).Nodup:=k2.nodup_iff.1 hi.nd
  obtain ⟨hp1,hp2⟩:=(Zsd P out p).1 hr
  obtain ⟨hok,hlt⟩:=hi.ok.step hn
  have hol:=hi.ok.len
  have hself:(P.getD p []).count (p:Int)=0:=by have:=Zn1 (P:=P) hp1 p;omega
  rw [Ux.eq_2,if_pos (decide_eq_true (by omega)),k1,Option.bind_some,Xj (by simp only [List.length_cons,List.length_nil,maxLen];omega),Zgt [] (by rw [hD];exact hp),Option.bind_some,hDk p hp]
  have hkl:=Zpi (p:Int) 0 P
  obtain ⟨left',ready',h1,h2,h3,h4,h5,h6⟩:=Zmo N P hP ht hN out p t (Ux N D n) (V7 0 P p) left t (by omega) hi.len (fun c hc=>by
    rw [hi.cnt c hc,Zn1 hp1 c,Zlv (p:Int) 0 P c,if_pos (Nat.zero_le _),Nat.sub_zero]) k4 (List.nodup_cons.1 hnd).2 (fun y=>by
    have h7:y ∈ t↔y ∈ ready∧y≠(p:Int):=by
     rw [k2.mem_iff,List.mem_cons]
     exact ⟨fun h=>⟨.inr h,fun e=>(List.nodup_cons.1 hnd).1 (by rw [← e];exact h)⟩,fun h=>h.1.resolve_left h.2⟩
    rw [h7,hi.mem]
    constructor
    ·rintro ⟨⟨c,h8,h9,h10,h11⟩,h12⟩
     exact ⟨c,h8,h9,by rw [List.mem_append,List.mem_singleton];exact fun h=>h.elim h10 fun h=>h12 (by rw [h9,h]),h11⟩
    ·rintro ⟨c,h8,h9,h10,h11⟩
     rw [List.mem_append,List.mem_singleton] at h10
     exact ⟨⟨c,h8,h9,fun h=>h10 (.inl h),h11⟩,fun h=>h10 (.inr (by rw [← h9,h]))⟩) (fun x hx=>by
    obtain ⟨c,h7,_,h8⟩:=Zpj (p:Int) 0 P x hx
    have h8:c<P.length:=by omega
    have h9:=Zlv (p:Int) 0 P c
    rw [if_pos (Nat.zero_le _),Nat.sub_zero] at h9
    have h10:0<(P.getD c []).count (p:Int):=by rw [← h9,← h7];exact List.count_pos_iff.2 hx
    refine ⟨c,h8,h7,fun h=>?_⟩
    rcases List.mem_append.1 h with h | h
    ·rw [h7] at h
     have h11:=hi.ok.2.2 c h8 h (p:Int) (by rw [Wx h8] at h10;exact List.count_pos_iff.1 h10)
     exact hp1 h11
    ·rw [List.mem_singleton] at h
     have:c=p:=by omega
     subst this
     omega)
  exact ⟨left',ready',⟨hok,h2,h3,h4,h5,h6⟩,h1⟩
theorem Ztd {N:Nat} {P D:List (List Int)} (hP:P.length<1048576) (hls:∀ x ∈ P,x.length≤1048576) (ht:U2 P≤1048576) (hN:2000000<N) (hD:D.length=P.length) (hDk:∀ p:Nat,p<P.length→D.getD p []=V7 0 P p):∀ (n:Nat) (out left ready:List Int),Zip P out left ready→P.length<n+out.length→
  Ux N D n left ready out=Uo N P n out
 | 0,out,left,ready,hi,hn=>by have:=hi.ok.len;omega
 | n+1,out,left,ready,hi,hn=>by
  have hl:=hi.ok.len
  obtain ⟨h1,h2⟩:=Zzt (N:=N) (by omega) ht hN hD hDk hi n
  rw [Zq3 (by omega) hls (by omega) (by omega)]
  cases hnx:Vr P out 0 with
  | none=>rw [h1 hnx];rfl
  | some p=>
   obtain ⟨left',ready',h3,h4⟩:=h2 p hnx
   rw [h4]
   exact Ztd hP hls ht hN hD hDk n _ _ _ h3 (by simp;omega)
theorem Zmn {N:Nat} (P D:List (List Int)) (hP:P.length<1048576) (hN:2000000<N) (hl:∀ l ∈ P,l.length≤1048576):∀ (Q:List (List Int)) (k:Nat) (left ready:List Int),P.drop k=Q→k≤P.length→left.length=P.length→
  (∀ c:Nat,c<k→left.getD c 0=((P.getD c []).length:Int))→Tk ready ready.length→ready.Nodup→(∀ y:Int,y ∈ ready↔∃ c:Nat,c<k∧y=(c:Int)∧(P.getD c []).length=0)→
  ∃ left' ready',Qa N D Q k left ready=Ux N D N left' ready' []∧Zip P [] left' ready'
 | [],k,left,ready,hQ,hk,h1,h2,h3,h4,h5=>by
  have hkP:k=P.length:=by have:=congrArg List.length hQ;simp at this;omega
  subst hkP
  have hc0:∀ c,Tc P [] c=(P.getD c []).length:=fun c=>by
   rw [Tc,List.countP_eq_length.2 (fun a _=>by simp)]
  refine ⟨left,ready,by rw [Qa.eq_1],⟨⟨.nil,by simp,by simp⟩,h1,fun c hc=>by rw [h2 c hc,hc0],h3,h4,fun y=>?_⟩⟩
  rw [h5]
  constructor
  ·rintro ⟨c,h6,h7,h8⟩;exact ⟨c,h6,h7,by simp,by rw [h2 c h6,h8];rfl⟩
  ·rintro ⟨c,h6,h7,_,h8⟩;exact ⟨c,h6,h7,by rw [h2 c h6] at h8;omega⟩
 | x :: Q,k,left,ready,hQ,hk,h1,h2,h3,h4,h5=>by
  have hkl:k<P.length:=by
   rcases Nat.lt_or_ge k P.length with h | h
   ·exact h
   ·rw [List.drop_eq_nil_of_le h] at hQ;cases hQ
  rw [List.drop_eq_getElem_cons hkl] at hQ
  obtain ⟨hx,hQ⟩:=List.cons.inj hQ
  have hxd:P.getD k []=x:=by rw [Wx hkl,hx]
  have hkl':k<left.length:=by omega
  have hrl:ready.length≤k:=by
   have h7:=Zia (r:=(List.range k).map fun i:Nat=>(i:Int)) h4 fun y hy=>by
    obtain ⟨c,h8,h9,_⟩:=(h5 y).1 hy
    exact List.mem_map.2 ⟨c,List.mem_range.2 h8,h9.symm⟩
   simpa using h7
  have hl1:∀ c:Nat,c<k+1→(left.set k (x.length:Int)).getD c 0=((P.getD c []).length:Int):=fun c hc=>by
   rw [S5 _ _ _ _ _ hkl']
   by_cases hck:c=k
   ·subst hck;rw [if_pos rfl,hxd]
   ·rw [if_neg hck,h2 c (by omega)]
  have hnr:(k:Int) ∉ ready:=fun h=>by obtain ⟨c,h6,h7,_⟩:=(h5 _).1 h;omega
  rw [Qa.eq_2,Zgt 0 hkl',Option.bind_some,Option.bind_some,Int.toNat_natCast]
  by_cases h0:x.length=0
  ·obtain ⟨ready1,k1,k2,k3⟩:=Zrf (N:=N) (k:Int) (by omega:ready.length<2000000) h3 hN
   rw [if_pos (decide_eq_true (by omega)),k1,Option.bind_some,Zem]
   refine Zmn P D hP hN hl Q (k+1) _ ready1 hQ (by omega) (by rw [List.length_set];exact h1) hl1 k3 (k2.nodup_iff.2 (List.nodup_cons.2 ⟨hnr,h4⟩)) (fun y=>?_)
   rw [k2.mem_iff,List.mem_cons,h5]
   constructor
   ·rintro (rfl | ⟨c,h6,h7,h8⟩)
    ·exact ⟨k,by omega,rfl,by rw [hxd];exact h0⟩
    ·exact ⟨c,by omega,h7,h8⟩
   ·rintro ⟨c,h6,h7,h8⟩
    by_cases hck:c=k
    ·subst hck;exact .inl h7
    ·exact .inr ⟨c,by omega,h7,h8⟩
  ·rw [if_neg (by rw [decide_eq_true_eq];omega),Zem]
   refine Zmn P D hP hN hl Q (k+1) _ ready hQ (by omega) (by rw [List.length_set];exact h1) hl1 h3 h4 (fun y=>?_)
   rw [h5]
   constructor
   ·rintro ⟨c,h6,h7,h8⟩;exact ⟨c,by omega,h7,h8⟩
   ·rintro ⟨c,h6,h7,h8⟩
    by_cases hck:c=k
    ·subst hck;rw [hxd] at h8;exact absurd h8 h0
    ·exact ⟨c,by omega,h7,h8⟩
theorem Zzs {N:Nat} {P D:List (List Int)} (hP:P.length<1048576) (hls:∀ x ∈ P,x.length≤1048576) (ht:U2 P≤1048576) (hN:2000000<N) (hD:D.length=P.length) (hDk:∀ p:Nat,p<P.length→D.getD p []=V7 0 P p):Zek N P D=Sp N P:=by
 rw [Zek,Xj (by simp only [maxLen];omega),Sp]
 obtain ⟨left,ready,h1,h2⟩:=Zmn (N:=N) P D hP hN hls P 0 (List.replicate P.length 0) [] rfl (Nat.zero_le _) (by simp) (fun c hc=>by omega) (fun j _ hj=>by simp at hj) .nil (fun y=>by simp)
 rw [h1]
 exact Ztd hP hls ht hN hD hDk N [] _ _ h2 (by simp;omega)
theorem Zoy (kk:Option Int):∀ (l:List Int) (seen:List (Int×Int)) (S:List Int),S.Nodup→(∀ k,X4 seen k=if k ∈ S then some 1 else none)→Zaw kk l seen=if (S++l).Nodup then kk else some 40
 | [],seen,S,h1,h2=>by rw [Zaw.eq_1,List.append_nil,if_pos h1]
 | x :: l,seen,S,h1,h2=>by
  rw [Zaw.eq_2,h2 x]
  by_cases hx:x ∈ S
  ·rw [if_pos hx,if_pos (by decide),if_neg]
   intro h
   exact (List.nodup_append.1 h).2.2 x hx x List.mem_cons_self rfl
  ·rw [if_neg hx,if_neg (by decide),Option.bind_some,Zoy kk l _ (S++[x]) (by
    rw [List.nodup_append]
    refine ⟨h1,by simp,fun a ha b hb e=>?_⟩
    rw [List.mem_singleton] at hb;subst hb;subst e;exact hx ha) (fun k=>by
    rw [Zh9,h2 k]
    by_cases hk:k=x
    ·subst hk;rw [if_pos rfl,if_pos (by simp)]
    ·rw [if_neg hk]
     by_cases hs:k ∈ S
     ·rw [if_pos hs,if_pos (by simp [hs])]
     ·rw [if_neg hs,if_neg (by simp [hs,hk])])]
   rw [List.append_assoc];rfl
theorem Zox:∀ P:List (List Int),S8 P=if U3 P then some 40 else some 0
 | []=>by rw [S8.eq_1];rfl
 | l :: P=>by
  rw [S8.eq_2,Zoy _ l [] [] .nil (fun k=>by simp [X4]),Zox P,List.nil_append]
  by_cases h:l.Nodup
  ·rw [if_pos h]
   have:U3 (l :: P)=U3 P:=by rw [U3,U3,List.any_cons,decide_eq_true h];rfl
   rw [this]
  ·rw [if_neg h]
   have:U3 (l :: P)=true:=by rw [U3,List.any_cons,decide_eq_false h];rfl
   rw [this];rfl
theorem Zoz (P:List (List Int)) (kk:Option Int):∀ l:List Int,S9 P kk l=if (l.all fun p=>decide (0≤p∧p<(P.length:Int)))=true then kk else some 3
 | []=>by rw [S9.eq_1];rfl
 | x :: l=>by
  rw [S9.eq_2,Zoz P kk l,Zeg,Zeg,List.all_cons]
  by_cases h1:x<0
  ·rw [if_pos (by simpa using h1),if_pos rfl,decide_eq_false (by omega),Bool.false_and,if_neg (by decide)]
  ·rw [if_neg (by simpa using h1)]
   by_cases h2:(P.length:Int)≤x
   ·rw [if_pos (by simpa using h2),decide_eq_false (by omega),Bool.false_and,if_neg (by decide)]
   ·rw [if_neg (by simpa using h2),decide_eq_true (by omega),Bool.true_and]
theorem Zow (P:List (List Int)):∀ Q:List (List Int),S7 P Q=if Uh P.length Q=true then S8 P else some 3
 | []=>by rw [S7.eq_1];rfl
 | l :: Q=>by
  rw [S7.eq_2,Zoz,Zow P Q]
  by_cases h:(l.all fun p=>decide (0≤p∧p<(P.length:Int)))=true
  ·rw [if_pos h]
   have:Uh P.length (l :: Q)=Uh P.length Q:=by rw [Uh,Uh,List.all_cons,h,Bool.true_and]
   rw [this]
  ·rw [if_neg h]
   have:Uh P.length (l :: Q)=false:=by rw [Uh,List.all_cons,Bool.eq_false_iff.2 h,Bool.false_and]
   rw [this,if_neg (by decide)]
theorem Zww (P:List (List Int)):Zef P=if Uh P.length P=true then (if U3 P=true then some 40 else some 0) else some 3:=by
 rw [Zef,Zow,Zox]
structure Zir (P:List (List Int)):Prop where
 n:P.length≤1048575
 t:U2 P≤1048576
theorem Zir.ls {P:List (List Int)} (h:Zir P):∀ x ∈ P,x.length≤1048576:=fun x hx=>Nat.le_trans (Zkt hx) h.t
theorem Zpa {P:List (List Int)} {n:Nat} (h:Uh n P=true):∀ l ∈ P,Zio n l:=by
 intro l hl x hx
 rw [Uh,List.all_eq_true] at h
 have:=List.all_eq_true.1 (h l hl) x hx
 simpa using this
inductive Ziq (N:Nat) (P:List (List Int)):Prop
 | err (e:Int) (D:Qu N P=some ([],e)) (R:So N P=some e) (ne:e=3∨e=40):Ziq N P
 | cyc (I:Uh P.length P=true) (T:U3 P=false) (l:List Int) (o:Sp N P=some l) (ok:Tb P l) (mx:Vr P l 0=none) (lt:l.length<P.length) (D:Qu N P=some ([],42)) (R:So N P=some 42):Ziq N P
 | ord (I:Uh P.length P=true) (T:U3 P=false) (l:List Int) (o:Sp N P=some l) (ok:Tb P l) (mx:Vr P l 0=none) (eq:l.length=P.length) (D:Qu N P=some (l,0)) (R:So N P=some 0):Ziq N P
theorem Zta {N:Nat} {P:List (List Int)} (h:Zir P) (hN:2000000<N):Ziq N P:=by
 have hn:=h.n
 have ht:=h.t
 have hls:=h.ls
 have hls':∀ x ∈ P,x.length≤1048576:=fun x hx=>by have:=hls x hx;omega
 have hD:Qu N P=(Zef P).bind fun r_1=>if (!decide (r_1=0))=true then (some (([]:List Int),r_1)) else ((Zee P).bind fun r_5=>(Zek N P r_5).bind fun r_13=>if (decide ((r_13.length:Int)<(P.length:Int)))=true then (some (([]:List Int),42)) else (some (r_13,0))):=by rw [Qu]
 have hR:So N P=(Zfx N P).bind fun r_1=>if (!r_1)=true then (some 3) else ((Zf1 N P).bind fun r_5=>if r_5=true then (some 40) else ((Sp N P).bind fun r_9=>if (decide ((r_9.length:Int)<(P.length:Int)))=true then (some 42) else (some 0))):=by rw [So]
 rw [Zww] at hD
 rw [Zw8 (by omega) hls' (by omega),Option.bind_some] at hR
 by_cases hI:Uh P.length P=true
 ·rw [hI,if_neg (by decide),Zzx (by omega) hls' (by omega),Option.bind_some] at hR
  rw [if_pos hI] at hD
  by_cases hT:U3 P=true
  ·rw [if_pos hT] at hD hR
   exact .err 40 (by rw [hD];rfl) hR (.inr rfl)
  ·rw [if_neg hT] at hD hR
   obtain ⟨l,h1,h2,h3⟩:=Zyd (N:=N) (P:=P) (by omega) hls' (by omega)
   obtain ⟨D,h4,h5,h6⟩:=Zv6 (P:=P) (by omega) (by omega) (Zpa hI)
   rw [h1,Option.bind_some] at hR
   rw [Option.bind_some,if_neg (by decide),h4,Option.bind_some,Zzs (by omega) hls' (by omega) hN h5 h6,h1,Option.bind_some] at hD
   have hT:=Bool.eq_false_iff.2 hT
   have hle:=h2.len
   by_cases hlt:l.length<P.length
   ·rw [if_pos (decide_eq_true (by omega))] at hR hD
    exact .cyc hI hT l h1 h2 h3 hlt hD hR
   ·rw [if_neg (by rw [decide_eq_true_eq];omega)] at hR hD
    exact .ord hI hT l h1 h2 h3 (by omega) hD hR
 ·rw [Bool.eq_false_iff.2 hI,if_pos (by decide)] at hR
  rw [if_neg hI] at hD
  exact .err 3 (by rw [hD];rfl) hR (.inl rfl)
section
variable {N:Nat} {P:List (List Int)} {E:List (Int×Int)} {e:Int}
end
def Q2 (aa:List Int) (kk_L1:(List Int→Option (List Int))) (ab:Bool):Option (List Int):=
  if ab=true then (Xb ((0:Int)≤(i64.wrap ((aa.length:Int) - 1))∧(i64.wrap ((aa.length:Int) - 1))≤(aa.length:Int)) (kk_L1 (aa.take (Int.toNat (i64.wrap ((aa.length:Int) - 1)))))) else (some aa)
def Tg (N:Nat):Nat→(List Int)→Option (List Int)
  | 0,_=>none
  | ab+1,aa=>if (decide (0<(aa.length:Int)))=true then ((Zv aa (i64.wrap ((aa.length:Int) - 1))).bind fun ac=>Q2 aa (Tg N ab) (decide (ac=0))) else (Q2 aa (Tg N ab) false)
termination_by structural x=>x
def Un (N:Nat) (aa:List Int):Option (List Int):=
  Tg N N aa
theorem Tm (N:Nat) (col:Zh) (w0:World) (a0:Option Addr) (al:Nat) (aj:List Int) (h0:Sl (Za.int .u32) col w0 a0 al aj) (r:List Int) (hm:Un N aj=some r):
    Calls Tryz.prog 217 #[.slice a0 aj.length al] w0 (fun e w'=>∃ (col':Zh) (ra1:Option Addr) (rc2:Nat),e= .returned ((.slice ra1 r.length rc2))∧Zf col w0 col' w'∧Sl (Za.int .u32) col' w' ra1 rc2 r):=by
 refine Xv 2 (m:=21) func217 rfl rfl rfl rfl rfl ?_;rw [Un.eq_1] at hm;have ae:=St.start col w0;refine Zb<|Zd<|Zu rfl<|Zc<|Zb<|Z0 ?_;replace h0:=h0.keep (Zp.start col w0);refine Xi (fun n f am=>∃ (ah:Zh) (ac:Option Addr) (ad:Nat) (ab:List Int) (af:Nat),af=n∧Tg N af ab=some r∧St w0 (Zo col) ah am∧Sl (Za.int .u32) ah am ac ad ab∧f 0=(.slice ac ab.length ad)∧f 1000000=(enc [])) N ⟨(Zo col),a0,al,aj,N,rfl,hm,ae,(h0.ks ae),rfl,rfl⟩ ?_;clear hm;intro n f am hI;obtain ⟨ah,ac,ad,ab,af,hn,hm,ae,ag,an,ao⟩:=hI;subst hn;refine .lD 0 an<|.lD 1000000 ao ?_
 cases af with
 | zero=>rw [Tg.eq_1] at hm;cases hm
 | succ af=>
  rw [Tg.eq_2] at hm;refine Zb<|Zb ?_;refine Wp.cut (fun f ap=>∃ (ai:Zh) (aq:Bool),Q2 ab (Tg N af) aq=some r∧St w0 (Zo col) ai ap∧Sl (Za.int .u32) ai ap ac ad ab∧f 0=(.slice ac ab.length ad)∧f 14=(.bool aq)∧f 1000000=(enc [])) ?_ ?_
  ·intro f ap hJ;obtain ⟨ai,aq,hm,ae,ag,an,av,ao⟩:=hJ;rw [Q2.eq_1] at hm;refine .lD 0 an<|.lD 14 av<|.lD 1000000 ao ?_;refine Zy _ rfl (fun hb=>?_) (fun hb=>?_)
   ·rw [if_pos hb] at hm;refine Zr<|Z0<|Zd<|Zk rfl<|Zk rfl<|lV _ (Zs underlying43 rfl)<|lV _ (Yb _ _ rfl rfl) ?_;obtain ⟨ar,hm⟩:=Xd hm;refine lv (v:=.slice ac (Int.toNat (i64.wrap ((ab.length:Int) - 1))) ad) rfl rfl (Vk underlying43 sizeOf79 rfl rfl ar.1 (by have:=ag.1.2;have:=ar.2;omega))<|.ld (d:=19) (v:=(.slice ac ((ab.take (Int.toNat (i64.wrap ((ab.length:Int) - 1)))).length) ad)) (congrArg (fun n=>Value.slice ac n ad) (List.length_take_of_le (show (Int.toNat (i64.wrap ((ab.length:Int) - 1)))≤ab.length by have:=ar.2;omega)).symm) ?_;refine Zu rfl<|Zc ?_;exact ⟨af,by omega,⟨ai,ac,ad,(ab.take (Int.toNat (i64.wrap ((ab.length:Int) - 1)))),af,rfl,hm,ae,(ag.take (Int.toNat (i64.wrap ((ab.length:Int) - 1)))),rfl,rfl⟩⟩
   rw [if_neg (Zz hb)] at hm;refine Xl (Xk ?_);refine Zb<|Zd<|Zk rfl<|Zu rfl<|Zc<|Zq ?_;cases hm;exact ⟨rfl,Xh w0.heap.size col ai (fun n=>0),ac,ad,rfl,ae.fin (fun n=>0),ae.finSl (g:=(fun n=>0)) rfl ag⟩
  refine Zd<|Zk rfl<|lV _ (Zs underlying43 rfl)<|lV _ (Wa _ _ rfl rfl)<|Xf rfl ?_;by_cases aa:(decide (0<(ab.length:Int)))=true
  ·rw [if_pos aa] at hm;refine lG 6 rfl (gq aa)<|Zk rfl<|lG 6 rfl (gq aa)<|Zk rfl<|lG 6 rfl (gq aa)<|lV _ (Zs underlying43 rfl)<|lG 6 rfl (gq aa)<|lV _ (Yb _ _ rfl rfl)<|lG 6 rfl (gq aa) ?_;obtain ⟨au,ak,hm⟩:=bZ hm;refine lV _ (Zx underlying43 sizeOf79 rfl rfl (Zi ak).1 (Zi ak).2.1 (ag.addr ak)) ?_;refine lG 6 rfl (gq aa)<|lV _ (Zn isAgg79 rfl (ag.atInt ak))<|lG 6 rfl (gq aa)<|lV _ (Y9 _ _ rfl rfl)<|lV (.bool (decide (au=0))) (Xm (congrArg Value.bool aa) rfl)<|Zc ?_;exact ⟨ah,(decide (au=0)),hm,ae,ag,rfl,rfl,rfl⟩
  rw [if_neg aa] at hm;replace aa:=Bool.eq_false_iff.2 aa;refine lP 6 rfl (gq aa)<|lP 6 rfl (gq aa)<|lP 6 rfl (gq aa)<|lP 6 rfl (gq aa)<|lP 6 rfl (gq aa)<|lP 6 rfl (gq aa)<|lP 6 rfl (gq aa)<|lV (.bool false) (Xr (congrArg Value.bool aa) rfl)<|Zc ?_;exact ⟨ah,false,hm,ae,ag,rfl,rfl,rfl⟩
def Zcd (N:Nat) (ab:List Int) (ac:List Int):Nat→Int→Option Int
  | 0,_=>none
  | af+1,aa=>if (decide (0≤aa))=true then ((Zv ab aa).bind fun ad=>(Zv ac aa).bind fun ae=>if (decide (ad<ae))=true then (some (-1)) else (if (decide (ae<ad))=true then (some 1) else ((Zcd N ab ac af) (i64.wrap (aa - 1))))) else (some 0)
termination_by structural x=>x
def Zcc (N:Nat) (ac:List Int) (ad:List Int):Option Int:=
  (Un N ac).bind fun aa=>(Un N ad).bind fun ab=>if (!decide ((aa.length:Int)=(ab.length:Int)))=true then (if (decide ((aa.length:Int)<(ab.length:Int)))=true then (some (-1)) else (some 1)) else (Zcd N aa ab N (i64.wrap ((aa.length:Int) - 1)))
theorem Zk9 (N:Nat) (col:Zh) (w0:World) (a0:Option Addr) (an:Nat) (aj:List Int) (a1:Option Addr) (ao:Nat) (ak:List Int) (h0:Sl (Za.int .u32) col w0 a0 an aj) (h1:Sl (Za.int .u32) col w0 a1 ao ak) (r:Int) (hm:Zcc N aj ak=some r):
    Calls Tryz.prog 250 #[.slice a0 aj.length an,.slice a1 ak.length ao] w0 (fun e w'=>e= .returned ((.int .i64 r))∧Below w0.heap.size w0 w'):=by
 refine Xv 4 (m:=45) func250 rfl rfl rfl rfl rfl ?_;rw [Zcc.eq_1] at hm;have aa:=St.start col w0;refine Zb<|Zd<|Zj rfl<|Zc<|Zb<|Zd<|Zk rfl ?_;obtain ⟨ah,ax,hm⟩:=bZ hm;replace h0:=h0.keep (Zp.start col w0);refine lc rfl rfl (Z7 call217 rfl) (Tm N (Zo col) _ a0 an aj (h0.ks aa) ah ax) ?_;rintro _ a9 ⟨ay,ap,aq,rfl,az,ac⟩;refine ⟨_,rfl,?_⟩;refine Zk rfl ?_;obtain ⟨al,a2,hm⟩:=bZ hm;replace h1:=h1.keep (Zp.start col w0);replace aa:=aa.grow az;refine lc rfl rfl (Z7 call217 rfl) (Tm N ay _ a1 ao ak (h1.ks aa) al a2) ?_;rintro _ ba ⟨a3,ar,au,rfl,av,ad⟩;refine ⟨_,rfl,?_⟩;refine Zu rfl<|Zu rfl<|Zc<|Zb<|Zb<|Zd<|Zk rfl<|lV _ (Zs underlying43 rfl)<|Zk rfl<|lV _ (Zs underlying43 rfl)<|lV _ (Yk _ _ rfl rfl)<|Zc ?_;replace ac:=ac.gr av;replace aa:=aa.grow av;refine Zy _ rfl (fun hb=>?_) (fun hb=>?_)
 ·rw [if_pos hb] at hm;refine Zb<|Zb<|Zd<|Zk rfl<|lV _ (Zs underlying43 rfl)<|Zk rfl<|lV _ (Zs underlying43 rfl)<|lV _ (Z4 _ _ rfl rfl)<|Zc ?_;refine Zy _ rfl (fun hb=>?_) (fun hb=>?_)
  ·rw [if_pos hb] at hm;refine Zb<|Zd<|Zj rfl<|Zc<|Zq ?_;cases hm;exact ⟨rfl,rfl,aa.below⟩
  rw [if_neg (Zz hb)] at hm;refine Zr<|Zb<|Zd<|Zj rfl<|Zc<|Zq ?_;cases hm;exact ⟨rfl,rfl,aa.below⟩
 rw [if_neg (Zz hb)] at hm;refine Zr<|Zb<|Zb<|Zd<|Zk rfl<|lV _ (Zs underlying43 rfl)<|lV _ (Yb _ _ rfl rfl)<|Zj rfl<|Zc<|Z0<|Xi (fun n f ai=>∃ (ab:Zh) (am:Int) (ag:Nat),ag=n∧Zcd N ah al ag am=some r∧St w0 (Zo col) ab ai∧Sl (Za.int .u32) ab ai ap aq ah∧Sl (Za.int .u32) ab ai ar au al∧f 0=(.slice ap ah.length aq)∧f 1=(.slice ar al.length au)∧f 5=(.int .i64 am)∧f 1000000=(enc [])) N ⟨a3,(i64.wrap ((ah.length:Int) - 1)),N,rfl,hm,aa,ac,ad,rfl,rfl,rfl,rfl⟩ ?_;clear hm;intro n f ai hI;obtain ⟨ab,am,ag,hn,hm,aa,ac,ad,a4,a5,a6,a7⟩:=hI;subst hn;refine .lD 0 a4<|.lD 1 a5<|.lD 5 a6<|.lD 1000000 a7 ?_
 cases ag with
 | zero=>rw [Zcd.eq_1] at hm;cases hm
 | succ ag=>
  rw [Zcd.eq_2] at hm;refine Zb<|Zb<|Zd<|Zg rfl<|lV _ (Uq _ _ rfl rfl)<|Zc ?_;refine Zy _ rfl (fun hb=>?_) (fun hb=>?_)
  ·rw [if_pos hb] at hm;refine Zr<|Zb<|Z0<|Zb<|Zb<|W5 (col:=ab) (by kernel_rfl) (by kernel_rfl)<|qv rfl (fun _ hC=>Yr rfl) ?_;refine qv rfl (fun _ hC=>Xp rfl) ?_;obtain ⟨bb,ae,hm⟩:=bZ hm;refine qv rfl (fun _ hC=>Zx underlying43 sizeOf79 rfl rfl (Zi ae).1 (Zi ae).2.1 (ac.addr ae)) ?_;refine qv rfl (fun _ hC=>Zn isAgg79 rfl ((ac.gr (hC.bl ab)).atInt ae)) ?_;refine qv rfl (fun _ hC=>Yr rfl) ?_;refine qv rfl (fun _ hC=>Xp rfl) ?_;obtain ⟨bc,af,hm⟩:=bZ hm;refine qv rfl (fun _ hC=>Zx underlying43 sizeOf79 rfl rfl (Zi af).1 (Zi af).2.1 (ad.addr af)) ?_;refine qv rfl (fun _ hC=>Zn isAgg79 rfl ((ad.gr (hC.bl ab)).atInt af)) ?_;refine qv rfl (fun _ hC=>Z4 _ _ rfl rfl) ?_;refine Y1 ?_;intro aw hC;replace hC:Zf ab ai ab aw:=.of_below hC.below;replace ac:=ac.gr hC;replace ad:=ad.gr hC;replace aa:=aa.grow hC;refine Zy _ rfl (fun hb=>?_) (fun hb=>?_)
   ·rw [if_pos hb] at hm;refine Zb<|Zd<|Zj rfl<|Zc<|Zq ?_;cases hm;exact ⟨rfl,rfl,aa.below⟩
   rw [if_neg (Zz hb)] at hm;refine Zr<|Zb<|W5 (col:=ab) (by kernel_rfl) (by kernel_rfl)<|qv rfl (fun _ hC=>Yr rfl) ?_;refine qv rfl (fun _ hC=>Xp rfl) ?_;refine qv rfl (fun _ hC=>Zx underlying43 sizeOf79 rfl rfl (Zi ae).1 (Zi ae).2.1 (ac.addr ae)) ?_;refine qv rfl (fun _ hC=>Zn isAgg79 rfl ((ac.gr (hC.bl ab)).atInt ae)) ?_;refine qv rfl (fun _ hC=>Yr rfl) ?_;refine qv rfl (fun _ hC=>Xp rfl) ?_;refine qv rfl (fun _ hC=>Zx underlying43 sizeOf79 rfl rfl (Zi af).1 (Zi af).2.1 (ad.addr af)) ?_;refine qv rfl (fun _ hC=>Zn isAgg79 rfl ((ad.gr (hC.bl ab)).atInt af)) ?_;refine qv rfl (fun _ hC=>Wa _ _ rfl rfl) ?_;refine Y1 ?_;intro a8 hC;replace hC:Zf ab aw ab a8:=.of_below hC.below;replace ac:=ac.gr hC;replace ad:=ad.gr hC;replace aa:=aa.grow hC;refine Zy _ rfl (fun hb=>?_) (fun hb=>?_)
   ·rw [if_pos hb] at hm;refine Zb<|Zd<|Zj rfl<|Zc<|Zq ?_;cases hm;exact ⟨rfl,rfl,aa.below⟩
   rw [if_neg (Zz hb)] at hm;refine Zr<|Zd<|Zg rfl<|lV _ (Yb _ _ rfl rfl)<|Zj rfl<|Zc ?_;exact ⟨ag,by omega,⟨ab,(i64.wrap (am - 1)),ag,rfl,hm,aa,ac,ad,rfl,rfl,rfl,rfl⟩⟩
  rw [if_neg (Zz hb)] at hm;refine Xl (Xk ?_);refine Zb<|Zd<|Zj rfl<|Zc<|Zq ?_;cases hm;exact ⟨rfl,rfl,aa.below⟩
theorem Zoq:Y2 Tryz.prog 79 1 4:=⟨Tryz.t79,_,rfl,rfl,rfl,rfl,rfl⟩
def Zdm (aa:List Int):Option (List Int):=
  Xb ((([]:List Int).length+aa.length) * 4≤140737488355328∧([]:List Int).length+aa.length≤maxLen) (some (([]:List Int)++aa))
theorem Zlg (c1:Nat) (col:Zh) (w0:World) (a0:Option Addr) (ad:Nat) (ab:List Int) (h0:Sl (Za.int .u32) col w0 a0 ad ab) (r:List Int) (hm:Zdm ab=some r):
    Calls Tryz.prog 273 #[.slice a0 ab.length ad] w0 (fun e w'=>∃ (col':Zh) (ra1:Option Addr) (rc2:Nat),e= .returned ((.slice ra1 r.length rc2))∧Zf col w0 col' w'∧Zl (Za.int .u32) 79 c1 col' w' ra1 rc2 r):=by
 refine Xv 2 (m:=8) func273 rfl rfl rfl rfl rfl ?_;rw [Zdm.eq_1] at hm;have aa:=St.start col w0;refine Zb<|Zd<|Zu rfl<|Zc<|Zb<|Zb<|Zd<|Zk rfl ?_;replace h0:=h0.keep (Zp.start col w0);rcases Zqt h0 with ac | ac
 ·replace hm:some ([]:List Int)=some r:=by have h0:=ac.2;subst h0;simpa [Xb,maxLen] using hm
  refine lv (v:=.bool a0.isNone) rfl rfl (Zki underlying43 rfl)<|.ld (d:=4) (v:=.bool true) (congrArg Value.bool ac.1)<|Zc<|Wo rfl<|Zb<|Zd<|Zu rfl<|Zc<|Zq ?_;cases hm;exact ⟨rfl,Xh w0.heap.size col (Zo col) (fun n=>0),none,0,rfl,aa.fin (fun n=>0),Zl.nil⟩
 refine lv (v:=.bool a0.isNone) rfl rfl (Zki underlying43 rfl)<|.ld (d:=4) (v:=.bool false) (congrArg Value.bool ac)<|Zc<|Wn rfl<|Zr<|Zb<|Zd<|Zpk (col:=(Zo col)) (r:=(Za.int .u32)) 1 rfl underlying43 Zoq rfl ?_;intro ao ag ah ae ai;refine Zk rfl ?_;obtain ⟨af,hm⟩:=Xd hm;replace h0:=h0.gr ae;refine Wr (col:=ah) (w:=ag) (r:=(Za.int .u32)) (c:=1) (c2:=1) (xs:=([]:List Int)) (ys:=ab) ai h0.srcC rfl underlying43 Zoq rfl rfl rfl af.1 af.2 (by decide) ?_;intro aj ak ap al am an;refine Zu rfl<|Zc<|Zq ?_;cases hm;replace aa:=(aa.grow ae).kpp am;exact ⟨rfl,Xh w0.heap.size col al (fun n=>bif Nat.beq n 1 then c1 else 0),aj,ak,rfl,aa.fin (fun n=>bif Nat.beq n 1 then c1 else 0),aa.finOwn (g:=(fun n=>bif Nat.beq n 1 then c1 else 0)) rfl an (by decide) (by decide) rfl⟩
def Zjo (aa:Int) (kk_L1:(List Int→Int→Int→Option (List Int))) (ab:List Int) (ac:Int):Option (List Int):=
  kk_L1 ab ac (i64.wrap (aa+1))
def Zfc (ab:List Int) (aa:Int) (kk_L1:(List Int→Int→Int→Option (List Int))) (ac:Int) (ad:Int):Option (List Int):=
  (Zv ab aa).bind fun ae=>(some (ab.set (Int.toNat aa) (u32.wrap (ae - (u32.wrap ac))))).bind fun af=>Zjo aa kk_L1 af ad
def Zfb (aa:List Int) (ab:Int) (kk_L1:(List Int→Int→Int→Option (List Int))) (ac:Int):Option (List Int):=
  (Zv aa ab).bind fun ad=>if (decide ((u64.wrap ad)<ac))=true then (Zfc aa ab kk_L1 ac 1) else (Zfc aa ab kk_L1 ac 0)
def Tf (N:Nat) (ac:List Int) (ab:List Int):Nat→(List Int)→Int→Int→Option (List Int)
  | 0,_,_,_=>none
  | ae+1,ad,af,aa=>if (decide (aa<(ac.length:Int)))=true then (if (decide (aa<(ab.length:Int)))=true then ((Zv ab aa).bind fun ag=>Zfb ad aa (Tf N ac ab ae) (u64.wrap (af+(u64.wrap ag)))) else (Zfb ad aa (Tf N ac ab ae) af)) else (some ad)
termination_by structural x=>x
def Zjn (N:Nat) (aa:List Int) (ab:List Int):Option (List Int):=
  Tf N aa ab N aa 0 0
theorem Zuy (N:Nat) (col:Zh) (w0:World) (qc0:Nat) (hd:S4 [qc0]=true) (a0:Option Addr) (ad:Nat) (aa:List Int) (a1:Option Addr) (ak:Nat) (ag:List Int) (h0:Zl (Za.int .u32) 79 qc0 col w0 a0 ad aa) (h1:Sl (Za.int .u32) col w0 a1 ak ag) (r:List Int) (hm:Zjn N aa ag=some r):
    Calls Tryz.prog 286 #[.slice a0 aa.length ad,.slice a1 ag.length ak] w0 (fun e w'=>∃ (col':Zh),e= .returned (.tuple #[])∧Xu (pS [qc0]) col w0 col' w'∧Zl (Za.int .u32) 79 qc0 col' w' a0 ad r∧r.length=aa.length):=by
 refine Zli (m:=40) (args:=[.slice a0 aa.length ad,.slice a1 ag.length ak]) func286 rfl rfl rfl rfl ?_;rw [Zjn.eq_1] at hm;have ab:=St.startL (l:=[qc0]) rfl col w0;replace h0:=h0.startL (Zas hd 0 rfl) (Zar hd 0 rfl);refine Zb<|Zd<|Zj rfl<|Zc<|Zb<|Zd<|Zk rfl<|lV _ (Zs underlying43 rfl)<|Zg rfl<|Zc<|Z0<|Xi (fun n f a8=>∃ (ar:Zh) (ac:List Int) (av:Int) (ae:Int) (ai:Nat),ai=n∧Tf N aa ag ai ac av ae=some r∧St w0 (X6 [qc0] col) ar a8∧Zl (Za.int .u32) 79 440 ar a8 a0 ad ac∧ac.length=aa.length∧ac.length=aa.length∧f 0=(.slice a0 ac.length ad)∧f 1=(.slice a1 ag.length ak)∧f 4=(.int .u64 av)∧f 8=(.int .i64 aa.length)∧f 9=(.int .i64 ae)∧f 1000000=(enc [])) N ⟨(X6 [qc0] col),aa,0,0,N,rfl,hm,ab,h0,rfl,rfl,rfl,rfl,rfl,rfl,rfl,rfl⟩ ?_;clear hm;intro n f a8 hI;obtain ⟨ar,ac,av,ae,ai,hn,hm,ab,af,bi,bj,al,am,aw,an,ao,ap⟩:=hI;subst hn;refine .lD 0 al<|.lD 1 am<|.lD 4 aw<|.lD 8 an<|.lD 9 ao<|.lD 1000000 ap ?_;replace h1:=h1.keep (Zp.startL [qc0] col w0)
 cases ai with
 | zero=>rw [Tf.eq_1] at hm;cases hm
 | succ ai=>
  rw [Tf.eq_2] at hm;refine Zb<|Zd<|lV _ (Z4 _ _ rfl rfl)<|Zc<|Zb ?_;refine Zy _ rfl (fun hb=>?_) (fun hb=>?_)
  ·rw [if_pos hb] at hm;refine Zr<|Zb ?_;refine Wp.cut (fun f a9=>∃ (az:Zh) (aq:List Int) (a2:Int),Zjo ae (Tf N aa ag ai) aq a2=some r∧St w0 (X6 [qc0] col) az a9∧Zl (Za.int .u32) 79 440 az a9 a0 ad aq∧aq.length=aa.length∧aq.length=aa.length∧f 0=(.slice a0 aq.length ad)∧f 1=(.slice a1 ag.length ak)∧f 4=(.int .u64 a2)∧f 8=(.int .i64 aa.length)∧f 9=(.int .i64 ae)∧f 1000000=(enc [])) ?_ ?_
   ·intro f a9 hJ;obtain ⟨az,aq,a2,hm,ab,bk,bl,bm,al,am,aw,an,ao,ap⟩:=hJ;rw [Zjo.eq_1] at hm;refine .lD 0 al<|.lD 1 am<|.lD 4 aw<|.lD 8 an<|.lD 9 ao<|.lD 1000000 ap<|Zd<|lV _ (Z5 _ _ rfl rfl)<|Zg rfl<|Zc ?_;exact ⟨ai,by omega,⟨az,aq,a2,(i64.wrap (ae+1)),ai,rfl,hm,ab,bk,bl,bm,rfl,rfl,rfl,rfl,rfl,rfl⟩⟩
   refine Z0<|Zb<|Zd<|Zg rfl<|Zj rfl<|Zc<|Zb<|Zd<|Zg rfl<|Zj rfl<|Zc<|Zb ?_;refine Wp.cut (fun f ba=>∃ (ax:Zh) (ah:Int),Zfb ac ae (Tf N aa ag ai) ah=some r∧St w0 (X6 [qc0] col) ax ba∧Zl (Za.int .u32) 79 440 ax ba a0 ad ac∧f 0=(.slice a0 ac.length ad)∧f 1=(.slice a1 ag.length ak)∧f 5=(.int .i64 ae)∧f 6=(.int .u64 ah)∧f 8=(.int .i64 aa.length)∧f 9=(.int .i64 ae)∧f 1000000=(enc [])) ?_ ?_
   ·intro f ba hJ;obtain ⟨ax,ah,hm,ab,af,al,am,bb,bc,an,ao,ap⟩:=hJ;rw [Zfb.eq_1] at hm;refine .lD 0 al<|.lD 1 am<|.lD 5 bb<|.lD 6 bc<|.lD 8 an<|.lD 9 ao<|.lD 1000000 ap<|Zb<|Zd<|Zj rfl<|Zc<|Zb ?_;refine Wp.cut (fun f bd=>∃ (a3:Zh) (a4:Int),Zfc ac ae (Tf N aa ag ai) ah a4=some r∧St w0 (X6 [qc0] col) a3 bd∧Zl (Za.int .u32) 79 440 a3 bd a0 ad ac∧f 0=(.slice a0 ac.length ad)∧f 1=(.slice a1 ag.length ak)∧f 4=(.int .u64 a4)∧f 5=(.int .i64 ae)∧f 6=(.int .u64 ah)∧f 8=(.int .i64 aa.length)∧f 9=(.int .i64 ae)∧f 1000000=(enc [])) ?_ ?_
    ·intro f bd hJ;obtain ⟨a3,a4,hm,ab,af,al,am,aw,bb,bc,an,ao,ap⟩:=hJ;rw [Zfc.eq_1] at hm;refine .lD 0 al<|.lD 1 am<|.lD 4 aw<|.lD 5 bb<|.lD 6 bc<|.lD 8 an<|.lD 9 ao<|.lD 1000000 ap<|Zd<|Zk rfl<|Zg rfl ?_;obtain ⟨a5,aj,hm⟩:=bZ hm;refine lV _ (Zx underlying43 sizeOf79 rfl rfl (Zi aj).1 (Zi aj).2.1 (af.addr aj)) ?_;refine lV _ (Zn isAgg79 rfl (af.atInt aj))<|Zg rfl<|lV (.int .u32 (u32.wrap ah)) (Xx ah ⟨_,underlying193⟩ underlying79 rfl)<|lV _ (Yb _ _ rfl rfl) ?_;refine lV _ (Zx underlying43 sizeOf79 rfl rfl (Zi aj).1 (Zi aj).2.1 (af.addr aj)) ?_;obtain ⟨au,ay,hm⟩:=bZ hm;have ay:au=ac.set (Int.toNat ae) (u32.wrap (a5 - (u32.wrap ah))):=(Option.some.inj ay).symm;refine Ww (x1:=u32.wrap (a5 - (u32.wrap ah))) (v:=(.int .u32 (u32.wrap (a5 - (u32.wrap ah))))) af aj rfl sizeOf79 (X8 .u32 (u32.wrap (a5 - (u32.wrap ah)))) rfl rfl (by decide) ?_;intro bp bn bo bf;rw [← ay] at bf;have bg:au.length=aa.length:=(show ac.length=au.length by rw [ay,List.length_set]).symm.trans bi;refine .ld (d:=0) (v:=(.slice a0 au.length ad)) (congrArg (fun n=>Value.slice a0 n ad) (show ac.length=au.length by rw [ay,List.length_set])) ?_;refine Zc ?_;replace ab:=ab.kp bn bo;exact ⟨a3,au,a4,hm,ab,bf,bg,bg,rfl,rfl,rfl,rfl,rfl,rfl⟩
    refine Zb<|Zd<|Zk rfl<|Zg rfl ?_;obtain ⟨bh,a6,hm⟩:=bZ hm;refine lV _ (Zx underlying43 sizeOf79 rfl rfl (Zi a6).1 (Zi a6).2.1 (af.addr a6)) ?_;refine lV _ (Zn isAgg79 rfl (af.atInt a6))<|lV (.int .u64 (u64.wrap bh)) (Xx bh ⟨_,underlying79⟩ underlying193 rfl)<|Zg rfl<|lV _ (Z4 _ _ rfl rfl)<|Zc ?_;refine Zy _ rfl (fun hb=>?_) (fun hb=>?_)
    ·rw [if_pos hb] at hm;refine Zd<|Zj rfl<|Zc ?_;exact ⟨ax,1,hm,ab,af,rfl,rfl,rfl,rfl,rfl,rfl,rfl,rfl⟩
    rw [if_neg (Zz hb)] at hm;refine Zr ?_;exact ⟨ax,0,hm,ab,af,rfl,rfl,rfl,rfl,rfl,rfl,rfl,rfl⟩
   refine Zb<|Zd<|Zg rfl<|Zk rfl<|lV _ (Zs underlying43 rfl)<|lV _ (Z4 _ _ rfl rfl)<|Zc ?_;refine Zy _ rfl (fun hb=>?_) (fun hb=>?_)
   ·rw [if_pos hb] at hm;refine Zd<|Zg rfl<|Zk rfl<|Zg rfl ?_;obtain ⟨be,a7,hm⟩:=bZ hm;refine lV _ (Zx underlying43 sizeOf79 rfl rfl (Zi a7).1 (Zi a7).2.1 ((h1.ks ab).addr a7)) ?_;refine lV _ (Zn isAgg79 rfl ((h1.ks ab).atInt a7))<|lV (.int .u64 (u64.wrap be)) (Xx be ⟨_,underlying79⟩ underlying193 rfl)<|lV _ (Z5 _ _ rfl rfl)<|Zj rfl<|Zc ?_;exact ⟨ar,(u64.wrap (av+(u64.wrap be))),hm,ab,af,rfl,rfl,rfl,rfl,rfl,rfl,rfl⟩
   rw [if_neg (Zz hb)] at hm;refine Zr ?_;exact ⟨ar,av,hm,ab,af,rfl,rfl,rfl,rfl,rfl,rfl,rfl⟩
  rw [if_neg (Zz hb)] at hm;refine Xl (Xk ?_);cases hm;exact ⟨rfl,Uv w0.heap.size [qc0] col ar (fun n=>bif Nat.beq n 440 then qc0 else 0),rfl,ab.finL rfl (fun n=>bif Nat.beq n 440 then qc0 else 0),ab.finOwnL (g:=(fun n=>bif Nat.beq n 440 then qc0 else 0)) rfl af (by decide) (by decide) rfl,bj⟩
def Um (N:Nat) (ab:List Int):Option (List Int):=
  (Un N ab).bind fun aa=>if (decide ((aa.length:Int)=0))=true then (some ([]:List Int)) else ((Zdm aa).bind fun ac=>some ac)
theorem Tl (N:Nat) (c1:Nat) (col:Zh) (w0:World) (a0:Option Addr) (ac:Nat) (ab:List Int) (h0:Sl (Za.int .u32) col w0 a0 ac ab) (r:List Int) (hm:Um N ab=some r):
    Calls Tryz.prog 218 #[.slice a0 ab.length ac] w0 (fun e w'=>∃ (col':Zh) (ra1:Option Addr) (rc2:Nat),e= .returned ((.slice ra1 r.length rc2))∧Zf col w0 col' w'∧Zl (Za.int .u32) 79 c1 col' w' ra1 rc2 r):=by
 refine Xv 2 (m:=10) func218 rfl rfl rfl rfl rfl ?_;rw [Um.eq_1] at hm;have aa:=St.start col w0;refine Zb<|Zd<|Zu rfl<|Zc<|Zb<|Zd<|Zk rfl ?_;obtain ⟨ad,af,hm⟩:=bZ hm;replace h0:=h0.keep (Zp.start col w0);refine lc rfl rfl (Z7 call217 rfl) (Tm N (Zo col) _ a0 ac ab (h0.ks aa) ad af) ?_;rintro _ ar ⟨ae,ag,ah,rfl,ai,aj⟩;refine ⟨_,rfl,?_⟩;refine Zu rfl<|Zc<|Zb<|Zb<|Zd<|Zk rfl<|lV _ (Zs underlying43 rfl)<|lV _ (Y9 _ _ rfl rfl)<|Zc ?_;replace aa:=aa.grow ai;refine Zy _ rfl (fun hb=>?_) (fun hb=>?_)
 ·rw [if_pos hb] at hm;refine Zb<|Zd<|Zu rfl<|Zc<|Zq ?_;cases hm;exact ⟨rfl,Xh w0.heap.size col ae (fun n=>0),none,0,rfl,aa.fin (fun n=>0),Zl.nil⟩
 rw [if_neg (Zz hb)] at hm;refine Zr<|Zb<|Zd<|Zk rfl ?_;obtain ⟨ak,al,hm⟩:=bZ hm;refine lc rfl rfl (Z7 call273 rfl) (Zlg 1 ae _ ag ah ad aj ak al) ?_;rintro _ au ⟨am,an,ao,rfl,ap,aq⟩;refine ⟨_,rfl,?_⟩;refine Zu rfl<|Zc<|Zq ?_;cases hm;replace aa:=aa.grow ap;exact ⟨rfl,Xh w0.heap.size col am (fun n=>bif Nat.beq n 1 then c1 else 0),an,ao,rfl,aa.fin (fun n=>bif Nat.beq n 1 then c1 else 0),aa.finOwn (g:=(fun n=>bif Nat.beq n 1 then c1 else 0)) rfl aq (by decide) (by decide) rfl⟩
def Ze8 (N:Nat) (aa:List Int) (ab:List Int):Option (List Int×Bool):=
  (Zcc N aa ab).bind fun ac=>if (decide (ac<0))=true then (some (([]:List Int),false)) else ((Un N aa).bind fun ad=>(Zdm ad).bind fun ae=>(Un N ab).bind fun af=>(Zjn N ae af).bind fun ag=>(Um N ag).bind fun ah=>some (ah,true))
theorem Znb (N:Nat) (c1:Nat) (col:Zh) (w0:World) (a0:Option Addr) (ag:Nat) (ab:List Int) (a1:Option Addr) (ah:Nat) (ac:List Int) (h0:Sl (Za.int .u32) col w0 a0 ag ab) (h1:Sl (Za.int .u32) col w0 a1 ah ac) (r:(List Int×Bool)) (hm:Ze8 N ab ac=some r):
    Calls Tryz.prog 258 #[.slice a0 ab.length ag,.slice a1 ac.length ah] w0 (fun e w'=>∃ (col':Zh) (ra1:Option Addr) (rc2:Nat),e= .returned (.tuple #[.slice ra1 r.1.length rc2,.bool r.2])∧Zf col w0 col' w'∧Zl (Za.int .u32) 79 c1 col' w' ra1 rc2 r.1):=by
 refine Zlj 4 5 (m:=20) (args:=[.slice a0 ab.length ag,.slice a1 ac.length ah]) func258 rfl rfl rfl rfl rfl ?_;rw [Ze8.eq_1] at hm;have aa:=St.start col w0;refine Zb<|Zd<|Zu rfl<|Xc rfl<|Zc<|Zb<|Zb<|Zd<|Zk rfl<|Zk rfl ?_;obtain ⟨au,av,hm⟩:=bZ hm;replace h0:=h0.keep (Zp.start col w0);replace h1:=h1.keep (Zp.start col w0);refine lc rfl rfl (Xa call250 rfl rfl) (Zk9 N (Zo col) _ a0 ag ab a1 ah ac (h0.ks aa) (h1.ks aa) au av) ?_;rintro _ aw ⟨rfl,al⟩;refine ⟨_,rfl,?_⟩;replace al:Zf (Zo col) w0 (Zo col) aw:=.of_below al;refine lV _ (Z4 _ _ rfl rfl)<|Zc ?_;replace aa:=aa.grow al;refine Zy _ rfl (fun hb=>?_) (fun hb=>?_)
 ·rw [if_pos hb] at hm;refine Zb<|Zd<|Zu rfl<|Xc rfl<|Zc<|Zq ?_;cases hm;exact ⟨rfl,Xh w0.heap.size col (Zo col) (fun n=>0),none,0,rfl,aa.fin (fun n=>0),Zl.nil⟩
 rw [if_neg (Zz hb)] at hm;refine Zr<|Zb<|Zd<|Zk rfl ?_;obtain ⟨ao,ax,hm⟩:=bZ hm;refine lc rfl rfl (Z7 call217 rfl) (Tm N (Zo col) _ a0 ag ab (h0.ks aa) ao ax) ?_;rintro _ bn ⟨ay,az,a2,rfl,a3,a4⟩;refine ⟨_,rfl,?_⟩;obtain ⟨ai,a5,hm⟩:=bZ hm;refine lc rfl rfl (Z7 call273 rfl) (Zlg 1 ay _ az a2 ao a4 ai a5) ?_;rintro _ bo ⟨a6,ad,ae,rfl,a7,am⟩;refine ⟨_,rfl,?_⟩;refine Zu rfl<|Zc<|Zb<|Zd<|Zk rfl<|Zk rfl ?_;obtain ⟨ap,a8,hm⟩:=bZ hm;replace aa:=(aa.grow a3).grow a7;refine lc rfl rfl (Z7 call217 rfl) (Tm N a6 _ a1 ah ac (h1.ks aa) ap a8) ?_;rintro _ bp ⟨a9,ba,bb,rfl,aq,bc⟩;refine ⟨_,rfl,?_⟩;obtain ⟨af,bd,hm⟩:=bZ hm;replace am:=am.gr aq;refine lc rfl rfl (Xa call286 rfl rfl) (Zuy N a9 _ 1 rfl ad ae ai ba bb ap am bc af bd) ?_;rintro _ be ⟨aj,rfl,bf,bg,ar⟩;refine ⟨_,rfl,?_⟩;refine .ld (d:=6) (v:=(.slice ad af.length ae)) (congrArg (fun n=>Value.slice ad n ae) (show ai.length=af.length from ar.symm)) ?_;refine .ld (d:=14) (v:=(.slice ad af.length ae)) (congrArg (fun n=>Value.slice ad n ae) (show ai.length=af.length from ar.symm)) ?_;refine Zc<|Zb<|Zd<|Zk rfl ?_;obtain ⟨bh,bi,hm⟩:=bZ hm;refine lc rfl rfl (Z7 call218 rfl) (Tl N 2 (Z3 1 aj) _ ad ae af (bg.toSlF (Z2.int .u32)) bh bi) ?_;rintro _ bq ⟨bj,bk,bl,rfl,ak,an⟩;refine ⟨_,rfl,?_⟩;replace an:=an.thaw (Xz .u32) ak ((Fz.refl (col:=aj)).froz 1) (by decide);replace ak:=ak.thawR (col:=aj);generalize X1 be.heap.size aj bj=bm at *;refine Zu rfl<|Xc rfl<|Zc<|Zq ?_;cases hm;replace aa:=((aa.grow aq).kpp bf).grow ak;exact ⟨rfl,Xh w0.heap.size col bm (fun n=>bif Nat.beq n 2 then c1 else 0),bk,bl,rfl,aa.fin (fun n=>bif Nat.beq n 2 then c1 else 0),aa.finOwn (g:=(fun n=>bif Nat.beq n 2 then c1 else 0)) rfl an (by decide) (by decide) rfl⟩
def Zjk (aa:Nat) (kk_L1:(Nat→(List Int)→Int→Option (List Int))) (ab:List Int) (ac:Int):Option (List Int):=
  kk_L1 (aa+1) ab ac
def Ze6 (aa:Nat) (ab:List Int) (kk_L1:(Nat→(List Int)→Int→Option (List Int))) (ac:Int):Option (List Int):=
  (Zv ab (aa:Int)).bind fun ae=>(some (ab.set (Int.toNat (aa:Int)) (u32.wrap ac))).bind fun ad=>Zjk aa kk_L1 ad (X0 .u64 ac 32)
def Tt (N:Nat) (ac:List Int) (ad:List Int):List Int→Nat→(List Int)→Int→Option (List Int)
  | [],aa,ab,ae=>(Zv ab (ac.length:Int)).bind fun ak=>(some (ab.set (Int.toNat (ac.length:Int)) (u32.wrap ae))).bind fun ah=>(Um N ah).bind fun ai=>some ai
  | af :: ag,aa,ab,ae=>if (decide ((aa:Int)<(ad.length:Int)))=true then ((Zv ad (aa:Int)).bind fun aj=>Ze6 aa ab (Tt N ac ad ag) (u64.wrap ((u64.wrap (ae+(u64.wrap af)))+(u64.wrap aj)))) else (Ze6 aa ab (Tt N ac ad ag) (u64.wrap (ae+(u64.wrap af))))
termination_by structural x=>x
def Ze5 (N:Nat) (aa:List Int) (ab:List Int):Option (List Int):=
  Xb ((Int.toNat (i64.wrap ((aa.length:Int)+1))) * 4≤281474976710656∧(Int.toNat (i64.wrap ((aa.length:Int)+1)))≤maxLen∧0≤(i64.wrap ((aa.length:Int)+1))) (Tt N aa ab aa 0 (List.replicate (Int.toNat (i64.wrap ((aa.length:Int)+1))) (0:Int)) 0)
def Zhe (N:Nat) (ac:List Int) (ad:List Int):Option (List Int):=
  (Un N ac).bind fun aa=>(Un N ad).bind fun ab=>if (decide ((aa.length:Int)<(ab.length:Int)))=true then (Ze5 N ab aa) else (Ze5 N aa ab)
theorem Zuu (N:Nat) (c1:Nat) (col:Zh) (w0:World) (a0:Option Addr) (bu:Nat) (bc:List Int) (a1:Option Addr) (bv:Nat) (bd:List Int) (h0:Sl (Za.int .u32) col w0 a0 bu bc) (h1:Sl (Za.int .u32) col w0 a1 bv bd) (r:List Int) (hm:Zhe N bc bd=some r):
    Calls Tryz.prog 257 #[.slice a0 bc.length bu,.slice a1 bd.length bv] w0 (fun e w'=>∃ (col':Zh) (ra1:Option Addr) (rc2:Nat),e= .returned ((.slice ra1 r.length rc2))∧Zf col w0 col' w'∧Zl (Za.int .u32) 79 c1 col' w' ra1 rc2 r):=by
 refine Xv 4 (m:=62) func257 rfl rfl rfl rfl rfl ?_;rw [Zhe.eq_1] at hm;have ab:=St.start col w0;refine Zb<|Zd<|Zu rfl<|Zc<|Zb<|Zd<|Zk rfl ?_;obtain ⟨bw,cc,hm⟩:=bZ hm;replace h0:=h0.keep (Zp.start col w0);refine lc rfl rfl (Z7 call217 rfl) (Tm N (Zo col) _ a0 bu bc (h0.ks ab) bw cc) ?_;rintro _ cx ⟨cd,b3,b4,rfl,ce,be⟩;refine ⟨_,rfl,?_⟩;refine Zk rfl ?_;obtain ⟨bx,cf,hm⟩:=bZ hm;replace h1:=h1.keep (Zp.start col w0);replace ab:=ab.grow ce;refine lc rfl rfl (Z7 call217 rfl) (Tm N cd _ a1 bv bd (h1.ks ab) bx cf) ?_;rintro _ cy ⟨b5,b6,b7,rfl,b8,b9⟩;refine ⟨_,rfl,?_⟩;refine Zu rfl<|Zu rfl<|Zc<|Zb ?_;replace be:=be.gr b8;replace ab:=ab.grow b8;refine Wp.cut (fun f ay=>∃ (az:Zh) (ag:Option Addr) (ah:Nat) (aa:List Int) (ao:Option Addr) (ap:Nat) (ae:List Int),Ze5 N aa ae=some r∧St w0 (Zo col) az ay∧Sl (Za.int .u32) az ay ag ah aa∧Sl (Za.int .u32) az ay ao ap ae∧f 0=(.slice ag aa.length ah)∧f 1=(.slice ao ae.length ap)∧f 1000000=(enc [])) ?_ ?_
 ·intro f ay hJ;obtain ⟨az,ag,ah,aa,ao,ap,ae,hm,ab,ac,ad,aq,ar,au⟩:=hJ;rw [Ze5.eq_1] at hm;refine .lD 0 aq<|.lD 1 ar<|.lD 1000000 au<|Zb<|Zd<|Zk rfl<|lV _ (Zs underlying43 rfl)<|lV _ (Z5 _ _ rfl rfl) ?_;obtain ⟨bf,hm⟩:=Xd hm;refine Qr (col:=az) (w:=ay) (r:=(Za.int .u32)) (n:=(Int.toNat (i64.wrap ((aa.length:Int)+1)))) (x0:=0) 1 rfl underlying43 Tryz.t79 rfl rfl rfl rfl rfl (congrArg (Value.int _) (Int.toNat_of_nonneg bf.2.2).symm) (congrArg (Value.int _) (Int.toNat_of_nonneg bf.2.2).symm) bf.1 bf.2.1 (X8 .u32 0) ?_;intro cg cz ch bz ci;refine Zu rfl<|Zc<|Zb<|Zd<|Zj rfl<|Zc<|Zb<|Zb<|Zd<|Zk rfl<|lV _ (Zs underlying43 rfl)<|Zg rfl<|Zc<|Z0 ?_;replace ac:=ac.gr bz;replace ad:=ad.gr bz;replace ab:=ab.grow bz;refine Xi (fun n f a2=>∃ (aj:Zh) (af:Nat) (ak:Option Addr) (al:Nat) (am:List Int) (an:Int) (a3:List Int),n=a3.length∧aa.drop af=a3∧Tt N aa ae a3 af am an=some r∧St w0 (Zo col) aj a2∧Sl (Za.int .u32) aj a2 ag ah aa∧Sl (Za.int .u32) aj a2 ao ap ae∧Zl (Za.int .u32) 79 1 aj a2 ak al am∧f 26=(.int .i64 af)∧f 0=(.slice ag aa.length ah)∧f 1=(.slice ao ae.length ap)∧f 24=(.slice ag aa.length ah)∧f 25=(.int .i64 aa.length)∧f 5=(.slice ak am.length al)∧f 6=(.int .u64 an)∧f 1000000=(enc [])) aa.length ⟨ch,0,cg,(Int.toNat (i64.wrap ((aa.length:Int)+1))),(List.replicate (Int.toNat (i64.wrap ((aa.length:Int)+1))) (0:Int)),0,aa,rfl,rfl,hm,ab,ac,ad,ci,rfl,rfl,rfl,rfl,rfl,rfl,rfl,rfl⟩ ?_;clear hm;intro n f a2 hI;obtain ⟨aj,af,ak,al,am,an,a3,hn,hl,hm,ab,ac,ad,av,a4,aq,ar,a5,a6,a7,a8,au⟩:=hI;subst hn;refine .lD 26 a4<|.lD 0 aq<|.lD 1 ar<|.lD 24 a5<|.lD 25 a6<|.lD 5 a7<|.lD 6 a8<|.lD 1000000 au ?_
  cases a3 with
  | nil=>
   have hk:¬ ((af:Int)<(aa.length:Int)):=by have:=List.drop_eq_nil_iff.1 hl;omega
   have hkb:=decide_eq_false hk;rw [Tt.eq_1] at hm;refine Zb<|Zd<|lV _ (Z4 _ _ rfl rfl)<|Zc<|Zb<|Wn (congrArg Value.bool hkb) ?_;refine Xl (Xk ?_);refine Zb<|Zd<|Zk rfl<|Zk rfl<|lV _ (Zs underlying43 rfl)<|Zg rfl<|lV (.int .u32 (u32.wrap an)) (Xx an ⟨_,underlying193⟩ underlying79 rfl) ?_;obtain ⟨c0,bg,hm⟩:=bZ hm;refine lV _ (Zx underlying43 sizeOf79 rfl rfl (Zi bg).1 (Zi bg).2.1 (av.addr bg)) ?_;obtain ⟨bh,bi,hm⟩:=bZ hm;have bi:bh=am.set (Int.toNat (aa.length:Int)) (u32.wrap an):=(Option.some.inj bi).symm;refine Ww (x1:=u32.wrap an) (v:=(.int .u32 (u32.wrap an))) av bg rfl sizeOf79 (X8 .u32 (u32.wrap an)) rfl rfl (by decide) ?_;intro cj ck cl ca;rw [← bi] at ca;refine .ld (d:=5) (v:=(.slice ak bh.length al)) (congrArg (fun n=>Value.slice ak n al) (show am.length=bh.length by rw [bi,List.length_set])) ?_;refine Zc<|Zb<|Zd<|Zk rfl ?_;obtain ⟨cm,cn,hm⟩:=bZ hm;refine lc rfl rfl (Z7 call218 rfl) (Tl N 2 (Z3 1 aj) _ ak al bh (ca.toSlF (Z2.int .u32)) cm cn) ?_;rintro _ c2 ⟨co,cp,cq,rfl,bj,b0⟩;refine ⟨_,rfl,?_⟩;replace b0:=b0.thaw (Xz .u32) bj ((Fz.refl (col:=aj)).froz 1) (by decide);replace bj:=bj.thawR (col:=aj);generalize X1 cj.heap.size aj co=cr at *;refine Zu rfl<|Zc<|Zq ?_;cases hm;replace ab:=(ab.kp ck cl).grow bj;exact ⟨rfl,Xh w0.heap.size col cr (fun n=>bif Nat.beq n 2 then c1 else 0),cp,cq,rfl,ab.fin (fun n=>bif Nat.beq n 2 then c1 else 0),ab.finOwn (g:=(fun n=>bif Nat.beq n 2 then c1 else 0)) rfl b0 (by decide) (by decide) rfl⟩
  | cons bk bl=>
   obtain ⟨bm,cs,ct⟩:=Wv hl;have hk:(af:Int)<(aa.length:Int):=by omega
   have hkb:=decide_eq_true hk;rw [Tt.eq_2] at hm;refine Zb<|Zd<|lV _ (Z4 _ _ rfl rfl)<|Zc<|Zb<|Wo (congrArg Value.bool hkb)<|Zr<|Zb ?_;refine Wp.cut (fun f a9=>∃ (aw:Zh) (bn:Option Addr) (bo:Nat) (ba:List Int) (bp:Int),Zjk af (Tt N aa ae bl) ba bp=some r∧St w0 (Zo col) aw a9∧Sl (Za.int .u32) aw a9 ag ah aa∧Sl (Za.int .u32) aw a9 ao ap ae∧Zl (Za.int .u32) 79 1 aw a9 bn bo ba∧f 0=(.slice ag aa.length ah)∧f 1=(.slice ao ae.length ap)∧f 24=(.slice ag aa.length ah)∧f 25=(.int .i64 aa.length)∧f 26=(.int .i64 af)∧f 5=(.slice bn ba.length bo)∧f 6=(.int .u64 bp)∧f 1000000=(enc [])) ?_ ?_
   ·intro f a9 hJ;obtain ⟨aw,bn,bo,ba,bp,hm,ab,ac,ad,cu,aq,ar,a5,a6,a4,a7,a8,au⟩:=hJ;rw [Zjk.eq_1] at hm;refine .lD 0 aq<|.lD 1 ar<|.lD 24 a5<|.lD 25 a6<|.lD 26 a4<|.lD 5 a7<|.lD 6 a8<|.lD 1000000 au<|Zd<|lV _ (Z5 _ _ rfl rfl)<|Zg rfl<|Zc ?_;exact ⟨bl.length,by simp,⟨aw,(af+1),bn,bo,ba,bp,bl,rfl,cs,hm,ab,ac,ad,cu,(congrArg (Value.int .i64) (Wy (Nat.lt_of_lt_of_le ct ac.1.1))),rfl,rfl,rfl,rfl,rfl,rfl,rfl⟩⟩
   refine Z0<|Zb<|Zd<|Zg rfl ?_;refine lV _ (Zx underlying43 sizeOf79 rfl rfl (Zi bm).1 (Zi bm).2.1 (ac.addr bm)) ?_;refine lV _ (Zn isAgg79 rfl (ac.atInt bm))<|Zj rfl<|Zj rfl<|Zc<|Zb<|Zd<|Zg rfl<|Zg rfl<|lV (.int .u64 (u64.wrap bk)) (Xx bk ⟨_,underlying79⟩ underlying193 rfl)<|lV _ (Z5 _ _ rfl rfl)<|Zj rfl<|Zc<|Zb ?_;refine Wp.cut (fun f bb=>∃ (ax:Zh) (ai:Int),Ze6 af am (Tt N aa ae bl) ai=some r∧St w0 (Zo col) ax bb∧Sl (Za.int .u32) ax bb ag ah aa∧Sl (Za.int .u32) ax bb ao ap ae∧Zl (Za.int .u32) 79 1 ax bb ak al am∧f 0=(.slice ag aa.length ah)∧f 1=(.slice ao ae.length ap)∧f 24=(.slice ag aa.length ah)∧f 25=(.int .i64 aa.length)∧f 26=(.int .i64 af)∧f 5=(.slice ak am.length al)∧f 6=(.int .u64 ai)∧f 7=(.int .i64 af)∧f 1000000=(enc [])) ?_ ?_
   ·intro f bb hJ;obtain ⟨ax,ai,hm,ab,ac,ad,av,aq,ar,a5,a6,a4,a7,a8,cv,au⟩:=hJ;rw [Ze6.eq_1] at hm;refine .lD 0 aq<|.lD 1 ar<|.lD 24 a5<|.lD 25 a6<|.lD 26 a4<|.lD 5 a7<|.lD 6 a8<|.lD 7 cv<|.lD 1000000 au<|Zb<|Zd<|Zk rfl<|Zg rfl<|Zg rfl<|lV (.int .u32 (u32.wrap ai)) (Xx ai ⟨_,underlying193⟩ underlying79 rfl) ?_;obtain ⟨c3,bq,hm⟩:=bZ hm;refine lV _ (Zx underlying43 sizeOf79 rfl rfl (Zi bq).1 (Zi bq).2.1 (av.addr bq)) ?_;obtain ⟨br,bs,hm⟩:=bZ hm;have bs:br=am.set (Int.toNat (af:Int)) (u32.wrap ai):=(Option.some.inj bs).symm;refine Ww (x1:=u32.wrap ai) (v:=(.int .u32 (u32.wrap ai))) av bq rfl sizeOf79 (X8 .u32 (u32.wrap ai)) rfl rfl (by decide) ?_;intro c4 b1 cw cb;rw [← bs] at cb;refine .ld (d:=5) (v:=(.slice ak br.length al)) (congrArg (fun n=>Value.slice ak n al) (show am.length=br.length by rw [bs,List.length_set])) ?_;refine Zc<|Zd<|Zg rfl<|lV (.int .u64 (X0 .u64 ai 32)) (T8 ai 32 rfl rfl (by decide))<|Zj rfl<|Zc ?_;replace ac:=ac.kp b1;replace ad:=ad.kp b1;replace ab:=ab.kp b1 cw;exact ⟨ax,ak,al,br,(X0 .u64 ai 32),hm,ab,ac,ad,cb,rfl,rfl,rfl,rfl,rfl,rfl,rfl,rfl⟩
   refine Zb<|Zd<|Zg rfl<|Zk rfl<|lV _ (Zs underlying43 rfl)<|lV _ (Z4 _ _ rfl rfl)<|Zc ?_;refine Zy _ rfl (fun hb=>?_) (fun hb=>?_)
   ·rw [if_pos hb] at hm;refine Zd<|Zg rfl<|Zk rfl<|Zg rfl ?_;obtain ⟨b2,bt,hm⟩:=bZ hm;refine lV _ (Zx underlying43 sizeOf79 rfl rfl (Zi bt).1 (Zi bt).2.1 (ad.addr bt)) ?_;refine lV _ (Zn isAgg79 rfl (ad.atInt bt))<|lV (.int .u64 (u64.wrap b2)) (Xx b2 ⟨_,underlying79⟩ underlying193 rfl)<|lV _ (Z5 _ _ rfl rfl)<|Zj rfl<|Zc ?_;exact ⟨aj,(u64.wrap ((u64.wrap (an+(u64.wrap bk)))+(u64.wrap b2))),hm,ab,ac,ad,av,rfl,rfl,rfl,rfl,rfl,rfl,rfl,rfl,rfl⟩
   rw [if_neg (Zz hb)] at hm;refine Zr ?_;exact ⟨aj,(u64.wrap (an+(u64.wrap bk))),hm,ab,ac,ad,av,rfl,rfl,rfl,rfl,rfl,rfl,rfl,rfl,rfl⟩
 refine Zb<|Zd<|Zk rfl<|lV _ (Zs underlying43 rfl)<|Zk rfl<|lV _ (Zs underlying43 rfl)<|lV _ (Z4 _ _ rfl rfl)<|Zc ?_;refine Zy _ rfl (fun hb=>?_) (fun hb=>?_)
 ·rw [if_pos hb] at hm;refine Zd<|Zk rfl<|Zk rfl<|Zu rfl<|Zu rfl<|Zc ?_;exact ⟨b5,b6,b7,bx,b3,b4,bw,hm,ab,b9,be,rfl,rfl,rfl⟩
 rw [if_neg (Zz hb)] at hm;refine Zr ?_;exact ⟨b5,b3,b4,bw,b6,b7,bx,hm,ab,be,b9,rfl,rfl,rfl⟩
def Za5 (ae:List Int) (aa:Nat) (kk_L1:(Nat→(List Int)→Option (List Int))) (af:Int):List Int→Nat→(List Int)→Int→Option (List Int)
  | [],ac,ab,ad=>(Zv ab (i64.wrap ((aa:Int)+(ae.length:Int)))).bind fun al=>(some (ab.set (Int.toNat (i64.wrap ((aa:Int)+(ae.length:Int)))) (u32.wrap ad))).bind fun ai=>kk_L1 (aa+1) ai
  | ag :: aj,ac,ab,ad=>(Zv ab (i64.wrap ((aa:Int)+(ac:Int)))).bind fun ah=>(some (ab.set (Int.toNat (i64.wrap ((aa:Int)+(ac:Int)))) (u32.wrap (u64.wrap (ad+(u64.wrap ((u64.wrap ((u64.wrap af) * (u64.wrap ag)))+(u64.wrap ah)))))))).bind fun ak=>(Za5 ae aa kk_L1 af aj) (ac+1) ak (X0 .u64 (u64.wrap (ad+(u64.wrap ((u64.wrap ((u64.wrap af) * (u64.wrap ag)))+(u64.wrap ah))))) 32)
termination_by structural x=>x
def Qd (N:Nat) (aa:List Int):List Int→Nat→(List Int)→Option (List Int)
  | [],ac,ab=>(Um N ab).bind fun ad=>some ad
  | ae :: af,ac,ab=>Za5 aa ac (Qd N aa af) ae aa 0 ab 0
termination_by structural x=>x
def Zcg (N:Nat) (ac:List Int) (ad:List Int):Option (List Int):=
  (Un N ac).bind fun aa=>(Un N ad).bind fun ab=>Xb ((Int.toNat (i64.wrap ((aa.length:Int)+(ab.length:Int)))) * 4≤281474976710656∧(Int.toNat (i64.wrap ((aa.length:Int)+(ab.length:Int))))≤maxLen∧0≤(i64.wrap ((aa.length:Int)+(ab.length:Int)))) (Qd N ab aa 0 (List.replicate (Int.toNat (i64.wrap ((aa.length:Int)+(ab.length:Int)))) (0:Int)))
theorem Zna (N:Nat) (c1:Nat) (col:Zh) (w0:World) (a0:Option Addr) (bh:Nat) (a6:List Int) (a1:Option Addr) (bi:Nat) (a7:List Int) (h0:Sl (Za.int .u32) col w0 a0 bh a6) (h1:Sl (Za.int .u32) col w0 a1 bi a7) (r:List Int) (hm:Zcg N a6 a7=some r):
    Calls Tryz.prog 113 #[.slice a0 a6.length bh,.slice a1 a7.length bi] w0 (fun e w'=>∃ (col':Zh) (ra1:Option Addr) (rc2:Nat),e= .returned ((.slice ra1 r.length rc2))∧Zf col w0 col' w'∧Zl (Za.int .u32) 79 c1 col' w' ra1 rc2 r):=by
 refine Xv 4 (m:=71) func113 rfl rfl rfl rfl rfl ?_;rw [Zcg.eq_1] at hm;have aa:=St.start col w0;refine Zb<|Zd<|Zu rfl<|Zc<|Zb<|Zd<|Zk rfl ?_;obtain ⟨ad,b0,hm⟩:=bZ hm;replace h0:=h0.keep (Zp.start col w0);refine lc rfl rfl (Z7 call217 rfl) (Tm N (Zo col) _ a0 bh a6 (h0.ks aa) ad b0) ?_;rintro _ cr ⟨b1,a8,a9,rfl,b2,ae⟩;refine ⟨_,rfl,?_⟩;refine Zk rfl ?_;obtain ⟨ab,b3,hm⟩:=bZ hm;replace h1:=h1.keep (Zp.start col w0);replace aa:=aa.grow b2;refine lc rfl rfl (Z7 call217 rfl) (Tm N b1 _ a1 bi a7 (h1.ks aa) ab b3) ?_;rintro _ b4 ⟨b5,ax,ay,rfl,bu,af⟩;refine ⟨_,rfl,?_⟩;refine Zu rfl<|Zu rfl<|Zc<|Zb<|Zd<|Zk rfl<|lV _ (Zs underlying43 rfl)<|Zk rfl<|lV _ (Zs underlying43 rfl)<|lV _ (Z5 _ _ rfl rfl) ?_;obtain ⟨ba,hm⟩:=Xd hm;refine Qr (col:=b5) (w:=b4) (r:=(Za.int .u32)) (n:=(Int.toNat (i64.wrap ((ad.length:Int)+(ab.length:Int))))) (x0:=0) 1 rfl underlying43 Tryz.t79 rfl rfl rfl rfl rfl (congrArg (Value.int _) (Int.toNat_of_nonneg ba.2.2).symm) (congrArg (Value.int _) (Int.toNat_of_nonneg ba.2.2).symm) ba.1 ba.2.1 (X8 .u32 0) ?_;intro b6 cs b7 bj b8;refine Zu rfl<|Zc<|Zb<|Zb<|Zd<|Zk rfl<|lV _ (Zs underlying43 rfl)<|Zg rfl<|Zc<|Z0 ?_;replace ae:=(ae.gr bu).gr bj;replace aa:=(aa.grow bu).grow bj;replace af:=af.gr bj;refine Xi (fun n f au=>∃ (ak:Zh) (ah:Nat) (az:Option Addr) (a2:Nat) (av:List Int) (a3:List Int),n=a3.length∧ad.drop ah=a3∧Qd N ab a3 ah av=some r∧St w0 (Zo col) ak au∧Sl (Za.int .u32) ak au ax ay ab∧Sl (Za.int .u32) ak au a8 a9 ad∧Zl (Za.int .u32) 79 1 ak au az a2 av∧f 23=(.int .i64 ah)∧f 1=(.slice ax ab.length ay)∧f 21=(.slice a8 ad.length a9)∧f 22=(.int .i64 ad.length)∧f 5=(.slice az av.length a2)∧f 1000000=(enc [])) ad.length ⟨b7,0,b6,(Int.toNat (i64.wrap ((ad.length:Int)+(ab.length:Int)))),(List.replicate (Int.toNat (i64.wrap ((ad.length:Int)+(ab.length:Int)))) (0:Int)),ad,rfl,rfl,hm,aa,af,ae,b8,rfl,rfl,rfl,rfl,rfl,rfl⟩ ?_;clear hm;intro n f au hI;obtain ⟨ak,ah,az,a2,av,a3,hn,hl,hm,aa,af,ae,bv,bk,bl,bm,bn,bo,bp⟩:=hI;subst hn;refine .lD 23 bk<|.lD 1 bl<|.lD 21 bm<|.lD 22 bn<|.lD 5 bo<|.lD 1000000 bp ?_
 cases a3 with
 | nil=>
  have hk:¬ ((ah:Int)<(ad.length:Int)):=by have:=List.drop_eq_nil_iff.1 hl;omega
  have hkb:=decide_eq_false hk;rw [Qd.eq_1] at hm;refine Zb<|Zd<|lV _ (Z4 _ _ rfl rfl)<|Zc<|Zb<|Wn (congrArg Value.bool hkb) ?_;refine Xl (Xk ?_);refine Zb<|Zd<|Zk rfl ?_;obtain ⟨b9,ca,hm⟩:=bZ hm;refine lc rfl rfl (Z7 call218 rfl) (Tl N 2 (Z3 1 ak) _ az a2 av (bv.toSlF (Z2.int .u32)) b9 ca) ?_;rintro _ ct ⟨cb,cc,cd,rfl,bb,bq⟩;refine ⟨_,rfl,?_⟩;replace bq:=bq.thaw (Xz .u32) bb ((Fz.refl (col:=ak)).froz 1) (by decide);replace bb:=bb.thawR (col:=ak);generalize X1 au.heap.size ak cb=ce at *;refine Zu rfl<|Zc<|Zq ?_;cases hm;replace aa:=aa.grow bb;exact ⟨rfl,Xh w0.heap.size col ce (fun n=>bif Nat.beq n 2 then c1 else 0),cc,cd,rfl,aa.fin (fun n=>bif Nat.beq n 2 then c1 else 0),aa.finOwn (g:=(fun n=>bif Nat.beq n 2 then c1 else 0)) rfl bq (by decide) (by decide) rfl⟩
 | cons ag br=>
  obtain ⟨al,cf,cg⟩:=Wv hl;have hk:(ah:Int)<(ad.length:Int):=by omega
  have hkb:=decide_eq_true hk;rw [Qd.eq_2] at hm;refine Zb<|Zd<|lV _ (Z4 _ _ rfl rfl)<|Zc<|Zb<|Wo (congrArg Value.bool hkb)<|Zr<|Zb<|Z0<|Zb<|Zd<|Zg rfl ?_;refine lV _ (Zx underlying43 sizeOf79 rfl rfl (Zi al).1 (Zi al).2.1 (ae.addr al)) ?_;refine lV _ (Zn isAgg79 rfl (ae.atInt al))<|Zj rfl<|Zj rfl<|Zc<|Zb<|Zd<|Zj rfl<|Zc<|Zb<|Zb<|Zd<|Zk rfl<|lV _ (Zs underlying43 rfl)<|Zg rfl<|Zc<|Z0<|Xi (fun n f a4=>∃ (ar:Zh) (ao:Nat) (am:Option Addr) (an:Nat) (ap:List Int) (ac:Int) (a5:List Int),n=a5.length∧ab.drop ao=a5∧Za5 ab ah (Qd N ab br) ag a5 ao ap ac=some r∧St w0 (Zo col) ar a4∧Sl (Za.int .u32) ar a4 ax ay ab∧Sl (Za.int .u32) ar a4 a8 a9 ad∧Zl (Za.int .u32) 79 1 ar a4 am an ap∧f 30=(.int .i64 ao)∧f 1=(.slice ax ab.length ay)∧f 21=(.slice a8 ad.length a9)∧f 22=(.int .i64 ad.length)∧f 23=(.int .i64 ah)∧f 28=(.slice ax ab.length ay)∧f 29=(.int .i64 ab.length)∧f 5=(.slice am ap.length an)∧f 6=(.int .i64 ah)∧f 7=(.int .u32 ag)∧f 8=(.int .u64 ac)∧f 1000000=(enc [])) ab.length ⟨ak,0,az,a2,av,0,ab,rfl,rfl,hm,aa,af,ae,bv,rfl,rfl,rfl,rfl,rfl,rfl,rfl,rfl,rfl,rfl,rfl,rfl⟩ ?_;clear hm;intro n f a4 hI;obtain ⟨ar,ao,am,an,ap,ac,a5,hn,hl,hm,aa,af,ae,aw,ch,bl,bm,bn,bk,ci,cj,bo,ck,cl,cm,bp⟩:=hI;subst hn;refine .lD 30 ch<|.lD 1 bl<|.lD 21 bm<|.lD 22 bn<|.lD 23 bk<|.lD 28 ci<|.lD 29 cj<|.lD 5 bo<|.lD 6 ck<|.lD 7 cl<|.lD 8 cm<|.lD 1000000 bp ?_
  cases a5 with
  | nil=>
   have hk:¬ ((ao:Int)<(ab.length:Int)):=by have:=List.drop_eq_nil_iff.1 hl;omega
   have hkb:=decide_eq_false hk;rw [Za5.eq_1] at hm;refine Zb<|Zd<|lV _ (Z4 _ _ rfl rfl)<|Zc<|Zb<|Wn (congrArg Value.bool hkb) ?_;refine Xl (Xk ?_);refine Zd<|Zk rfl<|Zg rfl<|Zk rfl<|lV _ (Zs underlying43 rfl)<|lV _ (Z5 _ _ rfl rfl)<|Zg rfl<|lV (.int .u32 (u32.wrap ac)) (Xx ac ⟨_,underlying193⟩ underlying79 rfl) ?_;obtain ⟨cu,bc,hm⟩:=bZ hm;refine lV _ (Zx underlying43 sizeOf79 rfl rfl (Zi bc).1 (Zi bc).2.1 (aw.addr bc)) ?_;obtain ⟨bd,be,hm⟩:=bZ hm;have be:bd=ap.set (Int.toNat (i64.wrap ((ah:Int)+(ab.length:Int)))) (u32.wrap ac):=(Option.some.inj be).symm;refine Ww (x1:=u32.wrap ac) (v:=(.int .u32 (u32.wrap ac))) aw bc rfl sizeOf79 (X8 .u32 (u32.wrap ac)) rfl rfl (by decide) ?_;intro cv bs cn bw;rw [← be] at bw;refine .ld (d:=5) (v:=(.slice am bd.length an)) (congrArg (fun n=>Value.slice am n an) (show ap.length=bd.length by rw [be,List.length_set])) ?_;refine Zc<|Zd<|lV _ (Z5 _ _ rfl rfl)<|Zg rfl<|Zc ?_;replace af:=af.kp bs;replace ae:=ae.kp bs;replace aa:=aa.kp bs cn;exact ⟨br.length,by simp,⟨ar,(ah+1),am,an,bd,br,rfl,cf,hm,aa,af,ae,bw,(congrArg (Value.int .i64) (Wy (Nat.lt_of_lt_of_le cg ae.1.1))),rfl,rfl,rfl,rfl,rfl⟩⟩
  | cons ai bx=>
   obtain ⟨al,co,cp⟩:=Wv hl;have hk:(ao:Int)<(ab.length:Int):=by omega
   have hkb:=decide_eq_true hk;rw [Za5.eq_2] at hm;refine Zb<|Zd<|lV _ (Z4 _ _ rfl rfl)<|Zc<|Zb<|Wo (congrArg Value.bool hkb)<|Zr<|Zb<|Z0<|Zb<|Zd<|Zg rfl ?_;refine lV _ (Zx underlying43 sizeOf79 rfl rfl (Zi al).1 (Zi al).2.1 (af.addr al)) ?_;refine lV _ (Zn isAgg79 rfl (af.atInt al))<|Zj rfl<|Zj rfl<|Zc<|Zb<|Zd<|Zg rfl<|Zg rfl<|lV (.int .u64 (u64.wrap ag)) (Xx ag ⟨_,underlying79⟩ underlying193 rfl)<|Zg rfl<|lV (.int .u64 (u64.wrap ai)) (Xx ai ⟨_,underlying79⟩ underlying193 rfl)<|lV _ (Ur _ _ rfl rfl)<|Zk rfl<|Zg rfl<|Zg rfl<|lV _ (Z5 _ _ rfl rfl) ?_;obtain ⟨aj,aq,hm⟩:=bZ hm;refine lV _ (Zx underlying43 sizeOf79 rfl rfl (Zi aq).1 (Zi aq).2.1 (aw.addr aq)) ?_;refine lV _ (Zn isAgg79 rfl (aw.atInt aq))<|lV (.int .u64 (u64.wrap aj)) (Xx aj ⟨_,underlying79⟩ underlying193 rfl)<|lV _ (Z5 _ _ rfl rfl)<|lV _ (Z5 _ _ rfl rfl)<|Zj rfl<|Zc<|Zb<|Zd<|Zk rfl<|Zg rfl<|Zg rfl<|lV _ (Z5 _ _ rfl rfl)<|Zg rfl<|lV (.int .u32 (u32.wrap (u64.wrap (ac+(u64.wrap ((u64.wrap ((u64.wrap ag) * (u64.wrap ai)))+(u64.wrap aj))))))) (Xx (u64.wrap (ac+(u64.wrap ((u64.wrap ((u64.wrap ag) * (u64.wrap ai)))+(u64.wrap aj))))) ⟨_,underlying193⟩ underlying79 rfl) ?_;refine lV _ (Zx underlying43 sizeOf79 rfl rfl (Zi aq).1 (Zi aq).2.1 (aw.addr aq)) ?_;obtain ⟨bf,bg,hm⟩:=bZ hm;have bg:bf=ap.set (Int.toNat (i64.wrap ((ah:Int)+(ao:Int)))) (u32.wrap (u64.wrap (ac+(u64.wrap ((u64.wrap ((u64.wrap ag) * (u64.wrap ai)))+(u64.wrap aj)))))):=(Option.some.inj bg).symm;refine Ww (x1:=u32.wrap (u64.wrap (ac+(u64.wrap ((u64.wrap ((u64.wrap ag) * (u64.wrap ai)))+(u64.wrap aj)))))) (v:=(.int .u32 (u32.wrap (u64.wrap (ac+(u64.wrap ((u64.wrap ((u64.wrap ag) * (u64.wrap ai)))+(u64.wrap aj)))))))) aw aq rfl sizeOf79 (X8 .u32 (u32.wrap (u64.wrap (ac+(u64.wrap ((u64.wrap ((u64.wrap ag) * (u64.wrap ai)))+(u64.wrap aj))))))) rfl rfl (by decide) ?_;intro cw bt cq bz;rw [← bg] at bz;refine .ld (d:=5) (v:=(.slice am bf.length an)) (congrArg (fun n=>Value.slice am n an) (show ap.length=bf.length by rw [bg,List.length_set])) ?_
   refine Zc<|Zd<|Zg rfl<|lV (.int .u64 (X0 .u64 (u64.wrap (ac+(u64.wrap ((u64.wrap ((u64.wrap ag) * (u64.wrap ai)))+(u64.wrap aj))))) 32)) (T8 (u64.wrap (ac+(u64.wrap ((u64.wrap ((u64.wrap ag) * (u64.wrap ai)))+(u64.wrap aj))))) 32 rfl rfl (by decide))<|Zj rfl<|Zc<|Zd<|lV _ (Z5 _ _ rfl rfl)<|Zg rfl<|Zc ?_;replace af:=af.kp bt;replace ae:=ae.kp bt;replace aa:=aa.kp bt cq;exact ⟨bx.length,by simp,⟨ar,(ao+1),am,an,bf,(X0 .u64 (u64.wrap (ac+(u64.wrap ((u64.wrap ((u64.wrap ag) * (u64.wrap ai)))+(u64.wrap aj))))) 32),bx,rfl,co,hm,aa,af,ae,bz,(congrArg (Value.int .i64) (Wy (Nat.lt_of_lt_of_le cp af.1.1))),rfl,rfl,rfl,rfl,rfl,rfl,rfl,rfl,rfl,rfl,rfl⟩⟩
theorem Zwk:Y2 Tryz.prog 79 1 4:=⟨Tryz.t79,_,rfl,rfl,rfl,rfl,rfl⟩
def Q0 (N:Nat) (aa:Int):Option (List Int):=
  (Um N [u32.wrap aa,u32.wrap (X0 .u64 aa 32)]).bind fun ab=>some ab
theorem Zgy (N:Nat) (c1:Nat) (col:Zh) (w0:World) (aa:Int) (r:List Int) (hm:Q0 N aa=some r):
    Calls Tryz.prog 181 #[.int .u64 aa] w0 (fun e w'=>∃ (col':Zh) (ra1:Option Addr) (rc2:Nat),e= .returned ((.slice ra1 r.length rc2))∧Zf col w0 col' w'∧Zl (Za.int .u32) 79 c1 col' w' ra1 rc2 r):=by
 refine Xv 2 (m:=10) func181 rfl rfl rfl rfl rfl ?_;rw [Q0.eq_1] at hm;have ab:=St.start col w0;refine Zb<|Zd<|Zu rfl<|Zc<|Zb<|Zd<|Zg rfl<|lV (.int .u32 (u32.wrap aa)) (Xx aa ⟨_,underlying193⟩ underlying79 rfl)<|Zg rfl<|lV (.int .u64 (X0 .u64 aa 32)) (T8 aa 32 rfl rfl (by decide))<|lV (.int .u32 (u32.wrap (X0 .u64 aa 32))) (Xx (X0 .u64 aa 32) ⟨_,underlying193⟩ underlying79 rfl)<|Wk (col:=(Zo col)) (r:=(Za.int .u32)) (xs:=[u32.wrap aa,u32.wrap (X0 .u64 aa 32)]) [.int .u32 (u32.wrap aa),.int .u32 (u32.wrap (X0 .u64 aa 32))] 1 rfl underlying43 Zwk rfl rfl rfl rfl rfl rfl (by intro v hv;simp only [List.mem_cons,List.not_mem_nil,or_false] at hv;rcases hv with rfl | rfl <;> rfl) (Y6.ofF (Rows.consF (r:=(Za.int .u32)) (x:=u32.wrap aa) (cs:=[.int .u32 (u32.wrap aa)]) (X8 .u32 (u32.wrap aa)) (Rows.consF (r:=(Za.int .u32)) (x:=u32.wrap (X0 .u64 aa 32)) (cs:=[.int .u32 (u32.wrap (X0 .u64 aa 32))]) (X8 .u32 (u32.wrap (X0 .u64 aa 32))) Rows.nil0))) ?_;intro af ag ac ah ai;obtain ⟨aj,ak,hm⟩:=bZ hm;refine lc rfl rfl (Z7 call218 rfl) (Tl N 2 (Z3 1 ac) _ af 2 [u32.wrap aa,u32.wrap (X0 .u64 aa 32)] (ai.toSlF (Z2.int .u32)) aj ak) ?_;rintro _ ap ⟨al,am,an,rfl,ad,ae⟩;refine ⟨_,rfl,?_⟩;replace ae:=ae.thaw (Xz .u32) ad ((Fz.refl (col:=ac)).froz 1) (by decide);replace ad:=ad.thawR (col:=ac);generalize X1 ag.heap.size ac al=ao at *;refine Zu rfl<|Zc<|Zq ?_;cases hm;replace ab:=(ab.grow ah).grow ad;exact ⟨rfl,Xh w0.heap.size col ao (fun n=>bif Nat.beq n 2 then c1 else 0),am,an,rfl,ab.fin (fun n=>bif Nat.beq n 2 then c1 else 0),ab.finOwn (g:=(fun n=>bif Nat.beq n 2 then c1 else 0)) rfl ae (by decide) (by decide) rfl⟩
def Zch (N:Nat) (aa:List Int):Option (List Int):=
  (Um N aa).bind fun ab=>some ab
theorem Zlb (N:Nat) (c1:Nat) (col:Zh) (w0:World) (a0:Option Addr) (ac:Nat) (ab:List Int) (h0:Sl (Za.int .u32) col w0 a0 ac ab) (r:List Int) (hm:Zch N ab=some r):
    Calls Tryz.prog 255 #[.slice a0 ab.length ac] w0 (fun e w'=>∃ (col':Zh) (ra1:Option Addr) (rc2:Nat),e= .returned ((.slice ra1 r.length rc2))∧Zf col w0 col' w'∧Zl (Za.int .u32) 79 c1 col' w' ra1 rc2 r):=by
 refine Xv 2 (m:=5) func255 rfl rfl rfl rfl rfl ?_;rw [Zch.eq_1] at hm;have aa:=St.start col w0;refine Zb<|Zd<|Zu rfl<|Zc<|Zb<|Zd<|Zk rfl ?_;obtain ⟨ad,ae,hm⟩:=bZ hm;replace h0:=h0.keep (Zp.start col w0);refine lc rfl rfl (Z7 call218 rfl) (Tl N 1 (Zo col) _ a0 ac ab (h0.ks aa) ad ae) ?_;rintro _ ak ⟨af,ag,ah,rfl,ai,aj⟩;refine ⟨_,rfl,?_⟩;refine Zu rfl<|Zc<|Zq ?_;cases hm;replace aa:=aa.grow ai;exact ⟨rfl,Xh w0.heap.size col af (fun n=>bif Nat.beq n 1 then c1 else 0),ag,ah,rfl,aa.fin (fun n=>bif Nat.beq n 1 then c1 else 0),aa.finOwn (g:=(fun n=>bif Nat.beq n 1 then c1 else 0)) rfl aj (by decide) (by decide) rfl⟩
theorem Zku (N:Nat):∀ (n:Nat) (a:List Int),Zw a→a.length<n→a.length<4611686018427387904→Tg N n a=some (Zm (Ze a))
 | 0,a,_,h,_=>by omega
 | n+1,a,h,hn,hb=>by
  rw [Tg.eq_2]
  by_cases h0:0<a.length
  ·have e:(a.length:Int) - 1=((a.length - 1:Nat):Int):=by omega
   rw [if_pos (by simpa using h0),Z6 (by omega),e,Xg (by omega),Option.bind_some,Q2,Z6 (by omega),e]
   by_cases hx:a[a.length - 1]=0
   ·rw [if_pos (by simpa using hx),Xj (by omega),Int.toNat_natCast,Zku N n _ (h.take _) (by rw [List.length_take];omega) (by rw [List.length_take];omega)]
    conv=>rhs;rw [← Zeb h0,hx,Zqw]
   ·rw [if_neg (by simpa using hx)]
    have e2:=Zeb h0
    have e3:=Zxk (a:=a.take (a.length - 1)) (x:=a[a.length - 1]) (by rw [e2];exact h) hx
    rw [e2] at e3
    rw [e3]
  ·have h1:a=[]:=List.eq_nil_of_length_eq_zero (by omega)
   subst h1
   rw [if_neg (by simp),Q2,if_neg (by decide),Yx,Va]
theorem Sa {N:Nat} {a:List Int} (h:Zw a) (hn:a.length<N) (hb:a.length≤1099511627776):Un N a=some (Zm (Ze a)):=by
 rw [Un];exact Zku N N a h hn (by omega)
theorem Zll {a:List Int} (hb:a.length≤2199023255552):Zdm a=some a:=by
 rw [Zdm,Xj (by simp only [List.length_nil,maxLen];omega),List.nil_append]
theorem T6 {N:Nat} {a:List Int} (h:Zw a) (hn:a.length<N) (hb:a.length≤1099511627776):Um N a=some (Zm (Ze a)):=by
 rw [Um,Sa h hn hb,Option.bind_some]
 have hl:=Yz h
 by_cases h0:Zm (Ze a)=[]
 ·rw [h0,if_pos (by decide)]
 ·have:0<(Zm (Ze a)).length:=List.length_pos_iff.2 h0
  rw [if_neg (by simp;exact h0),Zll (by omega),Option.bind_some]
theorem Zl3 {N:Nat} {a:List Int} (h:Zw a) (hn:a.length<N) (hb:a.length≤1099511627776):Zch N a=some (Zm (Ze a)):=by
 rw [Zch,T6 h hn hb,Option.bind_some]
theorem Zic {N:Nat} {u:Int} (h:0≤u∧u<18446744073709551616) (hn:2<N):Q0 N u=some (Zm u.toNat):=by
 have e:Ze [u32.wrap u,u32.wrap (X0 .u64 u 32)]=u.toNat:=by
  rw [Zdt,Wh,Wh,Yx,IntKind.wrap_u32,IntKind.wrap_u32];omega
 have hl:Zw [u32.wrap u,u32.wrap (X0 .u64 u 32)]:=by
  rw [Zdt,IntKind.wrap_u32,IntKind.wrap_u32]
  exact .cons (by omega) (.cons (by omega) .nil)
 rw [Q0,T6 hl (by simpa using hn) (by simp),Option.bind_some,e]
theorem Zn0 (N:Nat) (a b:List Int) (ha:Zw a) (hb:Zw b) (hl:a.length=b.length) (hs:a.length<4611686018427387904):∀ (n i:Nat),i≤a.length→i<n→a.drop i=b.drop i→Zcd N a b n ((i:Int) - 1)=some (if Ze a<Ze b then -1 else if Ze b<Ze a then 1 else 0)
 | 0,i,_,h,_=>by omega
 | n+1,i,hi,hn,he=>by
  rw [Zcd.eq_2]
  by_cases h0:i=0
  ·subst h0
   rw [if_neg (by decide)]
   rw [List.drop_zero,List.drop_zero] at he
   subst he
   rw [if_neg (by omega),if_neg (by omega)]
  ·have e:(i:Int) - 1=((i - 1:Nat):Int):=by omega
   have h1:i - 1<a.length:=by omega
   have h2:i - 1<b.length:=by omega
   have e1:i - 1+1=i:=by omega
   rw [if_pos (by simp;omega),e,Xg h1,Option.bind_some,Xg h2,Option.bind_some]
   have g1:=ha.get h1
   have g2:=hb.get h2
   have va:=U1 a (i - 1)
   have vb:=U1 b (i - 1)
   rw [Ua h1,e1] at va
   rw [Ua h2,e1,← he] at vb
   have la:=T5 (ha.take (i - 1))
   have lb:=T5 (hb.take (i - 1))
   rw [List.length_take,Nat.min_eq_left (by omega)] at la lb
   have key:∀ x y:Nat,x<y→4294967296 ^ (i - 1) * (x+4294967296 * Ze (a.drop i))+4294967296 ^ (i - 1)≤4294967296 ^ (i - 1) * (y+4294967296 * Ze (a.drop i)):=fun x y hxy=>by
    rw [← Nat.mul_succ];exact Nat.mul_le_mul_left _ (by omega)
   by_cases hlt:a[i - 1]<b[i - 1]
   ·have:=key _ _ (show (a[i - 1]).toNat<(b[i - 1]).toNat by omega)
    rw [if_pos (by simpa using hlt),if_pos (by omega)]
   ·rw [if_neg (by simpa using hlt)]
    by_cases hgt:b[i - 1]<a[i - 1]
    ·have:=key _ _ (show (b[i - 1]).toNat<(a[i - 1]).toNat by omega)
     rw [if_pos (by simpa using hgt),if_neg (by omega),if_pos (by omega)]
    ·rw [if_neg (by simpa using hgt),Z6 (by omega)]
     have:=Zn0 N a b ha hb hl hs n (i - 1) (by omega) (by omega) (by
      rw [List.drop_eq_getElem_cons h1,List.drop_eq_getElem_cons h2,e1,he]
      congr 1;omega)
     exact this
theorem Zp2 {m n:Nat} (h:(Zm m).length<(Zm n).length):m<n:=by
 have h1:=W9 (k:=(Zm m).length) (n:=m)
 have h2:=W9 (k:=(Zm m).length) (n:=n)
 have:=h1.1 (Nat.le_refl _)
 have h3:¬ n<4294967296 ^ (Zm m).length:=fun h4=>by have:=h2.2 h4;omega
 omega
theorem Zlm {N:Nat} {a b:List Int} (ha:Zw a) (hb:Zw b) (h1:a.length<N) (h2:b.length<N) (h3:a.length≤1099511627776) (h4:b.length≤1099511627776):
  Zcc N a b=some (if Ze a<Ze b then -1 else if Ze b<Ze a then 1 else 0):=by
 have la:=Yz ha
 have lb:=Yz hb
 rw [Zcc,Sa ha h1 h3,Option.bind_some,Sa hb h2 h4,Option.bind_some]
 by_cases he:(Zm (Ze a)).length=(Zm (Ze b)).length
 ·rw [if_neg (by simp [he]),Z6 (by omega)]
  have:=Zn0 N (Zm (Ze a)) (Zm (Ze b)) (Xq _) (Xq _) he (by omega) N (Zm (Ze a)).length (Nat.le_refl _) (by omega) (by
   rw [List.drop_eq_nil_of_le (Nat.le_refl _),List.drop_eq_nil_of_le (by omega)])
  rw [this,Xo,Xo]
 ·rw [if_pos (by simp;omega)]
  by_cases hlt:(Zm (Ze a)).length<(Zm (Ze b)).length
  ·rw [if_pos (by simpa using hlt),if_pos (Zp2 hlt)]
  ·have:=Zp2 (m:=Ze b) (n:=Ze a) (by omega)
   rw [if_neg (by simpa using hlt),if_neg (by omega),if_pos this]
def Yc (b:List Int) (k:Nat):Nat:=(b.getD k 0).toNat
theorem Up (b:List Int) (k:Nat):Ze (b.drop k)=Yc b k+4294967296 * Ze (b.drop (k+1)):=by
 by_cases h:k<b.length
 ·rw [Ua h,Yc,List.getD_eq_getElem?_getD,List.getElem?_eq_getElem h,Option.getD_some]
 ·rw [List.drop_eq_nil_of_le (by omega),List.drop_eq_nil_of_le (by omega),Yc,List.getD_eq_getElem?_getD,List.getElem?_eq_none (by omega)];rfl
theorem Zb6 {b:List Int} (h:Zw b) (k:Nat):Yc b k<4294967296:=by
 rw [Yc,List.getD_eq_getElem?_getD]
 by_cases hk:k<b.length
 ·have:=h.get hk
  rw [List.getElem?_eq_getElem hk,Option.getD_some];omega
 ·rw [List.getElem?_eq_none (by omega)];decide
theorem drop_zero {l:List Int} {k:Nat} (h:Zw l) (hk:k<l.length) (h0:Ze (l.drop k)=0):l[k]=0∧Ze (l.drop (k+1))=0:=by
 have:=h.get hk
 rw [Ua hk] at h0
 omega
theorem Sd {l:List Int} {k j:Nat} (v:Int) (h:k<j):(l.set k v).drop j=l.drop j:=by
 rw [List.drop_set,if_pos h]
theorem Zt0 (S S' Q c x y v c' L D:Nat) (h1:S'=S+Q * v) (h2:c+x+y=v+4294967296 * c'):S'+Q * 4294967296 * (c'+L+D)=S+Q * (c+(x+4294967296 * L)+(y+4294967296 * D)):=by
 subst h1
 have:Q * (c+x+y)=Q * (v+4294967296 * c'):=by rw [h2]
 grind
theorem Zmy (N:Nat) (a b:List Int) (ha:Zw a) (hb:Zw b) (hab:b.length≤a.length) (hN:a.length+1<N) (hs:a.length<1099511627776):∀ (l:List Int) (k:Nat) (sum:List Int) (c:Int),Zw l→a.length=k+l.length→sum.length=a.length+1→Zw sum→Ze (sum.drop k)=0→0≤c∧c≤1→
  Tt N a b l k sum c=some (Zm (Ze sum+4294967296 ^ k * (c.toNat+Ze l+Ze (b.drop k))))
 | [],k,sum,c,_,hk,hl,hL,hz,hc=>by
  have hk':k=a.length:=by simpa using hk.symm
  subst hk'
  rw [Tt.eq_1,Xg (by omega),Option.bind_some,Option.bind_some,Int.toNat_natCast,V4 (by omega),
   T6 (hL.set _ (by omega)) (by rw [List.length_set];omega) (by rw [List.length_set];omega),Option.bind_some]
  have h1:=U0 (l:=sum) (k:=a.length) (by omega) c
  have h2:=(drop_zero hL (by omega) hz).1
  rw [h2] at h1
  rw [Yx,List.drop_eq_nil_of_le (by omega),Yx]
  have h3:Ze (sum.set a.length c)=Ze sum+4294967296 ^ a.length * c.toNat:=by simpa using h1
  rw [h3];rfl
 | x :: l,k,sum,c,hx,hk,hl,hL,hz,hc=>by
  have hk1:a.length=k+1+l.length:=by rw [hk,List.length_cons];omega
  have h0:=hx.head
  have hz':=drop_zero hL (by omega) hz
  have hy:=Zb6 hb k
  have hsz:sum[k]'(by omega)=0:=hz'.1
  -- the sum of one place
  have step:∀ s:Int,s=c+x+(Yc b k:Int)→Ze6 k sum (Tt N a b l) s=some (Zm (Ze sum+4294967296 ^ k * (c.toNat+Ze (x :: l)+Ze (b.drop k)))):=fun s hs'=>by
   rw [Ze6,Xg (by omega),Option.bind_some,Option.bind_some,Zjk,Int.toNat_natCast,Zdt]
   have hw:0≤u32.wrap s∧u32.wrap s<4294967296:=by rw [IntKind.wrap_u32];omega
   rw [Zmy N a b ha hb hab hN hs l (k+1) _ _ hx.tail hk1 (by rw [List.length_set];exact hl) (hL.set _ hw) (by rw [Sd _ (by omega)];exact hz'.2) (by omega)]
   have h1:=U0 (l:=sum) (k:=k) (by omega) (u32.wrap s)
   rw [hsz] at h1
   rw [Nat.pow_succ,Wh,Up b k]
   congr 2
   exact Zt0 _ _ _ _ _ _ (u32.wrap s).toNat _ _ _ (by simpa using h1) (by rw [IntKind.wrap_u32];omega)
  rw [Tt.eq_2]
  have hcx:u64.wrap (c+u64.wrap x)=c+x:=by rw [Xy (x:=x) (by omega),Xy (by omega)]
  by_cases hkb:k<b.length
  ·have e:Yc b k=(b[k]).toNat:=by rw [Yc,List.getD_eq_getElem?_getD,List.getElem?_eq_getElem hkb,Option.getD_some]
   have:=hb.get hkb
   rw [if_pos (by simpa using hkb),Xg hkb,Option.bind_some,hcx,Xy (x:=b[k]) (by omega),Xy (by omega)]
   exact step _ (by omega)
  ·have e:Yc b k=0:=by rw [Yc,List.getD_eq_getElem?_getD,List.getElem?_eq_none (by omega)];rfl
   rw [if_neg (by simpa using hkb),hcx]
   exact step _ (by omega)
theorem Zmx {N:Nat} {a b:List Int} (ha:Zw a) (hb:Zw b) (hab:b.length≤a.length) (hN:a.length+1<N) (hs:a.length<1099511627776):Ze5 N a b=some (Zm (Ze a+Ze b)):=by
 rw [Ze5,Z6 (by omega),Xj (by simp only [maxLen];omega),Zmy N a b ha hb hab hN hs a 0 _ 0 ha (by omega) (by rw [List.length_replicate];omega) (.zeros _) (by rw [List.drop_zero];exact U5 _) (by omega),U5,List.drop_zero]
 simp
theorem Zt1 {N:Nat} {a b:List Int} (ha:Zw a) (hb:Zw b) (h1:a.length+1<N) (h2:b.length+1<N) (h3:a.length<1099511627776) (h4:b.length<1099511627776):Zhe N a b=some (Zm (Ze a+Ze b)):=by
 have la:=Yz ha
 have lb:=Yz hb
 rw [Zhe,Sa ha (by omega) (by omega),Option.bind_some,Sa hb (by omega) (by omega),Option.bind_some]
 by_cases h:(Zm (Ze a)).length<(Zm (Ze b)).length
 ·rw [if_pos (by simpa using h),Zmx (Xq _) (Xq _) (by omega) (by omega) (by omega),Xo,Xo,Nat.add_comm]
 ·rw [if_neg (by simpa using h),Zmx (Xq _) (Xq _) (by omega) (by omega) (by omega),Xo,Xo]
theorem Zpz (N:Nat) (a b:List Int) (ha:Zw a) (hb:Zw b) (hs:a.length<1099511627776):∀ (n k:Nat) (r:List Int) (c:Int),k≤a.length→a.length<n+k→r.length=a.length→Zw r→0≤c∧c≤1→r.drop k=a.drop k→
  4294967296 ^ k * (c.toNat+Ze (b.drop k))≤4294967296 ^ k * Ze (a.drop k)→
  ∃ r',Tf N a b n r c (k:Int)=some r'∧r'.length=a.length∧Zw r'∧Ze r'+4294967296 ^ k * (c.toNat+Ze (b.drop k))=Ze r
 | 0,k,r,c,hk,hn,_,_,_,_,_=>by omega
 | n+1,k,r,c,hk,hn,hl,hr,hc,he,hle=>by
  have hQ:0<4294967296 ^ k:=Nat.pow_pos (by decide)
  have hle':c.toNat+Ze (b.drop k)≤Ze (a.drop k):=Nat.le_of_mul_le_mul_left hle hQ
  rw [Tf.eq_2]
  by_cases h0:k<a.length
  ·have ga:=ha.get h0
   have hrk:r[k]'(by omega)=a[k]:=by
    have:(r.drop k)[0]'(by simp;omega)=(a.drop k)[0]'(by simp;omega):=by simp only [he]
    simpa using this
   have hy:=Zb6 hb k
   rw [Up b k,Ua h0] at hle'
   have step:∀ t:Int,t=c+(Yc b k:Int)→∃ r',Zfb r (k:Int) (Tf N a b n) t=some r'∧r'.length=a.length∧Zw r'∧Ze r'+4294967296 ^ k * (c.toNat+Ze (b.drop k))=Ze r:=fun t ht=>by
    have hw:0≤u32.wrap (a[k] - u32.wrap t)∧u32.wrap (a[k] - u32.wrap t)<4294967296:=by rw [IntKind.wrap_u32];omega
    have fin:∀ c':Int,0≤c'∧c'≤1→a[k]+4294967296 * c'=t+u32.wrap (a[k] - u32.wrap t)→∃ r',Zfc r (k:Int) (Tf N a b n) t c'=some r'∧r'.length=a.length∧Zw r'∧Ze r'+4294967296 ^ k * (c.toNat+Ze (b.drop k))=Ze r:=fun c' hc' hv=>by
     rw [Zfc,Xg (by omega),Option.bind_some,Option.bind_some,Zjo,hrk,Z6 (by omega),Int.toNat_natCast]
     obtain ⟨r',q1,q2,q3,q4⟩:=Zpz N a b ha hb hs n (k+1) (r.set k (u32.wrap (a[k] - u32.wrap t))) c' (by omega) (by omega) (by rw [List.length_set];exact hl) (hr.set _ hw) hc' (by
      rw [Sd _ (by omega)]
      have:=congrArg (List.drop 1) he
      simpa [List.drop_drop,Nat.add_comm] using this) (Nat.mul_le_mul_left _ (by omega))
     refine ⟨r',q1,q2,q3,?_⟩
     have h1:=U0 (l:=r) (k:=k) (by omega) (u32.wrap (a[k] - u32.wrap t))
     rw [hrk] at h1
     rw [Up b k]
     rw [Nat.pow_succ] at q4
     have hv':(a[k]).toNat+4294967296 * c'.toNat=c.toNat+Yc b k+(u32.wrap (a[k] - u32.wrap t)).toNat:=by omega
     have hv2:4294967296 ^ k * ((a[k]).toNat+4294967296 * c'.toNat)=4294967296 ^ k * (c.toNat+Yc b k+(u32.wrap (a[k] - u32.wrap t)).toNat):=by rw [hv']
     grind
    rw [Zfb,Xg (by omega),Option.bind_some,hrk,Xy (x:=a[k]) (by omega)]
    by_cases hlt:a[k]<t
    ·rw [if_pos (by simpa using hlt)]
     exact fin 1 (by omega) (by rw [IntKind.wrap_u32,IntKind.wrap_u32];omega)
    ·rw [if_neg (by simpa using hlt)]
     exact fin 0 (by omega) (by rw [IntKind.wrap_u32,IntKind.wrap_u32];omega)
   rw [if_pos (by simpa using h0)]
   by_cases hkb:k<b.length
   ·have e:Yc b k=(b[k]).toNat:=by rw [Yc,List.getD_eq_getElem?_getD,List.getElem?_eq_getElem hkb,Option.getD_some]
    have:=hb.get hkb
    rw [if_pos (by simpa using hkb),Xg hkb,Option.bind_some,Xy (x:=b[k]) (by omega),Xy (by omega)]
    exact step _ (by omega)
   ·have e:Yc b k=0:=by rw [Yc,List.getD_eq_getElem?_getD,List.getElem?_eq_none (by omega)];rfl
    rw [if_neg (by simpa using hkb)]
    exact step _ (by omega)
  ·rw [if_neg (by simpa using h0)]
   rw [List.drop_eq_nil_of_le (show a.length≤k by omega),Yx] at hle'
   exact ⟨r,rfl,hl,hr,by rw [show c.toNat+Ze (b.drop k)=0 by omega];simp⟩
theorem Zte {N:Nat} {a b:List Int} (ha:Zw a) (hb:Zw b) (h1:a.length+1<N) (h2:b.length+1<N) (h3:a.length<1099511627776) (h4:b.length<1099511627776):
  Ze8 N a b=some (if Ze a<Ze b then ([],false) else (Zm (Ze a - Ze b),true)):=by
 have la:=Yz ha
 have lb:=Yz hb
 rw [Ze8,Zlm ha hb (by omega) (by omega) (by omega) (by omega),Option.bind_some]
 by_cases h:Ze a<Ze b
 ·rw [if_pos h,if_pos (by decide),if_pos h]
 ·rw [if_neg h,if_neg (by split <;> decide),if_neg h,Sa ha (by omega) (by omega),Option.bind_some,Zll (by omega),Option.bind_some,Sa hb (by omega) (by omega),Option.bind_some,Zjn]
  obtain ⟨r',q1,q2,q3,q4⟩:=Zpz N (Zm (Ze a)) (Zm (Ze b)) (Xq _) (Xq _) (by omega) N 0 (Zm (Ze a)) 0 (by omega) (by omega) rfl (Xq _) (by omega) rfl (by simp [Xo];omega)
  rw [show ((0:Nat):Int)=0 from rfl] at q1
  rw [q1,Option.bind_some,T6 q3 (by omega) (by omega),Option.bind_some]
  simp [Xo] at q4
  congr 3
  omega
theorem Zqo (P P' Q c x y e v c' L:Nat) (h1:P'+Q * e=P+Q * v) (h2:c+(x * y+e)=v+4294967296 * c'):P'+Q * 4294967296 * (c'+x * L)=P+Q * (c+x * (y+4294967296 * L)):=by
 have:Q * (c+(x * y+e))=Q * (v+4294967296 * c'):=by rw [h2]
 grind
theorem Zqn (b:List Int) (hb:Zw b) (i:Nat) (kk:Nat→List Int→Option (List Int)) (x:Int) (hx:0≤x∧x<4294967296):∀ (l:List Int) (j:Nat) (p:List Int) (c:Int),Zw l→j+l.length=b.length→i+b.length<p.length→p.length<4611686018427387904→Zw p→0≤c∧c<4294967296→Ze (p.drop (i+b.length))=0→
  ∃ p',Za5 b i kk x l j p c=kk (i+1) p'∧p'.length=p.length∧Zw p'∧Ze p'=Ze p+4294967296 ^ (i+j) * (c.toNat+x.toNat * Ze l)∧Ze (p'.drop (i+b.length+1))=0
 | [],j,p,c,_,hj,hp,hs,hL,hc,hz=>by
  have hj':j=b.length:=by simpa using hj
  subst hj'
  have hz':=drop_zero hL hp hz
  rw [Za5.eq_1,Z6 (by omega),show (i:Int)+(b.length:Int)=((i+b.length:Nat):Int) by omega,Xg hp,Option.bind_some,Option.bind_some,Int.toNat_natCast,V4 hc]
  refine ⟨_,rfl,by rw [List.length_set],hL.set _ hc,?_,?_⟩
  ·have h1:=U0 hp c
   rw [hz'.1] at h1
   rw [Yx,Nat.mul_zero,Nat.add_zero]
   simpa using h1
  ·rw [Sd _ (by omega)];exact hz'.2
 | y :: l,j,p,c,hl,hj,hp,hs,hL,hc,hz=>by
  have hy:=hl.head
  have hj1:j+1+l.length=b.length:=by rw [← hj,List.length_cons];omega
  have hij:i+j<p.length:=by omega
  have hg:=hL.get hij
  have hm:x * y≤4294967295 * 4294967295:=Int.mul_le_mul (by omega) (by omega) (by omega) (by omega)
  have hm0:0≤x * y:=Int.mul_nonneg hx.1 hy.1
  rw [Za5.eq_2,Z6 (by omega),show (i:Int)+(j:Int)=((i+j:Nat):Int) by omega,Xg hij,Option.bind_some,Option.bind_some,Int.toNat_natCast,Xy (x:=x) (by omega),Xy (x:=y) (by omega),Xy (x:=p[i+j]) (by omega),Xy (x:=x * y) (by omega),Xy (x:=x * y+p[i+j]) (by omega),Xy (by omega),Zdt]
  generalize hs':c+(x * y+p[i+j])=s
  have hw:0≤u32.wrap s∧u32.wrap s<4294967296:=by rw [IntKind.wrap_u32];omega
  obtain ⟨p',q1,q2,q3,q4,q5⟩:=Zqn b hb i kk x hx l (j+1) (p.set (i+j) (u32.wrap s)) (s / 4294967296) hl.tail hj1 (by rw [List.length_set];exact hp) (by rw [List.length_set];exact hs) (hL.set _ hw) (by omega) (by rw [Sd _ (by omega)];exact hz)
  refine ⟨p',q1,by rw [q2,List.length_set],q3,?_,q5⟩
  rw [q4,← Nat.add_assoc i j 1,Nat.pow_succ,Wh]
  refine Zqo _ _ _ _ _ _ (p[i+j]).toNat (u32.wrap s).toNat _ _ (U0 hij _) ?_
  rw [IntKind.wrap_u32]
  have e1:((x.toNat * y.toNat:Nat):Int)=x * y:=by rw [Int.natCast_mul,Int.toNat_of_nonneg hx.1,Int.toNat_of_nonneg hy.1]
  omega
theorem Zqm (N:Nat) (b:List Int) (hb:Zw b):∀ (l:List Int) (i:Nat) (p:List Int),Zw l→p.length=i+l.length+b.length→p.length<N→p.length<1099511627776→Zw p→Ze (p.drop (i+b.length))=0→
  Qd N b l i p=some (Zm (Ze p+4294967296 ^ i * (Ze l * Ze b)))
 | [],i,p,_,hl,hn,hs,hp,hz=>by
  rw [Qd.eq_1,T6 hp hn (by omega),Option.bind_some,Yx];simp
 | x :: l,i,p,hx,hl,hn,hs,hp,hz=>by
  rw [List.length_cons] at hl
  obtain ⟨p',q1,q2,q3,q4,q5⟩:=Zqn b hb i (Qd N b l) x hx.head b 0 p 0 hb (by omega) (by omega) (by omega) hp (by omega) hz
  rw [Qd.eq_2,q1,Zqm N b hb l (i+1) p' hx.tail (by omega) (by omega) (by omega) q3 (by rw [show i+1+b.length=i+b.length+1 by omega];exact q5),q4,Wh,Nat.pow_succ]
  congr 2
  simp only [Nat.add_zero,Int.toNat_zero,Nat.zero_add]
  grind
theorem Zqp {N:Nat} {a b:List Int} (ha:Zw a) (hb:Zw b) (h1:a.length+b.length<N) (h3:a.length+b.length<1099511627776):Zcg N a b=some (Zm (Ze a * Ze b)):=by
 have la:=Yz ha
 have lb:=Yz hb
 rw [Zcg,Sa ha (by omega) (by omega),Option.bind_some,Sa hb (by omega) (by omega),Option.bind_some,Z6 (by omega),Xj (by simp only [maxLen];omega),
  Zqm N _ (Xq _) _ 0 _ (Xq _) (by rw [List.length_replicate];omega) (by rw [List.length_replicate];omega) (by rw [List.length_replicate];omega) (.zeros _) (by
   rw [List.drop_replicate];exact U5 _),U5,Xo,Xo]
 simp
def Zck (N:Nat) (aa:Int):Nat→(List Int)→Int→Int→Option (Int×List Int)
  | 0,_,_,_=>none
  | af+1,ac,ad,ab=>if (decide (0≤ab))=true then ((Zv ac ab).bind fun ae=>Xb ((u64.wrap aa)≠0) ((some (ac.set (Int.toNat ab) (u32.wrap (u64.wrap (Int.tdiv (Yi .u64 (Xt .u64 ad 32) (u64.wrap ae)) (u64.wrap aa)))))).bind fun ag=>Xb ((u64.wrap aa)≠0) ((Zck N aa af) ag (Int.tmod (Yi .u64 (Xt .u64 ad 32) (u64.wrap ae)) (u64.wrap aa)) (i64.wrap (ab - 1))))) else (some (u32.wrap ad,ac))
termination_by structural x=>x
def Zhl (N:Nat) (aa:List Int) (ab:Int):Option (Int×List Int):=
  Zck N ab N aa 0 (i64.wrap ((aa.length:Int) - 1))
theorem Zuz (N:Nat) (col:Zh) (w0:World) (qc0:Nat) (hd:S4 [qc0]=true) (a0:Option Addr) (ag:Nat) (ad:List Int) (ab:Int) (h0:Zl (Za.int .u32) 79 qc0 col w0 a0 ag ad) (r:(Int×List Int)) (hm:Zhl N ad ab=some r):
    Calls Tryz.prog 283 #[.slice a0 ad.length ag,.int .u32 ab] w0 (fun e w'=>∃ (col':Zh),e= .returned ((.int .u32 r.1))∧Xu (pS [qc0]) col w0 col' w'∧Zl (Za.int .u32) 79 qc0 col' w' a0 ag r.2∧r.2.length=ad.length):=by
 refine Xv 4 (m:=36) func283 rfl rfl rfl rfl rfl ?_;rw [Zhl.eq_1] at hm;have ah:=St.startL (l:=[qc0]) rfl col w0;replace h0:=h0.startL (Zas hd 0 rfl) (Zar hd 0 rfl);refine Zb<|Zd<|Zj rfl<|Zc<|Zb<|Zd<|Zj rfl<|Zc<|Zb<|Zb<|Zd<|Zk rfl<|lV _ (Zs underlying43 rfl)<|lV _ (Yb _ _ rfl rfl)<|Zj rfl<|Zc<|Z0<|Xi (fun n f ao=>∃ (ak:Zh) (ae:List Int) (aa:Int) (al:Int) (ai:Nat),ai=n∧Zck N ab ai ae aa al=some r∧St w0 (X6 [qc0] col) ak ao∧Zl (Za.int .u32) 79 440 ak ao a0 ag ae∧ae.length=ad.length∧ae.length=ad.length∧f 0=(.slice a0 ae.length ag)∧f 1=(.int .u32 ab)∧f 5=(.int .u64 aa)∧f 6=(.int .i64 al)∧f 1000000=(enc [])) N ⟨(X6 [qc0] col),ad,0,(i64.wrap ((ad.length:Int) - 1)),N,rfl,hm,ah,h0,rfl,rfl,rfl,rfl,rfl,rfl,rfl⟩ ?_;clear hm;intro n f ao hI;obtain ⟨ak,ae,aa,al,ai,hn,hm,ah,am,ar,au,av,aw,ax,ay,az⟩:=hI;subst hn;refine .lD 0 av<|.lD 1 aw<|.lD 5 ax<|.lD 6 ay<|.lD 1000000 az ?_
 cases ai with
 | zero=>rw [Zck.eq_1] at hm;cases hm
 | succ ai=>
  rw [Zck.eq_2] at hm;refine Zb<|Zb<|Zd<|Zg rfl<|lV _ (Uq _ _ rfl rfl)<|Zc ?_;refine Zy _ rfl (fun hb=>?_) (fun hb=>?_)
  ·rw [if_pos hb] at hm;refine Zr<|Zb<|Z0<|Zb<|Zd<|Zg rfl<|lV (.int .u64 (Xt .u64 aa 32)) (Zdr aa 32 rfl rfl (by decide))<|Zk rfl<|Zg rfl ?_;obtain ⟨ac,af,hm⟩:=bZ hm;refine lV _ (Zx underlying43 sizeOf79 rfl rfl (Zi af).1 (Zi af).2.1 (am.addr af)) ?_;refine lV _ (Zn isAgg79 rfl (am.atInt af))<|lV (.int .u64 (u64.wrap ac)) (Xx ac ⟨_,underlying79⟩ underlying193 rfl)<|lV (.int .u64 (Yi .u64 (Xt .u64 aa 32) (u64.wrap ac))) (Zig (Xt .u64 aa 32) (u64.wrap ac) rfl rfl)<|Zj rfl<|Zc<|Zb<|Zd<|Zk rfl<|Zg rfl<|Zg rfl<|Zg rfl<|lV (.int .u64 (u64.wrap ab)) (Xx ab ⟨_,underlying79⟩ underlying193 rfl) ?_;obtain ⟨a1,hm⟩:=Xd hm;refine lV (.int .u64 (u64.wrap (Int.tdiv (Yi .u64 (Xt .u64 aa 32) (u64.wrap ac)) (u64.wrap ab)))) (Ub (Yi .u64 (Xt .u64 aa 32) (u64.wrap ac)) (u64.wrap ab) rfl rfl a1)<|lV (.int .u32 (u32.wrap (u64.wrap (Int.tdiv (Yi .u64 (Xt .u64 aa 32) (u64.wrap ac)) (u64.wrap ab))))) (Xx (u64.wrap (Int.tdiv (Yi .u64 (Xt .u64 aa 32) (u64.wrap ac)) (u64.wrap ab))) ⟨_,underlying193⟩ underlying79 rfl) ?_;refine lV _ (Zx underlying43 sizeOf79 rfl rfl (Zi af).1 (Zi af).2.1 (am.addr af)) ?_;obtain ⟨aj,an,hm⟩:=bZ hm;have an:aj=ae.set (Int.toNat al) (u32.wrap (u64.wrap (Int.tdiv (Yi .u64 (Xt .u64 aa 32) (u64.wrap ac)) (u64.wrap ab)))):=(Option.some.inj an).symm;refine Ww (x1:=u32.wrap (u64.wrap (Int.tdiv (Yi .u64 (Xt .u64 aa 32) (u64.wrap ac)) (u64.wrap ab)))) (v:=(.int .u32 (u32.wrap (u64.wrap (Int.tdiv (Yi .u64 (Xt .u64 aa 32) (u64.wrap ac)) (u64.wrap ab)))))) am af rfl sizeOf79 (X8 .u32 (u32.wrap (u64.wrap (Int.tdiv (Yi .u64 (Xt .u64 aa 32) (u64.wrap ac)) (u64.wrap ab))))) rfl rfl (by decide) ?_;intro a5 a2 a3 ap;rw [← an] at ap;have aq:aj.length=ad.length:=(show ae.length=aj.length by rw [an,List.length_set]).symm.trans ar;refine .ld (d:=0) (v:=(.slice a0 aj.length ag)) (congrArg (fun n=>Value.slice a0 n ag) (show ae.length=aj.length by rw [an,List.length_set])) ?_;refine Zc<|Zd<|Zg rfl<|Zg rfl<|lV (.int .u64 (u64.wrap ab)) (Xx ab ⟨_,underlying79⟩ underlying193 rfl) ?_;obtain ⟨a4,hm⟩:=Xd hm
   refine lV (.int .u64 (Int.tmod (Yi .u64 (Xt .u64 aa 32) (u64.wrap ac)) (u64.wrap ab))) (Sw (Yi .u64 (Xt .u64 aa 32) (u64.wrap ac)) (u64.wrap ab) rfl rfl a4)<|Zj rfl<|Zc<|Zd<|Zg rfl<|lV _ (Yb _ _ rfl rfl)<|Zj rfl<|Zc ?_;replace ah:=ah.kp a2 a3;exact ⟨ai,by omega,⟨ak,aj,(Int.tmod (Yi .u64 (Xt .u64 aa 32) (u64.wrap ac)) (u64.wrap ab)),(i64.wrap (al - 1)),ai,rfl,hm,ah,ap,aq,aq,rfl,rfl,rfl,rfl,rfl⟩⟩
  rw [if_neg (Zz hb)] at hm;refine Xl (Xk ?_);refine Zb<|Zd<|Zg rfl<|lV (.int .u32 (u32.wrap aa)) (Xx aa ⟨_,underlying193⟩ underlying79 rfl)<|Zj rfl<|Zc<|Zq ?_;cases hm;exact ⟨rfl,Uv w0.heap.size [qc0] col ak (fun n=>bif Nat.beq n 440 then qc0 else 0),rfl,ah.finL rfl (fun n=>bif Nat.beq n 440 then qc0 else 0),ah.finOwnL (g:=(fun n=>bif Nat.beq n 440 then qc0 else 0)) rfl am (by decide) (by decide) rfl,au⟩
def Zb9 (aa:Int) (ab:Int):Option Int:=
  (Ziw (⟨#[0,1,2,2,3,3,3,3,4,4,4,4,4,4,4,4,5,5,5,5,5,5,5,5,5,5,5,5,5,5,5,5,6,6,6,6,6,6,6,6,6,6,6,6,6,6,6,6,6,6,6,6,6,6,6,6,6,6,6,6,6,6,6,6,7,7,7,7,7,7,7,7,7,7,7,7,7,7,7,7,7,7,7,7,7,7,7,7,7,7,7,7,7,7,7,7,7,7,7,7,7,7,7,7,7,7,7,7,7,7,7,7,7,7,7,7,7,7,7,7,7,7,7,7,7,7,7,7,8,8,8,8,8,8,8,8,8,8,8,8,8,8,8,8,8,8,8,8,8,8,8,8,8,8,8,8,8,8,8,8,8,8,8,8,8,8,8,8,8,8,8,8,8,8,8,8,8,8,8,8,8,8,8,8,8,8,8,8,8,8,8,8,8,8,8,8,8,8,8,8,8,8,8,8,8,8,8,8,8,8,8,8,8,8,8,8,8,8,8,8,8,8,8,8,8,8,8,8,8,8,8,8,8,8,8,8,8,8,8,8,8,8,8,8,8,8,8,8,8,8,8,8,8,8,8,8]⟩) (u8.wrap aa)).bind fun ac=>some (i64.wrap (ab+(i64.wrap ac)))
def Zeu (aa:Int) (ab:Int):Option Int:=
  if (decide (256≤aa))=true then (Zb9 (X0 .u32 aa 8) (i64.wrap (ab+8))) else (Zb9 aa ab)
def Zet (aa:Int):Option Int:=
  if (decide (65536≤aa))=true then (Zeu (X0 .u32 aa 16) 16) else (Zeu aa 0)
theorem Zm7 (col:Zh) (w0:World) (ac:Int) (r:Int) (hm:Zet ac=some r):
    Calls Tryz.prog 232 #[.int .u32 ac] w0 (fun e w'=>e= .returned ((.int .i64 r))∧Below w0.heap.size w0 w'):=by
 refine Xv 2 (m:=19) func232 rfl rfl rfl rfl rfl ?_;rw [Zet.eq_1] at hm;have aa:=St.start col w0;refine Zb<|Zd<|Zj rfl<|Zc<|Zb ?_;refine Wp.cut (fun f al=>∃ (af:Zh) (ab:Int) (ad:Int),Zeu ab ad=some r∧St w0 (Zo col) af al∧f 0=(.int .u32 ab)∧f 2=(.int .i64 ad)∧f 1000000=(enc [])) ?_ ?_
 ·intro f al hJ;obtain ⟨af,ab,ad,hm,aa,ag,ah,ai⟩:=hJ;rw [Zeu.eq_1] at hm;refine .lD 0 ag<|.lD 2 ah<|.lD 1000000 ai<|Zb ?_;refine Wp.cut (fun f am=>∃ (an:Zh) (ae:Int) (aj:Int),Zb9 ae aj=some r∧St w0 (Zo col) an am∧f 0=(.int .u32 ae)∧f 2=(.int .i64 aj)∧f 1000000=(enc [])) ?_ ?_
  ·intro f am hJ;obtain ⟨an,ae,aj,hm,aa,ag,ah,ai⟩:=hJ;rw [Zb9.eq_1] at hm;refine .lD 0 ag<|.lD 2 ah<|.lD 1000000 ai<|Zb<|Zd<|Zg rfl<|Zg rfl<|lV (.int .u8 (u8.wrap ae)) (Xx ae ⟨_,underlying79⟩ underlying5 rfl) ?_;obtain ⟨ak,ao,hm⟩:=bZ hm;refine lV (.int .u8 ak) (Zyu (s:=(⟨#[0,1,2,2,3,3,3,3,4,4,4,4,4,4,4,4,5,5,5,5,5,5,5,5,5,5,5,5,5,5,5,5,6,6,6,6,6,6,6,6,6,6,6,6,6,6,6,6,6,6,6,6,6,6,6,6,6,6,6,6,6,6,6,6,7,7,7,7,7,7,7,7,7,7,7,7,7,7,7,7,7,7,7,7,7,7,7,7,7,7,7,7,7,7,7,7,7,7,7,7,7,7,7,7,7,7,7,7,7,7,7,7,7,7,7,7,7,7,7,7,7,7,7,7,7,7,7,7,8,8,8,8,8,8,8,8,8,8,8,8,8,8,8,8,8,8,8,8,8,8,8,8,8,8,8,8,8,8,8,8,8,8,8,8,8,8,8,8,8,8,8,8,8,8,8,8,8,8,8,8,8,8,8,8,8,8,8,8,8,8,8,8,8,8,8,8,8,8,8,8,8,8,8,8,8,8,8,8,8,8,8,8,8,8,8,8,8,8,8,8,8,8,8,8,8,8,8,8,8,8,8,8,8,8,8,8,8,8,8,8,8,8,8,8,8,8,8,8,8,8,8,8,8,8,8,8]⟩)) underlying9 rfl rfl ao)<|lV (.int .i64 (i64.wrap ak)) (Xx ak ⟨_,underlying5⟩ underlying3 rfl)<|lV _ (Z5 _ _ rfl rfl)<|Zj rfl<|Zc<|Zq ?_;cases hm;exact ⟨rfl,rfl,aa.below⟩
  refine Zb<|Zd<|Zg rfl<|lV _ (Uq _ _ rfl rfl)<|Zc ?_;refine Zy _ rfl (fun hb=>?_) (fun hb=>?_)
  ·rw [if_pos hb] at hm;refine Zb<|Zd<|Zg rfl<|lV (.int .u32 (X0 .u32 ab 8)) (T8 ab 8 rfl rfl (by decide))<|Zj rfl<|Zc<|Zd<|Zg rfl<|lV _ (Z5 _ _ rfl rfl)<|Zj rfl<|Zc ?_;exact ⟨af,(X0 .u32 ab 8),(i64.wrap (ad+8)),hm,aa,rfl,rfl,rfl⟩
  rw [if_neg (Zz hb)] at hm;refine Zr ?_;exact ⟨af,ab,ad,hm,aa,rfl,rfl,rfl⟩
 refine Zb<|Zd<|Zg rfl<|lV _ (Uq _ _ rfl rfl)<|Zc ?_;refine Zy _ rfl (fun hb=>?_) (fun hb=>?_)
 ·rw [if_pos hb] at hm;refine Zb<|Zd<|Zg rfl<|lV (.int .u32 (X0 .u32 ac 16)) (T8 ac 16 rfl rfl (by decide))<|Zj rfl<|Zc<|Zd<|Zj rfl<|Zc ?_;exact ⟨(Zo col),(X0 .u32 ac 16),16,hm,aa,rfl,rfl,rfl⟩
 rw [if_neg (Zz hb)] at hm;refine Zr ?_;exact ⟨(Zo col),ac,0,hm,aa,rfl,rfl,rfl⟩
def Zhb (aa:Int):Option Int:=
  (Zet aa).bind fun ab=>some (i64.wrap (32 - ab))
theorem Zum (col:Zh) (w0:World) (aa:Int) (r:Int) (hm:Zhb aa=some r):
    Calls Tryz.prog 287 #[.int .u32 aa] w0 (fun e w'=>e= .returned ((.int .i64 r))∧Below w0.heap.size w0 w'):=by
 refine Xv 2 (m:=6) func287 rfl rfl rfl rfl rfl ?_;rw [Zhb.eq_1] at hm;have ab:=St.start col w0;refine Zb<|Zd<|Zj rfl<|Zc<|Zb<|Zd<|Zg rfl ?_;obtain ⟨ad,ae,hm⟩:=bZ hm;refine lc rfl rfl (Z7 call232 rfl) (Zm7 (Zo col) _ aa ad ae) ?_;rintro _ af ⟨rfl,ac⟩;refine ⟨_,rfl,?_⟩;replace ac:Zf (Zo col) w0 (Zo col) af:=.of_below ac;refine lV _ (Yb _ _ rfl rfl)<|Zj rfl<|Zc<|Zq ?_;cases hm;replace ab:=ab.grow ac;exact ⟨rfl,rfl,ab.below⟩
def Za7 (ab:Int):List Int→Nat→(List Int)→Option (List Int)
  | [],aa,ac=>some ac
  | ad :: af,aa,ac=>(Zv ac (aa:Int)).bind fun ag=>Xb (0≤ab) ((some (ac.set (Int.toNat (aa:Int)) (Yi .u32 ag (Xt .u32 ad ab)))).bind fun ae=>Xb (0≤ab) ((Zv ae (i64.wrap ((aa:Int)+1))).bind fun ai=>(some (ae.set (Int.toNat (i64.wrap ((aa:Int)+1))) (u32.wrap (X0 .u64 (Xt .u64 (u64.wrap ad) ab) 32)))).bind fun ah=>(Za7 ab af) (aa+1) ah))
termination_by structural x=>x
def Zfa (aa:List Int) (ab:Int):Option (List Int):=
  Xb ((Int.toNat (i64.wrap ((aa.length:Int)+1))) * 4≤281474976710656∧(Int.toNat (i64.wrap ((aa.length:Int)+1)))≤maxLen∧0≤(i64.wrap ((aa.length:Int)+1))) (Za7 ab aa 0 (List.replicate (Int.toNat (i64.wrap ((aa.length:Int)+1))) (0:Int)))
theorem Znc (c1:Nat) (col:Zh) (w0:World) (a0:Option Addr) (ay:Nat) (ad:List Int) (aa:Int) (h0:Sl (Za.int .u32) col w0 a0 ay ad) (r:List Int) (hm:Zfa ad aa=some r):
    Calls Tryz.prog 277 #[.slice a0 ad.length ay,.int .i64 aa] w0 (fun e w'=>∃ (col':Zh) (ra1:Option Addr) (rc2:Nat),e= .returned ((.slice ra1 r.length rc2))∧Zf col w0 col' w'∧Zl (Za.int .u32) 79 c1 col' w' ra1 rc2 r):=by
 refine Xv 4 (m:=40) func277 rfl rfl rfl rfl rfl ?_;rw [Zfa.eq_1] at hm;have ac:=St.start col w0;refine Zb<|Zd<|Zu rfl<|Zc<|Zb<|Zd<|Zk rfl<|lV _ (Zs underlying43 rfl)<|lV _ (Z5 _ _ rfl rfl) ?_;obtain ⟨ap,hm⟩:=Xd hm;refine Qr (col:=(Zo col)) (w:=w0) (r:=(Za.int .u32)) (n:=(Int.toNat (i64.wrap ((ad.length:Int)+1)))) (x0:=0) 1 rfl underlying43 Tryz.t79 rfl rfl rfl rfl rfl (congrArg (Value.int _) (Int.toNat_of_nonneg ap.2.2).symm) (congrArg (Value.int _) (Int.toNat_of_nonneg ap.2.2).symm) ap.1 ap.2.1 (X8 .u32 0) ?_;intro a3 bo a4 a5 a6;refine Zu rfl<|Zc<|Zb<|Zb<|Zd<|Zk rfl<|lV _ (Zs underlying43 rfl)<|Zg rfl<|Zc<|Z0 ?_;replace ac:=ac.grow a5;refine Xi (fun n f aq=>∃ (ae:Zh) (af:Nat) (ag:Option Addr) (ah:Nat) (ak:List Int) (am:List Int),n=am.length∧ad.drop af=am∧Za7 aa am af ak=some r∧St w0 (Zo col) ae aq∧Zl (Za.int .u32) 79 1 ae aq ag ah ak∧f 14=(.int .i64 af)∧f 1=(.int .i64 aa)∧f 12=(.slice a0 ad.length ay)∧f 13=(.int .i64 ad.length)∧f 5=(.slice ag ak.length ah)∧f 1000000=(enc [])) ad.length ⟨a4,0,a3,(Int.toNat (i64.wrap ((ad.length:Int)+1))),(List.replicate (Int.toNat (i64.wrap ((ad.length:Int)+1))) (0:Int)),ad,rfl,rfl,hm,ac,a6,rfl,rfl,rfl,rfl,rfl,rfl⟩ ?_;clear hm;intro n f aq hI;obtain ⟨ae,af,ag,ah,ak,am,hn,hl,hm,ac,aj,a7,a8,a9,ba,bb,bc⟩:=hI;subst hn;refine .lD 14 a7<|.lD 1 a8<|.lD 12 a9<|.lD 13 ba<|.lD 5 bb<|.lD 1000000 bc ?_;replace h0:=h0.keep (Zp.start col w0)
 cases am with
 | nil=>
  have hk:¬ ((af:Int)<(ad.length:Int)):=by have:=List.drop_eq_nil_iff.1 hl;omega
  have hkb:=decide_eq_false hk;rw [Za7.eq_1] at hm;refine Zb<|Zd<|lV _ (Z4 _ _ rfl rfl)<|Zc<|Zb<|Wn (congrArg Value.bool hkb) ?_;refine Xl (Xk ?_);refine Zb<|Zd<|Zk rfl<|Zu rfl<|Zc<|Zq ?_;cases hm;exact ⟨rfl,Xh w0.heap.size col ae (fun n=>bif Nat.beq n 1 then c1 else 0),ag,ah,rfl,ac.fin (fun n=>bif Nat.beq n 1 then c1 else 0),ac.finOwn (g:=(fun n=>bif Nat.beq n 1 then c1 else 0)) rfl aj (by decide) (by decide) rfl⟩
 | cons ab az=>
  obtain ⟨ar,bd,be⟩:=Wv hl;have hk:(af:Int)<(ad.length:Int):=by omega
  have hkb:=decide_eq_true hk;rw [Za7.eq_2] at hm;refine Zb<|Zd<|lV _ (Z4 _ _ rfl rfl)<|Zc<|Zb<|Wo (congrArg Value.bool hkb)<|Zr<|Zb<|Z0<|Zb<|Zd<|Zg rfl ?_;refine lV _ (Zx underlying43 sizeOf79 rfl rfl (Zi ar).1 (Zi ar).2.1 ((h0.ks ac).addr ar)) ?_;refine lV _ (Zn isAgg79 rfl ((h0.ks ac).atInt ar))<|Zj rfl<|Zj rfl<|Zc<|Zb<|Vn (col:=ae) [(0,1),(1,1),(2,1),(3,0),(4,1),(5,1),(6,1),(7,1),(8,1),(9,2)] (by kernel_rfl) (by kernel_rfl)<|xu rfl rfl (fun _=>Yr rfl) ?_;refine xu rfl rfl (fun _=>Xp rfl) ?_;obtain ⟨al,ai,hm⟩:=bZ hm;refine xu rfl rfl (fun _=>Zx underlying43 sizeOf79 rfl rfl (Zi ai).1 (Zi ai).2.1 (aj.addr ai)) ?_;refine xv rfl rfl (fun _ hC=>Zn isAgg79 rfl ((aj.gr (hC.bl ae)).atInt ai)) ?_;refine xu rfl rfl (fun _=>Xp rfl) ?_;refine xu rfl rfl (fun _=>Xp rfl) ?_;obtain ⟨bf,hm⟩:=Xd hm;refine xu (v:=(.int .u32 (Xt .u32 ab aa))) rfl rfl (fun _=>Zdr ab aa rfl rfl bf) ?_;refine xu (v:=(.int .u32 (Yi .u32 al (Xt .u32 ab aa)))) rfl rfl (fun _=>Zig al (Xt .u32 ab aa) rfl rfl) ?_;refine xu rfl rfl (fun _=>Zx underlying43 sizeOf79 rfl rfl (Zi ai).1 (Zi ai).2.1 (aj.addr ai)) ?_;refine xe rfl rfl ?_;intro bg hC0;have hC:Zf ae aq ae bg:=.of_below hC0.below;obtain ⟨an,au,hm⟩:=bZ hm;have au:an=ak.set (Int.toNat (af:Int)) (Yi .u32 al (Xt .u32 ab aa)):=(Option.some.inj au).symm;replace aj:=aj.gr hC;refine Ww (x1:=Yi .u32 al (Xt .u32 ab aa)) (v:=(.int .u32 (Yi .u32 al (Xt .u32 ab aa)))) aj ai rfl sizeOf79 (X8 .u32 (Yi .u32 al (Xt .u32 ab aa))) rfl rfl (by decide) ?_;intro a1 bh bi ao;rw [← au] at ao;refine .ld (d:=5) (v:=(.slice ag an.length ah)) (congrArg (fun n=>Value.slice ag n ah) (show ak.length=an.length by rw [au,List.length_set])) ?_;refine Zc ⟨fun w'=>Zf ae a1 ae w',Zf.refl _ _,fun h=>absurd h (by decide),?_⟩;refine Ve ?_;replace ac:=(ac.grow hC).kp bh bi;intro bj hC;replace hC:Zf ae a1 ae bj:=.of_below hC.below;refine Zd<|Zk rfl<|Zg rfl<|lV _ (Z5 _ _ rfl rfl)<|Zg rfl<|lV (.int .u64 (u64.wrap ab)) (Xx ab ⟨_,underlying79⟩ underlying193 rfl)<|Zg rfl ?_;obtain ⟨bk,hm⟩:=Xd hm
  refine lV (.int .u64 (Xt .u64 (u64.wrap ab) aa)) (Zdr (u64.wrap ab) aa rfl rfl bk)<|lV (.int .u64 (X0 .u64 (Xt .u64 (u64.wrap ab) aa) 32)) (T8 (Xt .u64 (u64.wrap ab) aa) 32 rfl rfl (by decide))<|lV (.int .u32 (u32.wrap (X0 .u64 (Xt .u64 (u64.wrap ab) aa) 32))) (Xx (X0 .u64 (Xt .u64 (u64.wrap ab) aa) 32) ⟨_,underlying193⟩ underlying79 rfl) ?_;obtain ⟨bp,av,hm⟩:=bZ hm;replace ao:=ao.gr hC;refine lV _ (Zx underlying43 sizeOf79 rfl rfl (Zi av).1 (Zi av).2.1 (ao.addr av)) ?_;obtain ⟨aw,ax,hm⟩:=bZ hm;have ax:aw=an.set (Int.toNat (i64.wrap ((af:Int)+1))) (u32.wrap (X0 .u64 (Xt .u64 (u64.wrap ab) aa) 32)):=(Option.some.inj ax).symm;refine Ww (x1:=u32.wrap (X0 .u64 (Xt .u64 (u64.wrap ab) aa) 32)) (v:=(.int .u32 (u32.wrap (X0 .u64 (Xt .u64 (u64.wrap ab) aa) 32)))) ao av rfl sizeOf79 (X8 .u32 (u32.wrap (X0 .u64 (Xt .u64 (u64.wrap ab) aa) 32))) rfl rfl (by decide) ?_;intro bq bm bn a2;rw [← ax] at a2;refine .ld (d:=5) (v:=(.slice ag aw.length ah)) (congrArg (fun n=>Value.slice ag n ah) (show an.length=aw.length by rw [ax,List.length_set])) ?_;refine Zc<|Zd<|lV _ (Z5 _ _ rfl rfl)<|Zg rfl<|Zc ?_;replace ac:=(ac.grow hC).kp bm bn;exact ⟨az.length,by simp,⟨ae,(af+1),ag,ah,aw,az,rfl,bd,hm,ac,a2,(congrArg (Value.int .i64) (Wy (Nat.lt_of_lt_of_le be (h0.ks ac).1.1))),rfl,rfl,rfl,rfl,rfl⟩⟩
def Zhm (aa:List Int) (kk_L1:(List Int→Option (List Int))) (ab:Bool):Option (List Int):=
  if ab=true then (Xb ((0:Int)≤(i64.wrap ((aa.length:Int) - 1))∧(i64.wrap ((aa.length:Int) - 1))≤(aa.length:Int)) (kk_L1 (aa.take (Int.toNat (i64.wrap ((aa.length:Int) - 1)))))) else (some aa)
def Q3 (N:Nat):Nat→(List Int)→Option (List Int)
  | 0,_=>none
  | ab+1,aa=>if (decide (0<(aa.length:Int)))=true then ((Zv aa (i64.wrap ((aa.length:Int) - 1))).bind fun ac=>Zhm aa (Q3 N ab) (decide (ac=0))) else (Zhm aa (Q3 N ab) false)
termination_by structural x=>x
def Zcl (N:Nat) (aa:List Int):Option (List Int):=
  Q3 N N aa
theorem Znd (N:Nat) (col:Zh) (w0:World) (qc0:Nat) (hd:S4 [qc0]=true) (a0:Option Addr) (al:Nat) (aj:List Int) (h0:Zl (Za.int .u32) 79 qc0 col w0 a0 al aj) (r:List Int) (hm:Zcl N aj=some r):
    Calls Tryz.prog 217 #[.slice a0 aj.length al] w0 (fun e w'=>∃ (col':Zh) (ra1:Option Addr) (rc2:Nat),e= .returned ((.slice ra1 r.length rc2))∧Xu (pS [qc0]) col w0 col' w'∧Zl (Za.int .u32) 79 qc0 col' w' ra1 rc2 r):=by
 refine Xv 2 (m:=21) func217 rfl rfl rfl rfl rfl ?_;rw [Zcl.eq_1] at hm;have ae:=St.startL (l:=[qc0]) rfl col w0;replace h0:=h0.startL (Zas hd 0 rfl) (Zar hd 0 rfl);refine Zb<|Zd<|Zu rfl<|Zc<|Zb<|Z0<|Xi (fun n f am=>∃ (ah:Zh) (ac:Option Addr) (ad:Nat) (ab:List Int) (af:Nat),af=n∧Q3 N af ab=some r∧St w0 (X6 [qc0] col) ah am∧Zl (Za.int .u32) 79 440 ah am ac ad ab∧f 0=(.slice ac ab.length ad)∧f 1000000=(enc [])) N ⟨(X6 [qc0] col),a0,al,aj,N,rfl,hm,ae,h0,rfl,rfl⟩ ?_;clear hm;intro n f am hI;obtain ⟨ah,ac,ad,ab,af,hn,hm,ae,ag,an,ao⟩:=hI;subst hn;refine .lD 0 an<|.lD 1000000 ao ?_
 cases af with
 | zero=>rw [Q3.eq_1] at hm;cases hm
 | succ af=>
  rw [Q3.eq_2] at hm;refine Zb<|Zb ?_;refine Wp.cut (fun f ap=>∃ (ai:Zh) (aq:Bool),Zhm ab (Q3 N af) aq=some r∧St w0 (X6 [qc0] col) ai ap∧Zl (Za.int .u32) 79 440 ai ap ac ad ab∧f 0=(.slice ac ab.length ad)∧f 14=(.bool aq)∧f 1000000=(enc [])) ?_ ?_
  ·intro f ap hJ;obtain ⟨ai,aq,hm,ae,ag,an,av,ao⟩:=hJ;rw [Zhm.eq_1] at hm;refine .lD 0 an<|.lD 14 av<|.lD 1000000 ao ?_;refine Zy _ rfl (fun hb=>?_) (fun hb=>?_)
   ·rw [if_pos hb] at hm;refine Zr<|Z0<|Zd<|Zk rfl<|Zk rfl<|lV _ (Zs underlying43 rfl)<|lV _ (Yb _ _ rfl rfl) ?_;obtain ⟨ar,hm⟩:=Xd hm;refine lv (v:=.slice ac (Int.toNat (i64.wrap ((ab.length:Int) - 1))) ad) rfl rfl (Vk underlying43 sizeOf79 rfl rfl ar.1 (by have:=ag.lecap;have:=ar.2;omega))<|.ld (d:=19) (v:=(.slice ac ((ab.take (Int.toNat (i64.wrap ((ab.length:Int) - 1)))).length) ad)) (congrArg (fun n=>Value.slice ac n ad) (List.length_take_of_le (show (Int.toNat (i64.wrap ((ab.length:Int) - 1)))≤ab.length by have:=ar.2;omega)).symm) ?_;refine Zu rfl<|Zc ?_;exact ⟨af,by omega,⟨ai,ac,ad,(ab.take (Int.toNat (i64.wrap ((ab.length:Int) - 1)))),af,rfl,hm,ae,(ag.take (Int.toNat (i64.wrap ((ab.length:Int) - 1)))),rfl,rfl⟩⟩
   rw [if_neg (Zz hb)] at hm;refine Xl (Xk ?_);refine Zb<|Zd<|Zk rfl<|Zu rfl<|Zc<|Zq ?_;cases hm;exact ⟨rfl,Uv w0.heap.size [qc0] col ai (fun n=>bif Nat.beq n 440 then qc0 else 0),ac,ad,rfl,ae.finL rfl (fun n=>bif Nat.beq n 440 then qc0 else 0),ae.finOwnL (g:=(fun n=>bif Nat.beq n 440 then qc0 else 0)) rfl ag (by decide) (by decide) rfl⟩
  refine Zd<|Zk rfl<|lV _ (Zs underlying43 rfl)<|lV _ (Wa _ _ rfl rfl)<|Xf rfl ?_;by_cases aa:(decide (0<(ab.length:Int)))=true
  ·rw [if_pos aa] at hm;refine lG 6 rfl (gq aa)<|Zk rfl<|lG 6 rfl (gq aa)<|Zk rfl<|lG 6 rfl (gq aa)<|lV _ (Zs underlying43 rfl)<|lG 6 rfl (gq aa)<|lV _ (Yb _ _ rfl rfl)<|lG 6 rfl (gq aa) ?_;obtain ⟨au,ak,hm⟩:=bZ hm;refine lV _ (Zx underlying43 sizeOf79 rfl rfl (Zi ak).1 (Zi ak).2.1 (ag.addr ak)) ?_;refine lG 6 rfl (gq aa)<|lV _ (Zn isAgg79 rfl (ag.atInt ak))<|lG 6 rfl (gq aa)<|lV _ (Y9 _ _ rfl rfl)<|lV (.bool (decide (au=0))) (Xm (congrArg Value.bool aa) rfl)<|Zc ?_;exact ⟨ah,(decide (au=0)),hm,ae,ag,rfl,rfl,rfl⟩
  rw [if_neg aa] at hm;replace aa:=Bool.eq_false_iff.2 aa;refine lP 6 rfl (gq aa)<|lP 6 rfl (gq aa)<|lP 6 rfl (gq aa)<|lP 6 rfl (gq aa)<|lP 6 rfl (gq aa)<|lP 6 rfl (gq aa)<|lP 6 rfl (gq aa)<|lV (.bool false) (Xr (congrArg Value.bool aa) rfl)<|Zc ?_;exact ⟨ah,false,hm,ae,ag,rfl,rfl,rfl⟩

end Go.Proofs.YtbmjpjhbankpoaaGreat
