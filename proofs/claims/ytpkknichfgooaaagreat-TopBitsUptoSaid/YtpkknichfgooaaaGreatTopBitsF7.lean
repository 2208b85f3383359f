/-
  What functions of the program compute, as plain Lean functions (m_..), and proofs that they compute it (c_..). Printed by a program of the author; no conditions.
-/
import Derived.Test.YtpkknichfgooaaaGreatTopBitsBFloat
import Derived.Test.YtpkknichfgooaaaGreatProg
import Derived.Test.YtpkknichfgooaaaGreatTopBitsBBrief
import Derived.Test.YtpkknichfgooaaaGreatTopBitsBBulk
import Derived.Test.YtpkknichfgooaaaGreatTopBitsF6
set_option linter.unusedVariables false
set_option maxRecDepth 100000
set_option maxHeartbeats 2000000
namespace Go.Proofs.YtpkknichfgooaaaGreat
open Go Go.RowKit
open Nat renaming zero_le→bL,lt_or_ge→bW,mul_le_mul_right→aX
open List renaming mem_cons_self→aK,mem_cons_of_mem→aE,map_nil→cX,map_cons→bX,mem_map→cD,length_map→bE,getElem_mem→aJ,getElem_map→fG,length_singleton→aL,mem_append→aY,mem_singleton→bD,map_append→gL,map_singleton→gB,sum_cons→dU
open Int renaming toNat_natCast→aB,tmod_lt_of_pos→iZ,tmod→aS
open Rat renaming not_lt→bQ,lt_irrefl→fJ
open Go.IntKind (i8 i16 i32 i64 u8 u16 u32 u64)
open Go.Proofs.Tryz

theorem Z6r:Wk prog 28 1 24:=⟨Tryz.t28,_,rfl,rfl,rfl,rfl,rfl⟩
theorem Z6y:Wk prog 44 6 112:=⟨Tryz.t44,_,rfl,rfl,rfl,rfl,rfl⟩
def Zlg (a:Bool):Option Bool:=
  some a
def Zlk (a:Bool) (b:List (R0×R0)) (c:List R2):Option Bool:=
  some a
def Zlh (c:Bool) (a:List (R0×R0)) (b:List R2) (kk_L1:(Bool→Rc→R8→Option Bool)) (d:Bool):Option Bool:=
  if d=true then (Zlk false a b) else (kk_L1 c a b)
def Zlj (a:List (R0×R0)) (b:List R2) (c:Int) (d:Bool) (kk_L2:(Int→Bool→Option Bool)) (e:Bool):Option Bool:=
  if e=true then (Zlk false a b) else (kk_L2 (i64.wrap (c+1)) d)
def Zba (N:Nat) (b:R1) (c:List (R0×R0)) (d:List R2) (kk_L1:(Bool→Rc→R8→Option Bool)) (e:List Int×R0) (a:Rh):Nat→Int→Bool→Option Bool
  | 0,_,_=>none
  | n+1,g,i=>if (decide (g<3))=true then ((Zaj N g 3).bind fun j=>(Zid N ((e.2.1.1,e.2.1.2),e.2.2) ((j.1.1,j.1.2),j.2)).bind fun k=>(Zeg N ((a.1.1.1.1,a.1.1.1.2),a.1.1.2) ((k.1.1,k.1.2),k.2)).bind fun l=>(Tq N (b.1,b.2.1,b.2.2.1,b.2.2.2.1,b.2.2.2.2)).bind fun f=>(Zhx N (f.1,f.2.1,f.2.2.1,f.2.2.2.1,f.2.2.2.2) ((l.1.1,l.1.2),l.2)).bind fun o=>if (!decide (o.2=0))=true then (Zlj c d g i (Zba N b c d kk_L1 e a n) true) else ((Zh9 N o.1 e.1).bind fun p=>Zlj c d g i (Zba N b c d kk_L1 e a n) (!p))) else (Z1 ((c.length+[(((a.1.1.1.1,a.1.1.1.2),a.1.1.2),((a.1.2.1.1,a.1.2.1.2),a.1.2.2))].length) * 112≤140737488355328∧c.length+[(((a.1.1.1.1,a.1.1.1.2),a.1.1.2),((a.1.2.1.1,a.1.2.1.2),a.1.2.2))].length≤maxLen) ((Zfj N e.1).bind fun m=>Z1 ((d.length+[m].length) * 24≤140737488355328∧d.length+[m].length≤maxLen) (kk_L1 i (c++[(((a.1.1.1.1,a.1.1.1.2),a.1.1.2),((a.1.2.1.1,a.1.2.1.2),a.1.2.2))]) (d++[m]))))
def Zli (N:Nat) (c:R1) (d:Bool) (a:List (R0×R0)) (b:List R2) (kk_L1:(Bool→Rc→R8→Option Bool)) (e:List Int×R0) (f:Rh) (g:Bool):Option Bool:=
  if g=true then (Zlk false a b) else (Zba N c a b kk_L1 e f N 0 d)
def To (N:Nat) (a:R1) (f:List Int):List Re→Bool→Rc→R8→Option Bool
  | [],g,d,e=>(Zll N d).bind fun l=>if l=true then ((Zib N (a.1,a.2.1,a.2.2.1,a.2.2.2.1,a.2.2.2.2) e f).bind fun m=>Zlg m) else (Zlg false)
  | c :: j,g,d,e=>(Tq N (a.1,a.2.1,a.2.2.1,a.2.2.2.1,a.2.2.2.2)).bind fun i=>(Zfj N c.1).bind fun n=>(Za8 N (i.1,i.2.1,i.2.2.1,i.2.2.2.1,i.2.2.2.2) n).bind fun b=>(T8 N ((c.2.1.1,c.2.1.2),c.2.2) ((false,([]:List Int)),([]:List Int))).bind fun o=>if o=true then (if (!decide (b.2=0))=true then (Zlh g d e (To N a f j) true) else ((T8 N ((b.1.1.1.1,b.1.1.1.2),b.1.1.2) ((b.1.2.1.1,b.1.2.1.2),b.1.2.2)).bind fun p=>Zlh g d e (To N a f j) (!p))) else (if (!decide (b.2=0))=true then (Zli N a g d e (To N a f j) c b true) else ((Zjs N ((b.1.2.1.1,b.1.2.1.2),b.1.2.2) ((b.1.1.1.1,b.1.1.1.2),b.1.1.2)).bind fun k=>(T8 N ((k.1.1,k.1.2),k.2) ((c.2.1.1,c.2.1.2),c.2.2)).bind fun q=>Zli N a g d e (To N a f j) c b (!q)))
def Zlf (N:Nat) (a:R1) (b:List Int) (c:(List Re)) (d:Bool):Option Bool:=
  if d=true then (some false) else (To N a b c false ([]:List (R0×R0)) ([]:List R2))
def Zff (N:Nat) (a:R1) (c:List Int) (d f:Bool):Option Bool:=
  if f=true then (some d) else ((Tq N (a.1,a.2.1,a.2.2.1,a.2.2.2.1,a.2.2.2.2)).bind fun b=>(Zfr N (b.1,b.2.1,b.2.2.1,b.2.2.2.1,b.2.2.2.2)).bind fun e=>if (!d)=true then (Zlf N a c e true) else (Zlf N a c e false))
def Zoq (N:Nat) (a:R1) (b:List Int):Option Bool:=
  (Zt4).bind fun c=>(Zh8 N (a.1,a.2.1,a.2.2.1,a.2.2.2.1,a.2.2.2.2)).bind fun d=>if (!d)=true then (Zff N a b c true) else ((Zh7 N (a.1,a.2.1,a.2.2.1,a.2.2.2.1,a.2.2.2.2) 300).bind fun e=>Zff N a b c (!e))
theorem Z3l (N:Nat) (col:Zg) (w0:World) (az:Option Addr) (a2:Nat) (a3:Option Addr) (a4:Nat) (a5:Option Addr) (a6:Nat) (a7:Option Addr) (a8:Nat) (t:R1) (a1:Option Addr) (ce:Nat) (a9:List Int) (i:Sl Zc.str col w0 az a2 t.2.1) (j:Sl rV col w0 a3 a4 t.2.2.1) (k:Sl rP col w0 a5 a6 t.2.2.2.1) (o:Sl (Zc.slice rQ) col w0 a7 a8 t.2.2.2.2) (f:Sl rI col w0 a1 ce a9) (r:Bool) (e:Zoq N t a9=some r):
    Calls prog 3 #[(.agg (Rt t az a2 a3 a4 a5 a6 a7 a8)),.slice a1 a9.length ce] w0 (V6 w0 r):=by
 refine Zrb (m:=117) (args:=[(.agg (Rt t az a2 a3 a4 a5 a6 a7 a8)),.slice a1 a9.length ce]) func3 O O O ?_;rw [Zoq.eq_1] at e;have g:=St.start col w0;replace i:=i.k0;replace j:=j.k0;replace k:=k.k0;replace o:=o.k0;replace f:=f.k0;have b:Yq 499 (Zk col) w0 []:=.nil;refine go ?_;refine Xj (col:=(Zk col)) 1 O fun c0 _ n R m=>Za5 (col:=n) (v:=(.bool false)) 2 O zeroValue4 ?_;intro bh X c1 P l;replace l:Zi 4 2 c1 X bh #[.bool false]:=l;refine go ?_;obtain ⟨W,Q,e⟩:=bZ e;refine lc O O (Sv call4) (Z7z c1 _ W Q) fun _ _ ⟨v,Q⟩=>⟨_,v,?_⟩;replace Q:=Ru c1 Q;refine Zht O<|Zj<|Zw<|Zw ?_;replace i:=((i.gr R).gr P).gr Q;replace j:=((j.gr R).gr P).gr Q;replace k:=((k.gr R).gr P).gr Q;replace o:=((o.gr R).gr P).gr Q;replace f:=((f.gr R).gr P).gr Q;replace b:=((b.gr R).gr P).gr Q;replace g:=((g.grow R).grow P).grow Q;replace m:=(m.gr P).gr Q;replace l:=l.gr Q;refine Wp.cutK [1,2,4,5,1000000] (fun bl a=>∃ X n,Zff N t a9 W n=some r∧St w0 (Zk col) X a∧Sl rI X a a1 ce a9∧Sl Zc.str X a az a2 t.2.1∧Sl rV X a a3 a4 t.2.2.1∧Sl rP X a a5 a6 t.2.2.2.1∧Sl (Zc.slice rQ) X a a7 a8 t.2.2.2.2∧Zi 27 1 X a c0 (Rt t az a2 a3 a4 a5 a6 a7 a8)∧Zi 4 2 X a bh #[.bool false]∧Yq 499 X a []∧[26].map bl=[.bool n]) ?_ ?_
 ·intro bl a hJ;obtain ⟨X,n,e,g,f,i,j,k,o,m,l,b,hs⟩:=hJ;rw [Zff.eq_1] at e;refine .lL [26] hs ?_;refine Zp e (fun I e=>go ?_) fun I e=>go ?_
  ·refine Ur (v:=(.bool W)) l sizeOf4 O O (Rv O O) O O ?_;intro a D J Z;replace Z:Zi 4 2 X a bh #[.bool W]:=Z;refine go ?_;cases e;replace b:=b.kp D;refine ⟨_,[],O,b,?_⟩;intro _ a n;replace g:=(g.kp D J).kp a n;exact ⟨_,Zkh O O isAgg4 O (Z.kp a).at1,O,g.below⟩
  refine lV _ (Zz isAgg27 sizeOf27 m) ?_;obtain ⟨_,P,e⟩:=bZ e;refine Zh (Zhi 3 4 5 6 P i j k o) fun _ _ ⟨_,_,_,_,_,_,_,_,_,v,J,X,Z,a,n⟩=>⟨_,v,?_⟩;replace f:=f.gr J;replace f:=f.froz 3;replace i:=i.gr J;replace i:=i.froz 3;replace j:=j.gr J;replace j:=j.froz 3;replace k:=k.gr J;replace k:=k.froz 3;replace o:=o.gr J;replace o:=o.froz 3;replace X:=(X).toSlF Ze.str;replace Z:=Z.froz 3;replace a:=a.froz 3;replace n:=n.froz 3;replace m:=m.gr J;replace m:=m.froz 3;replace l:=l.gr J;replace l:=l.froz 3;replace b:=b.gr J;replace b:=b.froz 3 (by decide);replace g:=g.grow J;replace g:=g.froz 3 (by decide) (by decide);replace f:=f.froz 4;replace i:=i.froz 4;replace j:=j.froz 4;replace k:=k.froz 4;replace o:=o.froz 4;replace X:=X.froz 4;replace Z:=(Z).toSlF (Ze.row Ze.str);replace a:=a.froz 4;replace n:=n.froz 4;replace m:=m.froz 4;replace l:=l.froz 4;replace b:=b.froz 4 (by decide);replace g:=g.froz 4 (by decide) (by decide);replace f:=f.froz 5;replace i:=i.froz 5;replace j:=j.froz 5;replace k:=k.froz 5;replace o:=o.froz 5;replace X:=X.froz 5;replace Z:=Z.froz 5;replace a:=(a).toSlF (Ze.row (Ze.int .i64));replace n:=n.froz 5;replace m:=m.froz 5;replace l:=l.froz 5;replace b:=b.froz 5 (by decide);replace g:=g.froz 5 (by decide) (by decide);replace f:=f.froz 6;replace i:=i.froz 6;replace j:=j.froz 6;replace k:=k.froz 6;replace o:=o.froz 6;replace m:=m.froz 6;replace l:=l.froz 6;replace b:=b.froz 6 (by decide);replace g:=g.froz 6 (by decide) (by decide);obtain ⟨ef,P,e⟩:=bZ e;refine Zh (Zuv 7 P (X.froz 6) (Z.froz 6) (a.froz 6) ((n).toSlF (Ze.row (Ze.pair (Ze.pair Ze.bool (Ze.row (Ze.int .u32))) (Ze.row (Ze.int .u32)))))) fun _ _ ⟨_,d5,v,D,db⟩=>⟨_,v,?_⟩
  refine lv (v:=d5) O O (Uf O)<|Zj<|Zw<|Zw ?_;replace f:=f.gr D;replace i:=i.gr D;replace j:=j.gr D;replace k:=k.gr D;replace o:=o.gr D;replace m:=m.gr D;replace l:=l.gr D;replace b:=b.gr D;replace g:=g.grow D;refine Wp.cutK [1,2,4,6,1000000] (fun bl Z=>∃ M P,Zlf N t a9 ef P=some r∧St w0 (Zk col) M Z∧Sl rI M Z a1 ce a9∧Sl Zc.str M Z az a2 t.2.1∧Sl rV M Z a3 a4 t.2.2.1∧Sl rP M Z a5 a6 t.2.2.2.1∧Sl (Zc.slice rQ) M Z a7 a8 t.2.2.2.2∧Zi 27 1 M Z c0 (Rt t az a2 a3 a4 a5 a6 a7 a8)∧Zi 4 2 M Z bh #[.bool false]∧It prog 2 d5 (fun (K:List Int×R0) (col:Zg) (dk:World) (L:List Value)=>∃ F T B C dp dq,L=[.slice F K.1.length T,.agg #[.bool K.2.1.1,.slice B K.2.1.2.length C,.slice dp K.2.2.length dq]]∧Zb rI 3 7 col dk F T K.1∧Sl rU col dk B C K.2.1.2∧Sl rU col dk dp dq K.2.2) ef q0 M Z∧Yq 499 M Z []∧[36].map bl=[.bool P]) ?_ ?_
  ·intro bl Z hJ;obtain ⟨M,P,e,g,f,i,j,k,o,m,l,db,b,hs⟩:=hJ;rw [Zlf.eq_1] at e;refine .lL [36] hs ?_;refine Zp e (fun I e=>go ?_) fun I e=>go ?_
   ·refine Ur (v:=(.bool false)) l sizeOf4 O O (Rv O O) O O ?_;intro D ft gx dr;replace dr:Zi 4 2 M D bh #[.bool false]:=dr;refine go ?_;cases e;replace b:=b.kp ft;refine ⟨_,[],O,b,?_⟩;intro _ n J;replace g:=(g.kp ft gx).kp n J;exact ⟨_,Zkh O O isAgg4 O (dr.kp n).at1,O,g.below⟩
   refine Za5 (col:=M) (v:=(.slice none (([]:List (R0×R0)).length) 0)) 8 O zeroValue36 ?_;intro c4 R D n s;replace s:Zi 36 8 D R c4 #[(.slice none (([]:List (R0×R0)).length) 0)]:=s;refine go ?_;refine Za5 (col:=D) (v:=(.slice none (([]:List R2).length) 0)) 9 O zeroValue24 ?_;intro c5 Z X W p;replace p:Zi 24 9 X Z c5 #[.slice none (([]:List R2).length) 0]:=p;refine go ?_;refine lv (v:=d5) O O (Wn O)<|go ?_;replace f:=(f.gr n).gr W;replace i:=(i.gr n).gr W;replace j:=(j.gr n).gr W;replace k:=(k.gr n).gr W;replace o:=(o.gr n).gr W;replace db:=(db.gr n).gr W;replace m:=(m.gr n).gr W;replace l:=(l.gr n).gr W;replace b:=(b.gr n).gr W;replace g:=(g.grow n).grow W;replace s:=s.gr W
   refine Znk (psl:=[38,39]) (arr:=(fun (K:List Int×R0) (col:Zg) (dk:World) (L:List Value)=>∃ F T B C dp dq,L=[.slice F K.1.length T,.agg #[.bool K.2.1.1,.slice B K.2.1.2.length C,.slice dp K.2.2.length dq]]∧Zb rI 3 7 col dk F T K.1∧Sl rU col dk B C K.2.1.2∧Sl rU col dk dp dq K.2.2)) (ys:=ef) (col:=X) 498 O db O b O O (by rintro _ _ _ _ ⟨_,_,_,_,_,_,rfl,_⟩;rfl) (fun B ex fo=>∃ (bi:Bool) (aq:Option Addr) (ar:Nat) (fp:List (R0×R0)) (au:Option Addr) (av:Nat) (fs:List R2),To N t a9 B bi fp fs=some r∧St w0 (Zk col) ex fo∧Sl rI ex fo a1 ce a9∧Sl Zc.str ex fo az a2 t.2.1∧Sl rV ex fo a3 a4 t.2.2.1∧Sl rP ex fo a5 a6 t.2.2.2.1∧Sl (Zc.slice rQ) ex fo a7 a8 t.2.2.2.2∧Zi 27 1 ex fo c0 (Rt t az a2 a3 a4 a5 a6 a7 a8)∧Zi 4 2 ex fo bh #[.bool bi]∧Zb (Zc.pair rQ rQ) 44 10 ex fo aq ar fp∧Zi 36 8 ex fo c4 #[.slice aq fp.length ar]∧Zb (Zc.row 3 rI) 28 11 ex fo au av fs∧Zi 24 9 ex fo c5 #[.slice au fs.length av]) (fun c_ ex fo=>(c_= .ret∧∃ (bi:Bool) (aq:Option Addr) (ar:Nat) (fp:List (R0×R0)) (au:Option Addr) (av:Nat) (fs:List R2),Zlk bi fp fs=some r∧St w0 (Zk col) ex fo∧Sl rI ex fo a1 ce a9∧Sl Zc.str ex fo az a2 t.2.1∧Sl rV ex fo a3 a4 t.2.2.1∧Sl rP ex fo a5 a6 t.2.2.2.1∧Sl (Zc.slice rQ) ex fo a7 a8 t.2.2.2.2∧Zi 27 1 ex fo c0 (Rt t az a2 a3 a4 a5 a6 a7 a8)∧Zi 4 2 ex fo bh #[.bool bi]∧Zb (Zc.pair rQ rQ) 44 10 ex fo aq ar fp∧Zi 36 8 ex fo c4 #[.slice aq fp.length ar]∧Zb (Zc.row 3 rI) 28 11 ex fo au av fs∧Zi 24 9 ex fo c5 #[.slice au fs.length av])) ?_ ?_ ⟨false,none,0,([]:List (R0×R0)),none,0,([]:List R2),e,g,f,i,j,k,o,m,l,Zb.nil,s,Zb.nil,p⟩ ?_ ?_ ?_
   ·intro B ex fo Q M hJ V;obtain ⟨bi,aq,ar,fp,au,av,fs,e,g,f,i,j,k,o,m,l,u,s,q,p⟩:=hJ;exact ⟨bi,aq,ar,fp,au,av,fs,e,g.kpp V O O,f.kpp V O,i.kpp V O,j.kpp V O,k.kpp V O,o.kpp V O,m.kpp V O,l.kpp V O,u.kpp V O O,s.kpp V O,q.kpp V O O,p.kpp V O⟩
   ·intro c_ ex fo Q M hX V;obtain ⟨rfl,hX⟩:=hX;obtain ⟨bi,aq,ar,fp,au,av,fs,e,g,f,i,j,k,o,m,l,u,s,q,p⟩:=hX;exact ⟨O,⟨bi,aq,ar,fp,au,av,fs,e,g.kpp V O O,f.kpp V O,i.kpp V O,j.kpp V O,k.kpp V O,o.kpp V O,m.kpp V O,l.kpp V O,u.kpp V O O,s.kpp V O,q.kpp V O O,p.kpp V O⟩⟩
   ·intro d6 _ d7 f0 d8 ex fo L hJ c b E;obtain ⟨bi,aq,ar,fp,au,av,fs,e,g,f,i,j,k,o,m,l,u,s,q,p⟩:=hJ;rw [To.eq_2] at e;have d:=Zu.refl (pC 2) ex fo;obtain ⟨eh,ei,c6,c7,c8,c9,rfl,w,G,H⟩:=E;refine go ?_;refine Xc (col:=ex) #[.bool false,(nI),(nI)] 12 zeroValue42 fun ej _ _ P a=>Zs a fun _ M W Y=>Zj ?_;replace c:=(c.gr P).kp M;refine ⟨_,c,?_⟩;intro _ d9 L K C;have c:=C;refine go ?_;replace m:=((m.gr P).kp M).kp L;refine lV _ (Zz isAgg27 sizeOf27 m) ?_;obtain ⟨_,a,e⟩:=bZ e;replace i:=((i.gr P).kp M).kp L;replace j:=((j.gr P).kp M).kp L;replace k:=((k.gr P).kp M).kp L;replace o:=((o.gr P).kp M).kp L;refine Zh (Zhi 13 14 15 16 a i j k o) fun _ n ⟨V,_,_,_,_,_,_,_,_,v,E,Q,a,B,J⟩=>⟨_,v,?_⟩;refine Wg O ?_;obtain ⟨_,X,e⟩:=bZ e;replace w:=(((w.gr P).kp M).kp L).gr E;refine Zh (Zn0 17 X (w.toSlF (Ze.int .i64))) fun _ C ⟨Z,_,_,v,T,F⟩=>⟨_,v,?_⟩;replace F:=F.thaw (Zt .i64) T ((Fz.refl (col:=V)).froz 7);replace T:=T.thawR (col:=V);generalize Z2 n.heap.size V Z=V at *;obtain ⟨h,R,e⟩:=bZ e;replace J:=J.gr T
    refine Zh (Zuq 18 19 20 21 R ((((((Q.gr T).toSlF Ze.str).froz 14).froz 15).froz 16).froz 17) ((((((a.gr T).froz 13).toSlF (Ze.row Ze.str)).froz 15).froz 16).froz 17) ((((((B.gr T).froz 13).froz 14).toSlF (Ze.row (Ze.int .i64))).froz 16).froz 17) (((((J.froz 13).froz 14).froz 15).toSlF (Ze.row (Ze.pair (Ze.pair Ze.bool (Ze.row (Ze.int .u32))) (Ze.row (Ze.int .u32))))).froz 17) (((((F.froz 13).froz 14).froz 15).froz 16).toSlF (Ze.int .i64))) fun _ _ ⟨X,b2,b3,b4,b5,ca,cb,cc,cd,v,Z,x,y,A,z⟩=>⟨_,v,?_⟩;replace x:=x.thaw (Zt .u32) Z ((((((Fz.refl (col:=V)).froz 13).froz 14).froz 15).froz 16).froz 17) (by decide);replace y:=y.thaw (Zt .u32) Z ((((((Fz.refl (col:=V)).froz 13).froz 14).froz 15).froz 16).froz 17) (by decide);replace A:=A.thaw (Zt .u32) Z ((((((Fz.refl (col:=V)).froz 13).froz 14).froz 15).froz 16).froz 17) (by decide);replace z:=z.thaw (Zt .u32) Z ((((((Fz.refl (col:=V)).froz 13).froz 14).froz 15).froz 16).froz 17) (by decide);replace Z:=Z.thawR (col:=V);generalize Z2 C.heap.size V X=R at *;refine lM (.tuple #[(.agg #[.bool h.1.1.1.1,.slice b2 h.1.1.1.2.length b3,.slice b4 h.1.1.2.length b5,.bool h.1.2.1.1,.slice ca h.1.2.1.2.length cb,.slice cc h.1.2.2.length cd]),.int .i64 h.2])<|lV (.agg #[.bool h.1.1.1.1,.slice b2 h.1.1.1.2.length b3,.slice b4 h.1.1.2.length b5,.bool h.1.2.1.1,.slice ca h.1.2.1.2.length cb,.slice cc h.1.2.2.length cd]) (Xl O O)<|lV (.int .i64 h.2) (Xl O O)<|Xc (col:=R) #[.bool false,(nI),(nI),.bool false,(nI),(nI)] 22 zeroValue44 ?_;intro dh _ bu n F;refine Zs F fun _ a C U=>go ?_;replace Y:=(((((Y.kp L).gr E).gr T).gr Z).gr n).kp a;refine lV _ (Zz isAgg42 sizeOf42 Y)<|lV (.agg #[.bool false,(nI),(nI)]) (Yc (l:=[_,_]) (qs:=[(0,2),(2,1)]) underlying42 zeroValue42 ⟨O,sizeOf40,O,sizeOf38,trivial⟩ O) ?_
    obtain ⟨_,D,e⟩:=bZ e;replace G:=(((((((G.gr P).kp M).kp L).gr E).gr T).gr Z).gr n).kp a;replace H:=(((((((H.gr P).kp M).kp L).gr E).gr T).gr Z).gr n).kp a;refine Zh (Zhh D G H Sl.nil Sl.nil) fun _ _ ⟨v,R⟩=>⟨_,v,?_⟩;replace R:=Ru bu R;refine Zj ?_;replace f:=((((((((f.gr P).kp M).kp L).gr E).gr T).gr Z).gr n).kp a).gr R;replace u:=((((((((u.gr P).kp M).kp L).gr E).gr T).gr Z).gr n).kp a).gr R;replace q:=((((((((q.gr P).kp M).kp L).gr E).gr T).gr Z).gr n).kp a).gr R;replace l:=((((((((l.gr P).kp M).kp L).gr E).gr T).gr Z).gr n).kp a).gr R;replace s:=((((((((s.gr P).kp M).kp L).gr E).gr T).gr Z).gr n).kp a).gr R;replace p:=((((((((p.gr P).kp M).kp L).gr E).gr T).gr Z).gr n).kp a).gr R;replace b:=((((((((b.gr P).kp M).kp L).gr E).gr T).gr Z).gr n).kp a).gr R;replace d:=((((((((d.gr P).kp M W O).kp L K O).gr E).gr T).gr Z).gr n).kp a C O).gr R;replace g:=((((((((g.grow P).kp M W).kp L K).grow E).grow T).grow Z).grow n).kp a C).grow R;replace i:=(((((i.gr E).gr T).gr Z).gr n).kp a).gr R;replace j:=(((((j.gr E).gr T).gr Z).gr n).kp a).gr R;replace k:=(((((k.gr E).gr T).gr Z).gr n).kp a).gr R;replace o:=(((((o.gr E).gr T).gr Z).gr n).kp a).gr R;replace m:=(((((m.gr E).gr T).gr Z).gr n).kp a).gr R;replace c:=(((((c.gr E).gr T).gr Z).gr n).kp a).gr R;replace w:=((((w.gr T).gr Z).gr n).kp a).gr R;replace x:=((x.gr n).kp a).gr R;replace y:=((y.gr n).kp a).gr R;replace A:=((A.gr n).kp a).gr R;replace z:=((z.gr n).kp a).gr R;replace G:=G.gr R;replace H:=H.gr R;replace Y:=Y.gr R;replace U:=U.gr R;refine Zp e (fun I e=>?_) fun I e=>?_
    ·refine Zw<|Zw ?_;refine Wp.cutK [1,2,4,7,8,1000000] (fun bl a=>∃ T C,Zlh bi fp fs (To N t a9 d8) C=some r∧St w0 (Zk col) T a∧Sl rI T a a1 ce a9∧Sl Zc.str T a az a2 t.2.1∧Sl rV T a a3 a4 t.2.2.1∧Sl rP T a a5 a6 t.2.2.2.1∧Sl (Zc.slice rQ) T a a7 a8 t.2.2.2.2∧Zi 27 1 T a c0 (Rt t az a2 a3 a4 a5 a6 a7 a8)∧Zi 4 2 T a bh #[.bool bi]∧Zb (Zc.pair rQ rQ) 44 10 T a aq ar fp∧Zi 36 8 T a c4 #[.slice aq fp.length ar]∧Zb (Zc.row 3 rI) 28 11 T a au av fs∧Zi 24 9 T a c5 #[.slice au fs.length av]∧Wl 498 T a d6 d9∧Yq 499 T a d7∧Zu (pC 2) ex fo T a∧[60].map bl=[.bool C]) ?_ ?_
     ·intro bl a hJ;obtain ⟨T,C,e,g,f,i,j,k,o,m,l,u,s,q,p,c,b,d,hs⟩:=hJ;rw [Zlh.eq_1] at e;refine .lL [60] hs ?_;refine Zp e (fun I e=>go ?_) fun I e=>go ?_
      ·refine Ur (v:=(.bool false)) l sizeOf4 O O (Rv O O) O O ?_;intro L n C a;replace a:Zi 4 2 T L bh #[.bool false]:=a;refine go ?_;replace f:=f.kp n;replace i:=i.kp n;replace j:=j.kp n;replace k:=k.kp n;replace o:=o.kp n;replace u:=u.kp n;replace q:=q.kp n;replace m:=m.kp n;replace s:=s.kp n;replace p:=p.kp n;replace c:=c.kp n;replace b:=b.kp n;replace d:=d.kp n C O;replace g:=g.kp n C;exact ⟨_,d,⟨O,⟨false,aq,ar,fp,au,av,fs,e,g,f,i,j,k,o,m,a,u,s,q,p⟩⟩,c,b⟩
      exact ⟨_,d,⟨bi,aq,ar,fp,au,av,fs,e,g,f,i,j,k,o,m,l,u,s,q,p⟩,c,b⟩
     refine go ?_;refine X9 e (fun L e=>go ?_) fun L e=>go ?_
     ·refine lV (.bool true) (Xw (congrArg Value.bool L) O)<|Zj ?_;exact ⟨O,_,_,e,g,f,i,j,k,o,m,l,u,s,q,p,c,b,d,O⟩
     refine Xt ⟨_,_,O⟩ ?_;refine go ?_;refine lV (.agg #[.bool h.1.1.1.1,.slice b2 h.1.1.1.2.length b3,.slice b4 h.1.1.2.length b5]) (Xi isAgg42 sizeOf42 O O ((U.atN).part 0 3 _ O))<|go ?_;refine Xt ⟨_,_,O⟩ ?_;refine go ?_;refine lV (.agg #[.bool h.1.2.1.1,.slice ca h.1.2.1.2.length cb,.slice cc h.1.2.2.length cd]) (Xi isAgg42 sizeOf42 O O ((U.atN).part 3 3 _ O))<|go ?_;obtain ⟨P,M,e⟩:=bZ e;refine Zh (Zhh M ((((x.toSlF (Ze.int .u32)).froz 19).froz 20).froz 21) ((((y.froz 18).toSlF (Ze.int .u32)).froz 20).froz 21) ((((A.froz 18).froz 19).toSlF (Ze.int .u32)).froz 21) ((((z.froz 18).froz 19).froz 20).toSlF (Ze.int .u32))) fun _ _ ⟨v,R⟩=>⟨_,v,?_⟩;replace R:=Ru bu R;refine go ?_;refine lV (.bool (!P)) (X0 (congrArg Value.bool L) O)<|Zj ?_;replace f:=f.gr R;replace i:=i.gr R;replace j:=j.gr R;replace k:=k.gr R;replace o:=o.gr R;replace u:=u.gr R;replace q:=q.gr R;replace m:=m.gr R;replace l:=l.gr R;replace s:=s.gr R;replace p:=p.gr R;replace c:=c.gr R;replace b:=b.gr R;replace d:=d.gr R;replace g:=g.grow R;exact ⟨O,_,_,e,g,f,i,j,k,o,m,l,u,s,q,p,c,b,d,O⟩
    refine X1<|Zw<|Zw ?_;refine Wp.cutK [1,10,11,2,4,7,8,9,1000000] (fun bl W=>∃ P T,Zli N t bi fp fs (To N t a9 d8) f0 h T=some r∧St w0 (Zk col) P W∧Sl rI P W a1 ce a9∧Sl rU P W c6 c7 f0.2.1.2∧Sl rU P W c8 c9 f0.2.2∧Zi 42 12 P W ej #[.bool f0.2.1.1,.slice c6 f0.2.1.2.length c7,.slice c8 f0.2.2.length c9]∧Zb rU 119 18 P W b2 b3 h.1.1.1.2∧Zb rU 119 19 P W b4 b5 h.1.1.2∧Zb rU 119 20 P W ca cb h.1.2.1.2∧Zb rU 119 21 P W cc cd h.1.2.2∧Zi 44 22 P W dh #[.bool h.1.1.1.1,.slice b2 h.1.1.1.2.length b3,.slice b4 h.1.1.2.length b5,.bool h.1.2.1.1,.slice ca h.1.2.1.2.length cb,.slice cc h.1.2.2.length cd]∧Sl Zc.str P W az a2 t.2.1∧Sl rV P W a3 a4 t.2.2.1∧Sl rP P W a5 a6 t.2.2.2.1∧Sl (Zc.slice rQ) P W a7 a8 t.2.2.2.2∧Zi 27 1 P W c0 (Rt t az a2 a3 a4 a5 a6 a7 a8)∧Zi 4 2 P W bh #[.bool bi]∧Zb (Zc.pair rQ rQ) 44 10 P W aq ar fp∧Zi 36 8 P W c4 #[.slice aq fp.length ar]∧Zb (Zc.row 3 rI) 28 11 P W au av fs∧Zi 24 9 P W c5 #[.slice au fs.length av]∧Zb rI 3 7 P W eh ei f0.1∧Wl 498 P W d6 d9∧Yq 499 P W d7∧Zu (pC 2) ex fo P W∧[72].map bl=[.bool T]) ?_ ?_
    ·intro bl W hJ;obtain ⟨P,T,e,g,f,G,H,Y,x,y,A,z,U,i,j,k,o,m,l,u,s,q,p,w,c,b,d,hs⟩:=hJ;rw [Zli.eq_1] at e;refine .lL [72] hs ?_;refine Zp e (fun I e=>go ?_) fun I e=>go ?_
     ·refine Ur (v:=(.bool false)) l sizeOf4 O O (Rv O O) O O ?_;intro T C K B;replace B:Zi 4 2 P T bh #[.bool false]:=B;refine go ?_;replace f:=f.kp C;replace i:=i.kp C;replace j:=j.kp C;replace k:=k.kp C;replace o:=o.kp C;replace u:=u.kp C;replace q:=q.kp C;replace m:=m.kp C;replace s:=s.kp C;replace p:=p.kp C;replace c:=c.kp C;replace b:=b.kp C;replace d:=d.kp C K O;replace g:=g.kp C K;exact ⟨_,d,⟨O,⟨false,aq,ar,fp,au,av,fs,e,g,f,i,j,k,o,m,B,u,s,q,p⟩⟩,c,b⟩
     refine Z0 [1,10,11,2,4,7,8,9,1000000] (fun n bl S=>∃ gf ds di dc,dc=n∧Zba N t fp fs (To N t a9 d8) f0 h dc ds di=some r∧St w0 (Zk col) gf S∧Sl rI gf S a1 ce a9∧Sl rU gf S c6 c7 f0.2.1.2∧Sl rU gf S c8 c9 f0.2.2∧Zi 42 12 gf S ej #[.bool f0.2.1.1,.slice c6 f0.2.1.2.length c7,.slice c8 f0.2.2.length c9]∧Zb rU 119 18 gf S b2 b3 h.1.1.1.2∧Zb rU 119 19 gf S b4 b5 h.1.1.2∧Zb rU 119 20 gf S ca cb h.1.2.1.2∧Zb rU 119 21 gf S cc cd h.1.2.2∧Zi 44 22 gf S dh #[.bool h.1.1.1.1,.slice b2 h.1.1.1.2.length b3,.slice b4 h.1.1.2.length b5,.bool h.1.2.1.1,.slice ca h.1.2.1.2.length cb,.slice cc h.1.2.2.length cd]∧Sl Zc.str gf S az a2 t.2.1∧Sl rV gf S a3 a4 t.2.2.1∧Sl rP gf S a5 a6 t.2.2.2.1∧Sl (Zc.slice rQ) gf S a7 a8 t.2.2.2.2∧Zi 27 1 gf S c0 (Rt t az a2 a3 a4 a5 a6 a7 a8)∧Zi 4 2 gf S bh #[.bool di]∧Zb (Zc.pair rQ rQ) 44 10 gf S aq ar fp∧Zi 36 8 gf S c4 #[.slice aq fp.length ar]∧Zb (Zc.row 3 rI) 28 11 gf S au av fs∧Zi 24 9 gf S c5 #[.slice au fs.length av]∧Zb rI 3 7 gf S eh ei f0.1∧Wl 498 gf S d6 d9∧Yq 499 gf S d7∧Zu (pC 2) ex fo gf S∧[13].map bl=[.int .i64 ds]) N ⟨_,0,_,_,O,e,g,f,G,H,Y,x,y,A,z,U,i,j,k,o,m,l,u,s,q,p,w,c,b,d,O⟩ ?_;clear e;intro n bl S V;obtain ⟨gf,ds,di,dc,hn,e,g,f,G,H,Y,x,y,A,z,U,i,j,k,o,m,l,u,s,q,p,w,c,b,d,hs⟩:=V;subst hn;refine .lL [13] hs ?_
     cases dc with
     | zero=>rw [Zba.eq_1] at e;cases e
     | succ dc=>
      rw [Zba.eq_2] at e;refine go ?_;refine Zp e (fun I e=>go ?_) fun I e=>go ?_
      ·have B:=Zu.clip (fun _=>false) gf S;refine Zbz (col:=gf) [(0,1),(1,0),(2,0),(3,1),(4,3),(5,3),(6,3),(7,4),(8,2)] (by kernel_rfl) (by kernel_rfl) ⟨fun C=>absurd C (by decide),fun C=>absurd C (by decide),fun C=>absurd C (by decide),fun C=>absurd C (by decide),fun C=>absurd C (by decide),fun C=>absurd C (by decide),fun C=>absurd C (by decide),fun _=>⟨_,_,_,O,V5 zeroValue42⟩,fun C=>absurd C (by decide),trivial⟩ ?_;replace f:=f.kpp B;replace G:=G.kpp B;replace H:=H.kpp B;replace x:=x.kpp B;replace y:=y.kpp B;replace A:=A.kpp B;replace z:=z.kpp B;replace i:=i.kpp B;replace j:=j.kpp B;replace k:=k.kpp B;replace o:=o.kpp B;replace u:=u.kpp B;replace q:=q.kpp B;replace w:=w.kpp B;replace Y:=Y.kpp B;replace U:=U.kpp B;replace m:=m.kpp B;replace l:=l.kpp B;replace s:=s.kpp B;replace p:=p.kpp B;replace c:=c.kpp B;replace b:=b.kpp B;replace d:=d.trans (B.mono (by first | exact Zbt O | exact Zbs O | exact pCo_pS O | exact fun _=>Zbr | exact fun _ C=>C | exact fun _ _=>O));refine X3 (v:=(.pointer ((some (⟨dh,0,none⟩:Addr)).map (·.add 0)))) O O (fun _=>Un (sz:=3) (off:=0) underlying44 O sizeOf42 (by decide) O O ⟨_,_,O⟩) ?_;refine Wa (v:=(.agg #[.bool h.1.1.1.1,.slice b2 h.1.1.1.2.length b3,.slice b4 h.1.1.2.length b5])) O O (fun _ a=>Xi isAgg42 sizeOf42 O O (((U.atN).part 0 3 _ O).gr (a.bl (Zd S gf)))) ?_;refine Wa (v:=(.agg #[.bool f0.2.1.1,.slice c6 f0.2.1.2.length c7,.slice c8 f0.2.2.length c9])) O O (fun _ a=>Xi isAgg42 sizeOf42 O O (Y.atN.gr (a.bl (Zd S gf)))) ?_;refine X3 (v:=(.int .i64 ds)) O O (fun _=>Wn O) ?_;refine Y6 O O ?_;intro _ n;have a:=n.bl (Zd S gf);obtain ⟨_,E,e⟩:=bZ e;refine Zh (Zkv (col:=(Zd S gf)) 27 28 E) fun _ F ⟨L,_,_,_,_,v,D,J,M⟩=>⟨_,v,?_⟩;refine Zj ?_;refine ⟨fun X=>Zl (Zd F L) F (Zd F L) X,fun W=>(Zd F L) W=497,Zl.refl _ _,Y3,fun _=>⟨fun _ C=>Wt n D C,fun S I=>D.below.block S I,fun W R E=>Wy D W R (by first | exact E | (simp only [Xg,E];rfl) | (simp only [Xg,Xq,E];rfl))⟩,?_⟩;have K:=Zu.clip (fun _=>false) L F;replace f:=((f.gr a).gr D).kpp K
       replace G:=((G.gr a).gr D).kpp K;replace H:=((H.gr a).gr D).kpp K;replace x:=((x.gr a).gr D).kpp K;replace y:=((y.gr a).gr D).kpp K;replace A:=((A.gr a).gr D).kpp K;replace z:=((z.gr a).gr D).kpp K;replace i:=((i.gr a).gr D).kpp K;replace j:=((j.gr a).gr D).kpp K;replace k:=((k.gr a).gr D).kpp K;replace o:=((o.gr a).gr D).kpp K;replace u:=((u.gr a).gr D).kpp K;replace q:=((q.gr a).gr D).kpp K;replace w:=((w.gr a).gr D).kpp K;replace Y:=((Y.gr a).gr D).kpp K;replace U:=((U.gr a).gr D).kpp K;replace m:=((m.gr a).gr D).kpp K;replace l:=((l.gr a).gr D).kpp K;replace s:=((s.gr a).gr D).kpp K;replace p:=((p.gr a).gr D).kpp K;replace c:=((c.gr a).gr D).kpp K;replace b:=((b.gr a).gr D).kpp K;replace d:=(d.gr a).gr D;replace J:=J.kpp K;replace M:=M.kpp K;replace d:=d.trans (K.mono (by first | exact Zbt O | exact Zbs O | exact pCo_pS O | exact fun _=>Zbr | exact fun _ C=>C | exact fun _ _=>O));refine Y6 O O ?_;intro Z n;replace g:=(((g.kpp B).grow a).grow D).kpp K;have a:=n.bl (Zd F L);obtain ⟨_,T,e⟩:=bZ e;replace G:=G.gr a;replace H:=H.gr a;refine Zh (Z3r 29 30 T ((G.froz 27).froz 28) ((H.froz 27).froz 28) (((J.gr a).toSlF (Ze.int .u32)).froz 28) (((M.gr a).froz 27).toSlF (Ze.int .u32))) fun _ B ⟨M,_,_,_,_,v,K,P,Q⟩=>⟨_,v,?_⟩;replace P:=P.thaw (Zt .u32) K (((Fz.refl (col:=(Zd F L))).froz 27).froz 28);replace Q:=Q.thaw (Zt .u32) K (((Fz.refl (col:=(Zd F L))).froz 27).froz 28);replace K:=K.thawR (col:=(Zd F L));generalize Z2 Z.heap.size (Zd F L) M=M at *;refine Zj ?_;refine ⟨fun X=>Zl (Zd B M) B (Zd B M) X,fun W=>(Zd B M) W=497,Zl.refl _ _,Y3,fun _=>⟨fun _ C=>Wt n K C,fun S I=>K.below.block S I,fun W R E=>Wy K W R (by first | exact E | (simp only [Xg,E];rfl) | (simp only [Xg,Xq,E];rfl))⟩,?_⟩
       have J:=Zu.clip (fun _=>false) M B;replace f:=((f.gr a).gr K).kpp J;replace x:=((x.gr a).gr K).kpp J;replace y:=((y.gr a).gr K).kpp J;replace A:=((A.gr a).gr K).kpp J;replace z:=((z.gr a).gr K).kpp J;replace i:=((i.gr a).gr K).kpp J;replace j:=((j.gr a).gr K).kpp J;replace k:=((k.gr a).gr K).kpp J;replace o:=((o.gr a).gr K).kpp J;replace u:=((u.gr a).gr K).kpp J;replace q:=((q.gr a).gr K).kpp J;replace w:=((w.gr a).gr K).kpp J;replace Y:=((Y.gr a).gr K).kpp J;replace U:=((U.gr a).gr K).kpp J;replace m:=((m.gr a).gr K).kpp J;replace l:=((l.gr a).gr K).kpp J;replace s:=((s.gr a).gr K).kpp J;replace p:=((p.gr a).gr K).kpp J;replace c:=((c.gr a).gr K).kpp J;replace b:=((b.gr a).gr K).kpp J;replace d:=(d.gr a).gr K;replace G:=(G.gr K).kpp J;replace H:=(H.gr K).kpp J;replace P:=P.kpp J;replace Q:=Q.kpp J;replace d:=d.trans (J.mono (by first | exact Zbt O | exact Zbs O | exact pCo_pS O | exact fun _=>Zbr | exact fun _ C=>C | exact fun _ _=>O));refine Y6 O O ?_;intro Z n;replace g:=((g.grow a).grow K).kpp J;have a:=n.bl (Zd B M);obtain ⟨_,L,e⟩:=bZ e;replace x:=x.gr a;replace y:=y.gr a;refine Zh (Zq3 31 32 L ((((x.toSlF (Ze.int .u32)).froz 19).froz 29).froz 30) ((((y.froz 18).toSlF (Ze.int .u32)).froz 29).froz 30) (((((P.gr a).froz 18).froz 19).toSlF (Ze.int .u32)).froz 30) (((((Q.gr a).froz 18).froz 19).froz 29).toSlF (Ze.int .u32))) fun _ F ⟨L,_,_,_,_,v,J,T,V⟩=>⟨_,v,?_⟩;replace T:=T.thaw (Zt .u32) J (((((Fz.refl (col:=(Zd B M))).froz 18).froz 19).froz 29).froz 30) (by decide);replace V:=V.thaw (Zt .u32) J (((((Fz.refl (col:=(Zd B M))).froz 18).froz 19).froz 29).froz 30) (by decide);replace J:=J.thawR (col:=(Zd B M));generalize Z2 Z.heap.size (Zd B M) L=Q at *;refine Zj ?_
       refine ⟨fun X=>Zl (Zd F Q) F (Zd F Q) X,fun W=>(Zd F Q) W=497,Zl.refl _ _,Y3,fun _=>⟨fun _ C=>Wt n J C,fun S I=>J.below.block S I,fun W R E=>Wy J W R (by first | exact E | (simp only [Xg,E];rfl) | (simp only [Xg,Xq,E];rfl))⟩,?_⟩;have L:=Zu.clip (fun _=>false) Q F;replace f:=((f.gr a).gr J).kpp L;replace G:=((G.gr a).gr J).kpp L;replace H:=((H.gr a).gr J).kpp L;replace A:=((A.gr a).gr J).kpp L;replace z:=((z.gr a).gr J).kpp L;replace i:=((i.gr a).gr J).kpp L;replace j:=((j.gr a).gr J).kpp L;replace k:=((k.gr a).gr J).kpp L;replace o:=((o.gr a).gr J).kpp L;replace u:=((u.gr a).gr J).kpp L;replace q:=((q.gr a).gr J).kpp L;replace w:=((w.gr a).gr J).kpp L;replace Y:=((Y.gr a).gr J).kpp L;replace U:=((U.gr a).gr J).kpp L;replace m:=((m.gr a).gr J).kpp L;replace l:=((l.gr a).gr J).kpp L;replace s:=((s.gr a).gr J).kpp L;replace p:=((p.gr a).gr J).kpp L;replace c:=((c.gr a).gr J).kpp L;replace b:=((b.gr a).gr J).kpp L;replace d:=(d.gr a).gr J;replace x:=(x.gr J).kpp L;replace y:=(y.gr J).kpp L;replace T:=T.kpp L;replace V:=V.kpp L;replace d:=d.trans (L.mono (by first | exact Zbt O | exact Zbs O | exact pCo_pS O | exact fun _=>Zbr | exact fun _ C=>C | exact fun _ _=>O));refine Zaw O O (V5 zeroValue42) fun R B=>Y6 O O ?_;intro M ⟨n,hZ0⟩;replace g:=((g.grow a).grow J).kpp L;have a:=n.bl (Zd F Q);obtain ⟨S,Z⟩:=Q7 (col:=(Zd F Q)) 33 hZ0 B;replace f:=(f.gr a).kpp S;replace G:=(G.gr a).kpp S;replace H:=(H.gr a).kpp S;replace x:=(x.gr a).kpp S;replace y:=(y.gr a).kpp S;replace A:=(A.gr a).kpp S;replace z:=(z.gr a).kpp S;replace i:=(i.gr a).kpp S;replace j:=(j.gr a).kpp S;replace k:=(k.gr a).kpp S;replace o:=(o.gr a).kpp S;replace u:=(u.gr a).kpp S;replace q:=(q.gr a).kpp S;replace w:=(w.gr a).kpp S;replace T:=(T.gr a).kpp S;replace V:=(V.gr a).kpp S;replace Y:=(Y.gr a).kpp S;replace U:=(U.gr a).kpp S;replace m:=(m.gr a).kpp S;replace l:=(l.gr a).kpp S
       replace s:=(s.gr a).kpp S;replace p:=(p.gr a).kpp S;replace c:=(c.gr a).kpp S;replace b:=(b.gr a).kpp S;replace d:=d.gr a;replace d:=d.trans (S.mono (by first | exact Zbt O | exact Zbs O | exact pCo_pS O | exact fun _=>Zbr | exact fun _ C=>C | exact fun _ _=>O));replace Z:Zi 42 33 (Zx R 33 (Zd F Q)) M R #[.bool false,(nI),(nI)]:=Z;refine Zs Z fun P M E J=>Zj ?_;refine ⟨fun X=>Zl (Zd P (Zx R 33 (Zd F Q))) P (Zd P (Zx R 33 (Zd F Q))) X,fun W=>(Zd P (Zx R 33 (Zd F Q))) W=497,Zl.refl _ _,Y3,fun C=>absurd C (by decide),?_⟩;have D:=Zu.clip (fun _=>false) (Zx R 33 (Zd F Q)) P;replace f:=(f.kp M).kpp D;replace G:=(G.kp M).kpp D;replace H:=(H.kp M).kpp D;replace x:=(x.kp M).kpp D;replace y:=(y.kp M).kpp D;replace A:=(A.kp M).kpp D;replace z:=(z.kp M).kpp D;replace i:=(i.kp M).kpp D;replace j:=(j.kp M).kpp D;replace k:=(k.kp M).kpp D;replace o:=(o.kp M).kpp D;replace u:=(u.kp M).kpp D;replace q:=(q.kp M).kpp D;replace w:=(w.kp M).kpp D;replace T:=(T.kp M).kpp D;replace V:=(V.kp M).kpp D;replace Y:=(Y.kp M).kpp D;replace U:=(U.kp M).kpp D;replace m:=(m.kp M).kpp D;replace l:=(l.kp M).kpp D;replace s:=(s.kp M).kpp D;replace p:=(p.kp M).kpp D;replace c:=(c.kp M).kpp D;replace b:=(b.kp M).kpp D;replace d:=d.kp M E O;replace J:=J.kpp D;replace d:=d.trans (D.mono (by first | exact Zbt O | exact Zbs O | exact pCo_pS O | exact fun _=>Zbr | exact fun _ C=>C | exact fun _ _=>O));refine Zb1 ?_;replace g:=(((g.grow a).kpp S).kp M E).kpp D;intro B a;replace a:Zl (Zd P (Zx R 33 (Zd F Q))) P (Zd P (Zx R 33 (Zd F Q))) B:=.of_below a.below;refine Zw<|Ym (col:=(Zd P (Zx R 33 (Zd F Q)))) [(0,0),(2,0),(1,3),(3,3),(4,1),(5,1),(6,1),(7,1),(8,1)] (by kernel_rfl) (by kernel_rfl) ?_;replace m:=m.gr a;refine xv O O (fun _ a=>Zz isAgg27 sizeOf27 (m.gr (a.bl (Zd P (Zx R 33 (Zd F Q)))))) ?_;replace J:=J.gr a
       refine xv O O (fun _ a=>Zz isAgg42 sizeOf42 (J.gr (a.bl (Zd P (Zx R 33 (Zd F Q)))))) ?_;refine xe O O ?_;intro S n;replace f:=f.gr a;replace G:=G.gr a;replace H:=H.gr a;replace x:=x.gr a;replace y:=y.gr a;replace A:=A.gr a;replace z:=z.gr a;replace i:=i.gr a;replace j:=j.gr a;replace k:=k.gr a;replace o:=o.gr a;replace u:=u.gr a;replace q:=q.gr a;replace w:=w.gr a;replace T:=T.gr a;replace V:=V.gr a;replace Y:=Y.gr a;replace U:=U.gr a;replace l:=l.gr a;replace s:=s.gr a;replace p:=p.gr a;replace c:=c.gr a;replace b:=b.gr a;replace d:=d.gr a;replace g:=g.grow a;have a:Zl (Zd P (Zx R 33 (Zd F Q))) B (Zd P (Zx R 33 (Zd F Q))) S:=.of_below n.below;obtain ⟨_,S,e⟩:=bZ e;replace i:=i.gr a;replace j:=j.gr a;replace k:=k.gr a;replace o:=o.gr a;refine Zh (Zhi 34 35 36 37 S i j k o) fun _ _ ⟨S,_,_,_,_,_,_,_,_,v,F,E,J,L,W⟩=>⟨_,v,?_⟩;refine Zj<|Xb S n F<|xe O O ?_;intro P n;replace f:=(f.gr a).gr F;replace G:=(G.gr a).gr F;replace H:=(H.gr a).gr F;replace x:=(x.gr a).gr F;replace y:=(y.gr a).gr F;replace A:=(A.gr a).gr F;replace z:=(z.gr a).gr F;replace u:=(u.gr a).gr F;replace q:=(q.gr a).gr F;replace w:=(w.gr a).gr F;replace T:=(T.gr a).gr F;replace V:=(V.gr a).gr F;replace Y:=(Y.gr a).gr F;replace U:=(U.gr a).gr F;replace m:=(m.gr a).gr F;replace l:=(l.gr a).gr F;replace s:=(s.gr a).gr F;replace p:=(p.gr a).gr F;replace c:=(c.gr a).gr F;replace b:=(b.gr a).gr F;replace d:=(d.gr a).gr F;replace g:=(g.grow a).grow F;have a:=n.bl S;obtain ⟨K,B,e⟩:=bZ e;replace W:=W.gr a
       refine Zh (Z28 38 B (((((((E.gr a).toSlF Ze.str).froz 35).froz 36).froz 37).froz 31).froz 32) (((((((J.gr a).froz 34).toSlF (Ze.row Ze.str)).froz 36).froz 37).froz 31).froz 32) (((((((L.gr a).froz 34).froz 35).toSlF (Ze.row (Ze.int .i64))).froz 37).froz 31).froz 32) ((((((W.froz 34).froz 35).froz 36).toSlF (Ze.row (Ze.pair (Ze.pair Ze.bool (Ze.row (Ze.int .u32))) (Ze.row (Ze.int .u32))))).froz 31).froz 32) (((((((T.gr a).froz 34).froz 35).froz 36).froz 37).toSlF (Ze.int .u32)).froz 32) (((((((V.gr a).froz 34).froz 35).froz 36).froz 37).froz 31).toSlF (Ze.int .u32))) fun _ _ ⟨E,Q,V,v,X,L⟩=>⟨_,v,?_⟩;replace L:=L.thaw (Zt .i64) X (((((((Fz.refl (col:=S)).froz 34).froz 35).froz 36).froz 37).froz 31).froz 32) (by decide);replace X:=X.thawR (col:=S);generalize Z2 P.heap.size S E=E at *;refine Zj<|Xb E n X<|xu (v:=(.tuple #[.slice Q K.1.length V,.int .i64 K.2])) O O (fun _=>Wn O) ?_;refine xu (v:=(.slice Q K.1.length V)) O O (fun _=>Xl O O) ?_;refine xu (v:=(.int .i64 K.2)) O O (fun _=>Xl O O) ?_;refine xu O O (fun _=>Zm6 O) ?_;refine xu O O (fun _=>Zgz O) ?_;refine Yf ?_;replace i:=((i.gr F).gr a).gr X;replace j:=((j.gr F).gr a).gr X;replace k:=((k.gr F).gr a).gr X;replace o:=((o.gr F).gr a).gr X;replace f:=(f.gr a).gr X;replace G:=(G.gr a).gr X;replace H:=(H.gr a).gr X;replace x:=(x.gr a).gr X;replace y:=(y.gr a).gr X;replace A:=(A.gr a).gr X;replace z:=(z.gr a).gr X;replace u:=(u.gr a).gr X;replace q:=(q.gr a).gr X;replace w:=(w.gr a).gr X;replace Y:=(Y.gr a).gr X;replace U:=(U.gr a).gr X;replace m:=(m.gr a).gr X;replace l:=(l.gr a).gr X;replace s:=(s.gr a).gr X;replace p:=(p.gr a).gr X;replace c:=(c.gr a).gr X;replace b:=(b.gr a).gr X;replace d:=(d.gr a).gr X;replace g:=(g.grow a).grow X;intro _ a;replace a:=a.bl E;refine Zw ?_;replace f:=f.gr a;replace G:=G.gr a;replace H:=H.gr a;replace x:=x.gr a
       replace y:=y.gr a;replace A:=A.gr a;replace z:=z.gr a;replace i:=i.gr a;replace j:=j.gr a;replace k:=k.gr a;replace o:=o.gr a;replace u:=u.gr a;replace q:=q.gr a;replace w:=w.gr a;replace Y:=Y.gr a;replace U:=U.gr a;replace m:=m.gr a;replace l:=l.gr a;replace s:=s.gr a;replace p:=p.gr a;replace c:=c.gr a;replace b:=b.gr a;replace d:=d.gr a;replace g:=g.grow a;refine Wp.cutK [1,10,11,13,2,4,7,8,9,1000000] (fun bl X=>∃ Q V,Zlj fp fs ds di (Zba N t fp fs (To N t a9 d8) f0 h dc) V=some r∧St w0 (Zk col) Q X∧Sl rI Q X a1 ce a9∧Sl rU Q X c6 c7 f0.2.1.2∧Sl rU Q X c8 c9 f0.2.2∧Zi 42 12 Q X ej #[.bool f0.2.1.1,.slice c6 f0.2.1.2.length c7,.slice c8 f0.2.2.length c9]∧Zb rU 119 18 Q X b2 b3 h.1.1.1.2∧Zb rU 119 19 Q X b4 b5 h.1.1.2∧Zb rU 119 20 Q X ca cb h.1.2.1.2∧Zb rU 119 21 Q X cc cd h.1.2.2∧Zi 44 22 Q X dh #[.bool h.1.1.1.1,.slice b2 h.1.1.1.2.length b3,.slice b4 h.1.1.2.length b5,.bool h.1.2.1.1,.slice ca h.1.2.1.2.length cb,.slice cc h.1.2.2.length cd]∧Sl Zc.str Q X az a2 t.2.1∧Sl rV Q X a3 a4 t.2.2.1∧Sl rP Q X a5 a6 t.2.2.2.1∧Sl (Zc.slice rQ) Q X a7 a8 t.2.2.2.2∧Zi 27 1 Q X c0 (Rt t az a2 a3 a4 a5 a6 a7 a8)∧Zi 4 2 Q X bh #[.bool di]∧Zb (Zc.pair rQ rQ) 44 10 Q X aq ar fp∧Zi 36 8 Q X c4 #[.slice aq fp.length ar]∧Zb (Zc.row 3 rI) 28 11 Q X au av fs∧Zi 24 9 Q X c5 #[.slice au fs.length av]∧Zb rI 3 7 Q X eh ei f0.1∧Wl 498 Q X d6 d9∧Yq 499 Q X d7∧Zu (pC 2) ex fo Q X∧[98].map bl=[.bool V]) ?_ ?_
       ·intro bl X hJ;obtain ⟨Q,V,e,g,f,G,H,Y,x,y,A,z,U,i,j,k,o,m,l,u,s,q,p,w,c,b,d,hs⟩:=hJ;rw [Zlj.eq_1] at e;refine .lL [98] hs ?_;refine Zp e (fun I e=>go ?_) fun I e=>go ?_
        ·refine Ur (v:=(.bool false)) l sizeOf4 O O (Rv O O) O O ?_;intro V I T S;replace S:Zi 4 2 Q V bh #[.bool false]:=S;refine go ?_;replace f:=f.kp I;replace i:=i.kp I;replace j:=j.kp I;replace k:=k.kp I;replace o:=o.kp I;replace u:=u.kp I;replace q:=q.kp I;replace m:=m.kp I;replace s:=s.kp I;replace p:=p.kp I;replace c:=c.kp I;replace b:=b.kp I;replace d:=d.kp I T O;replace g:=g.kp I T;exact ⟨_,d,⟨O,⟨false,aq,ar,fp,au,av,fs,e,g,f,i,j,k,o,m,S,u,s,q,p⟩⟩,c,b⟩
        exact ⟨dc,by omega,O,⟨_,_,_,_,O,e,g,f,G,H,Y,x,y,A,z,U,i,j,k,o,m,l,u,s,q,p,w,c,b,d,O⟩⟩
       refine go ?_;refine X9 e (fun D e=>go ?_) fun D e=>go ?_
       ·refine lV (.bool true) (Xw (congrArg Value.bool D) O)<|Zj ?_;exact ⟨O,_,_,e,g,f,G,H,Y,x,y,A,z,U,i,j,k,o,m,l,u,s,q,p,w,c,b,d,O⟩
       obtain ⟨F,I,e⟩:=bZ e;refine Zh (Zus I (((L.gr a).toSlF (Ze.int .i64)).froz 7) ((w.froz 38).toSlF (Ze.int .i64))) fun _ _ ⟨v,I⟩=>⟨_,v,?_⟩;replace I:=Ru E I;refine go ?_;refine lV (.bool (!F)) (X0 (congrArg Value.bool D) O)<|Zj ?_;replace f:=f.gr I;replace G:=G.gr I;replace H:=H.gr I;replace x:=x.gr I;replace y:=y.gr I;replace A:=A.gr I;replace z:=z.gr I;replace i:=i.gr I;replace j:=j.gr I;replace k:=k.gr I;replace o:=o.gr I;replace u:=u.gr I;replace q:=q.gr I;replace w:=w.gr I;replace Y:=Y.gr I;replace U:=U.gr I;replace m:=m.gr I;replace l:=l.gr I;replace s:=s.gr I;replace p:=p.gr I;replace c:=c.gr I;replace b:=b.gr I;replace d:=d.gr I;replace g:=g.grow I;exact ⟨O,_,_,e,g,f,G,H,Y,x,y,A,z,U,i,j,k,o,m,l,u,s,q,p,w,c,b,d,O⟩
      refine lW s.at1<|lV _ (Zz isAgg44 sizeOf44 U) ?_;replace f:=f.froz 21;replace i:=i.froz 21;replace j:=j.froz 21;replace k:=k.froz 21;replace o:=o.froz 21;replace u:=u.froz 21;replace q:=q.froz 21;replace w:=w.froz 21;replace x:=x.froz 21;replace y:=y.froz 21;replace A:=A.froz 21;replace z:=(z).toSlF (Ze.int .u32);replace m:=m.froz 21;replace l:=l.froz 21;replace s:=s.froz 21;replace p:=p.froz 21;replace c:=c.froz 21;replace b:=b.froz 21 (by decide);replace d:=d.froz 21 O;replace g:=g.froz 21 (by decide) (by decide);replace f:=f.froz 20;replace i:=i.froz 20;replace j:=j.froz 20;replace k:=k.froz 20;replace o:=o.froz 20;replace u:=u.froz 20;replace q:=q.froz 20;replace w:=w.froz 20;replace x:=x.froz 20;replace y:=y.froz 20;replace A:=(A).toSlF (Ze.int .u32);replace z:=z.froz 20;replace m:=m.froz 20;replace l:=l.froz 20;replace s:=s.froz 20;replace p:=p.froz 20;replace c:=c.froz 20;replace b:=b.froz 20 (by decide);replace d:=d.froz 20 O;replace g:=g.froz 20 (by decide) (by decide);replace f:=f.froz 19;replace i:=i.froz 19;replace j:=j.froz 19;replace k:=k.froz 19;replace o:=o.froz 19;replace u:=u.froz 19;replace q:=q.froz 19;replace w:=w.froz 19;replace x:=x.froz 19;replace y:=(y).toSlF (Ze.int .u32);replace A:=A.froz 19;replace z:=z.froz 19;replace m:=m.froz 19;replace l:=l.froz 19;replace s:=s.froz 19;replace p:=p.froz 19;replace c:=c.froz 19;replace b:=b.froz 19 (by decide);replace d:=d.froz 19 O;replace g:=g.froz 19 (by decide) (by decide);replace f:=f.froz 18;replace i:=i.froz 18;replace j:=j.froz 18;replace k:=k.froz 18;replace o:=o.froz 18;replace u:=u.froz 18;replace q:=q.froz 18;replace w:=w.froz 18;replace x:=(x).toSlF (Ze.int .u32);replace y:=y.froz 18;replace A:=A.froz 18;replace z:=z.froz 18;replace m:=m.froz 18;replace l:=l.froz 18;replace s:=s.froz 18;replace p:=p.froz 18
      replace c:=c.froz 18;replace b:=b.froz 18 (by decide);replace d:=d.froz 18 O;replace g:=g.froz 18 (by decide) (by decide);refine Ui (col:=(Xg 18 (Xg 19 (Xg 20 (Xg 21 gf))))) (r:=(Zc.pair rQ rQ)) (xs:=[(((h.1.1.1.1,h.1.1.1.2),h.1.1.2),((h.1.2.1.1,h.1.2.1.2),h.1.2.2))]) [(.agg #[.bool h.1.1.1.1,.slice b2 h.1.1.1.2.length b3,.slice b4 h.1.1.2.length b5,.bool h.1.2.1.1,.slice ca h.1.2.1.2.length cb,.slice cc h.1.2.2.length cd])] 39 (Wf.ofF (Rows.consF (r:=(Zc.pair rQ rQ)) (x:=(((h.1.1.1.1,h.1.1.1.2),h.1.1.2),((h.1.2.1.1,h.1.2.1.2),h.1.2.2))) (cs:=[.bool h.1.1.1.1,.slice b2 h.1.1.1.2.length b3,.slice b4 h.1.1.2.length b5,.bool h.1.2.1.1,.slice ca h.1.2.1.2.length cb,.slice cc h.1.2.2.length cd]) (Vz (Vz (Vz (Se h.1.1.1.1) (Uv x)) (Uv y)) (Vz (Vz (Se h.1.2.1.1) (Uv A)) (Uv z))) Rows.nil0)) ?_;intro _ M S B W;obtain ⟨I,e⟩:=Z5 e;replace u:=u.gr B;refine Zad (col:=S) (w:=M) (r:=(Zc.pair rQ rQ)) (c:=10) (c2:=10) (u.ex) (W.srcN (NB.pair (NB.pair (NB.pair NB.bool NB.slice) NB.slice) (NB.pair (NB.pair NB.bool NB.slice) NB.slice))) O underlying36 Z6y O O O I.1 I.2 (by decide) ?_;intro P R _ T F K;replace f:=(f.gr B).kpp F;replace i:=(i.gr B).kpp F;replace j:=(j.gr B).kpp F;replace k:=(k.gr B).kpp F;replace o:=(o.gr B).kpp F;replace q:=(q.gr B).kpp F;replace w:=(w.gr B).kpp F;replace m:=(m.gr B).kpp F;replace l:=(l.gr B).kpp F;replace s:=(s.gr B).kpp F;replace p:=(p.gr B).kpp F;replace c:=(c.gr B).kpp F;replace b:=(b.gr B).kpp F;replace d:=d.gr B;replace d:=d.trans (F.mono (by first | exact Zbt O | exact Zbs O | exact pCo_pS O | exact fun _=>Zbr | exact fun _ C=>C | exact fun _ _=>O))
      refine Ur (v:=(.slice P ((fp++[(((h.1.1.1.1,h.1.1.1.2),h.1.1.2),((h.1.2.1.1,h.1.2.1.2),h.1.2.2))]).length) R)) s sizeOf36 O O (Rv O O) O O ?_;intro I E Q S;replace S:Zi 36 8 T I c4 #[(.slice P ((fp++[(((h.1.1.1.1,h.1.1.1.2),h.1.1.2),((h.1.2.1.1,h.1.2.1.2),h.1.2.2))]).length) R)]:=S;have I:=(K.kp E).new;refine Zj<|Ym (col:=T) [(0,0),(1,1),(2,3),(3,3),(4,2),(5,2)] (by kernel_rfl) (by kernel_rfl) ?_;replace p:=p.kp E;refine xW (fun _ a=>p.at1.gr (a.bl T)) ?_;refine xu O O (fun _=>V8 O) ?_;refine xe O O ?_;intro V n;have a:=n.bl T;obtain ⟨L,K,e⟩:=bZ e;replace w:=(w.kp E).gr a;refine Zh (Zn0 40 K (w.toSlF (Ze.int .i64))) fun _ _ ⟨K,Z,J,v,D,M⟩=>⟨_,v,?_⟩;replace M:=M.thaw (Zt .i64) D ((Fz.refl (col:=T)).froz 7);replace D:=D.thawR (col:=T);generalize Z2 V.heap.size T K=K at *;refine Zj<|Xb K n D<|xe O O ?_;intro _ n;replace g:=((((g.grow B).kpp F).kp E Q).grow a).grow D;replace f:=((f.kp E).gr a).gr D;replace i:=((i.kp E).gr a).gr D;replace j:=((j.kp E).gr a).gr D;replace k:=((k.kp E).gr a).gr D;replace o:=((o.kp E).gr a).gr D;replace q:=((q.kp E).gr a).gr D;replace m:=((m.kp E).gr a).gr D;replace l:=((l.kp E).gr a).gr D;replace c:=((c.kp E).gr a).gr D;replace b:=((b.kp E).gr a).gr D;replace d:=((d.kp E Q O).gr a).gr D;replace I:=(I.gr a).gr D;replace S:=(S.gr a).gr D;replace p:=(p.gr a).gr D;have a:=n.bl K;refine Ui (col:=K) (r:=(Zc.row 3 rI)) (xs:=[L]) [.slice Z L.length J] 40 (Wf.cons1 (cs:=[.slice Z L.length J]) (M.gr a).has Rows.nil0) fun _ _ E Z W=>Zj<|Xb E n Z<|xe O O ?_;intro T n;replace f:=(f.gr a).gr Z;replace i:=(i.gr a).gr Z;replace j:=(j.gr a).gr Z;replace k:=(k.gr a).gr Z;replace o:=(o.gr a).gr Z;replace I:=(I.gr a).gr Z;replace q:=(q.gr a).gr Z;replace m:=(m.gr a).gr Z;replace l:=(l.gr a).gr Z
      replace S:=(S.gr a).gr Z;replace p:=(p.gr a).gr Z;replace c:=(c.gr a).gr Z;replace b:=(b.gr a).gr Z;replace d:=(d.gr a).gr Z;replace g:=(g.grow a).grow Z;have a:=n.bl E;obtain ⟨F,e⟩:=Z5 e;replace q:=q.gr a;refine Zad (col:=E) (w:=T) (r:=(Zc.row 3 rI)) (c:=11) (c2:=40) (q.ex) ((W.gr a).srcC (by decide)) O underlying24 Z6r O O O F.1 F.2 (by decide) ?_;intro X B _ D K F;replace f:=(f.gr a).kpp K;replace i:=(i.gr a).kpp K;replace j:=(j.gr a).kpp K;replace k:=(k.gr a).kpp K;replace o:=(o.gr a).kpp K;replace I:=(I.gr a).kpp K;replace m:=(m.gr a).kpp K;replace l:=(l.gr a).kpp K;replace S:=(S.gr a).kpp K;replace p:=(p.gr a).kpp K;replace c:=(c.gr a).kpp K;replace b:=(b.gr a).kpp K;replace d:=d.gr a;replace d:=d.trans (K.mono (by first | exact Zbt O | exact Zbs O | exact pCo_pS O | exact fun _=>Zbr | exact fun _ C=>C | exact fun _ _=>O));refine Zj<|xk D<|xe O O ?_;intro _ n;replace g:=(g.grow a).kpp K;have a:=n.bl D;replace p:=p.gr a;refine Ur (v:=(.slice X ((fs++[L]).length) B)) p sizeOf24 O O (Rv O O) O O ?_;intro C J W Q;replace Q:Zi 24 9 D C c5 #[.slice X ((fs++[L]).length) B]:=Q;refine Zj<|xk D ?_;have C:=((F.gr a).kp J).new;refine Yf ?_;replace f:=(f.gr a).kp J;replace i:=(i.gr a).kp J;replace j:=(j.gr a).kp J;replace k:=(k.gr a).kp J;replace o:=(o.gr a).kp J;replace I:=(I.gr a).kp J;replace m:=(m.gr a).kp J;replace l:=(l.gr a).kp J;replace S:=(S.gr a).kp J;replace c:=(c.gr a).kp J;replace b:=(b.gr a).kp J;replace d:=(d.gr a).kp J W O;replace g:=(g.grow a).kp J W;intro _ a;replace a:=a.bl D;replace f:=f.gr a;replace i:=i.gr a;replace j:=j.gr a;replace k:=k.gr a;replace o:=o.gr a;replace m:=m.gr a;replace l:=l.gr a;replace c:=c.gr a;replace b:=b.gr a;replace d:=d.gr a;replace g:=g.grow a
      exact ⟨_,d,⟨di,P,R,(fp++[(((h.1.1.1.1,h.1.1.1.2),h.1.1.2),((h.1.2.1.1,h.1.2.1.2),h.1.2.2))]),X,B,(fs++[L]),e,g,f,i,j,k,o,m,l,I.gr a,S.gr a,C.gr a,Q.gr a⟩,c,b⟩
    refine Ym (col:=bu) [(0,1),(1,1),(2,1),(3,1),(4,0),(5,1),(6,0),(8,0),(7,3),(9,3),(10,1),(11,1)] (by kernel_rfl) (by kernel_rfl)<|xu O O (fun _=>Wu O) ?_;refine xu O O (fun _=>Ztc _ _ O O) ?_;refine xu O O (fun _=>Zm9 O) ?_;refine X9 e (fun W e=>?_) fun W e=>?_
    ·refine V1 (b:=!decide (h.2=0)) 63 O O O O O (by rw [W];rfl)<|V1 (b:=!decide (h.2=0)) 63 O O O O O (by rw [W];rfl)<|V1 (b:=!decide (h.2=0)) 63 O O O O O (by rw [W];rfl)<|V1 (b:=!decide (h.2=0)) 63 O O O O O (by rw [W];rfl)<|V1 (b:=!decide (h.2=0)) 63 O O O O O (by rw [W];rfl)<|V1 (b:=!decide (h.2=0)) 63 O O O O O (by rw [W];rfl)<|V1 (b:=!decide (h.2=0)) 63 O O O O O (by rw [W];rfl)<|V1 (b:=!decide (h.2=0)) 63 O O O O O (by rw [W];rfl)<|xu (v:=(.bool true)) O O (fun _=>Xw (congrArg Value.bool W) O) ?_;refine Yf ?_;intro _ a;replace a:=a.bl bu;replace f:=f.gr a;replace i:=i.gr a;replace j:=j.gr a;replace k:=k.gr a;replace o:=o.gr a;replace u:=u.gr a;replace q:=q.gr a;replace w:=w.gr a;replace G:=G.gr a;replace H:=H.gr a;replace x:=x.gr a;replace y:=y.gr a;replace A:=A.gr a;replace z:=z.gr a;replace m:=m.gr a;replace l:=l.gr a;replace s:=s.gr a;replace p:=p.gr a;replace Y:=Y.gr a;replace U:=U.gr a;replace c:=c.gr a;replace b:=b.gr a;replace d:=d.gr a;replace g:=g.grow a;exact ⟨O,_,_,e,g,f,G,H,Y,x,y,A,z,U,i,j,k,o,m,l,u,s,q,p,w,c,b,d,O⟩
    refine Zkm (v:=(.pointer ((some (⟨dh,0,none⟩:Addr)).map (·.add 3)))) (b:=!decide (h.2=0)) 63 O O O O O (by rw [W];rfl) (fun _=>Un (sz:=3) (off:=3) underlying44 O sizeOf42 (by decide) O O ⟨_,_,O⟩) ?_;refine Zg8 (v:=(.agg #[.bool h.1.2.1.1,.slice ca h.1.2.1.2.length cb,.slice cc h.1.2.2.length cd])) (b:=!decide (h.2=0)) 63 O O O O O (by rw [W];rfl) (fun _ a=>Xi isAgg42 sizeOf42 O O (((U.atN).part 3 3 _ O).gr (a.bl bu))) ?_;refine Zkm (v:=(.pointer ((some (⟨dh,0,none⟩:Addr)).map (·.add 0)))) (b:=!decide (h.2=0)) 63 O O O O O (by rw [W];rfl) (fun _=>Un (sz:=3) (off:=0) underlying44 O sizeOf42 (by decide) O O ⟨_,_,O⟩) ?_;refine Zg8 (v:=(.agg #[.bool h.1.1.1.1,.slice b2 h.1.1.1.2.length b3,.slice b4 h.1.1.2.length b5])) (b:=!decide (h.2=0)) 63 O O O O O (by rw [W];rfl) (fun _ a=>Xi isAgg42 sizeOf42 O O (((U.atN).part 0 3 _ O).gr (a.bl bu))) ?_;refine Zg8 (v:=(.agg #[.bool f0.2.1.1,.slice c6 f0.2.1.2.length c7,.slice c8 f0.2.2.length c9])) (b:=!decide (h.2=0)) 63 O O O O O (by rw [W];rfl) (fun _ a=>Xi isAgg42 sizeOf42 O O (Y.atN.gr (a.bl bu))) ?_;refine xe O O ?_;intro D n;have a:=n.bl bu;refine go ?_;obtain ⟨_,I,e⟩:=bZ e;replace x:=x.gr a;replace y:=y.gr a;replace A:=A.gr a;replace z:=z.gr a;refine Zh (Z4w 41 42 I ((((A.toSlF (Ze.int .u32)).froz 21).froz 18).froz 19) ((((z.froz 20).toSlF (Ze.int .u32)).froz 18).froz 19) ((((x.froz 20).froz 21).toSlF (Ze.int .u32)).froz 19) ((((y.froz 20).froz 21).froz 18).toSlF (Ze.int .u32))) fun _ _ ⟨C,_,_,_,_,v,V,R,S⟩=>⟨_,v,?_⟩;replace R:=R.thaw (Zt .u32) V (((((Fz.refl (col:=bu)).froz 20).froz 21).froz 18).froz 19) (by decide);replace S:=S.thaw (Zt .u32) V (((((Fz.refl (col:=bu)).froz 20).froz 21).froz 18).froz 19) (by decide);replace V:=V.thawR (col:=bu);generalize Z2 D.heap.size bu C=C at *;refine Zj<|Xb C n V<|xe O O ?_;intro _ n;replace f:=(f.gr a).gr V;replace i:=(i.gr a).gr V;replace j:=(j.gr a).gr V;replace k:=(k.gr a).gr V
    replace o:=(o.gr a).gr V;replace u:=(u.gr a).gr V;replace q:=(q.gr a).gr V;replace w:=(w.gr a).gr V;replace G:=(G.gr a).gr V;replace H:=(H.gr a).gr V;replace m:=(m.gr a).gr V;replace l:=(l.gr a).gr V;replace s:=(s.gr a).gr V;replace p:=(p.gr a).gr V;replace Y:=(Y.gr a).gr V;replace U:=(U.gr a).gr V;replace c:=(c.gr a).gr V;replace b:=(b.gr a).gr V;replace d:=(d.gr a).gr V;replace g:=(g.grow a).grow V;have a:=n.bl C;refine go ?_;obtain ⟨I,F,e⟩:=bZ e;replace G:=G.gr a;replace H:=H.gr a;refine Zh (Zhh F (((R.gr a).toSlF (Ze.int .u32)).froz 42) (((S.gr a).froz 41).toSlF (Ze.int .u32)) ((G.froz 41).froz 42) ((H.froz 41).froz 42)) fun _ _ ⟨v,E⟩=>⟨_,v,?_⟩;replace E:=Ru C E;refine Zj<|Xb C n E<|Zkm (v:=(.bool (!I))) (b:=!decide (h.2=0)) 63 O O O O O (by rw [W];rfl) (fun _=>Zg2 I O) ?_;refine xu (v:=(.bool (!I))) O O (fun _=>X0 (congrArg Value.bool W) O) ?_;refine Yf ?_;replace x:=((x.gr V).gr a).gr E;replace y:=((y.gr V).gr a).gr E;replace A:=((A.gr V).gr a).gr E;replace z:=((z.gr V).gr a).gr E;replace f:=(f.gr a).gr E;replace i:=(i.gr a).gr E;replace j:=(j.gr a).gr E;replace k:=(k.gr a).gr E;replace o:=(o.gr a).gr E;replace u:=(u.gr a).gr E;replace q:=(q.gr a).gr E;replace w:=(w.gr a).gr E;replace m:=(m.gr a).gr E;replace l:=(l.gr a).gr E;replace s:=(s.gr a).gr E;replace p:=(p.gr a).gr E;replace Y:=(Y.gr a).gr E;replace U:=(U.gr a).gr E;replace c:=(c.gr a).gr E;replace b:=(b.gr a).gr E;replace d:=(d.gr a).gr E;replace g:=(g.grow a).grow E;intro _ a;replace a:=a.bl C;replace f:=f.gr a;replace i:=i.gr a;replace j:=j.gr a;replace k:=k.gr a;replace o:=o.gr a;replace u:=u.gr a;replace q:=q.gr a;replace z:=z.gr a
    replace m:=m.gr a;replace l:=l.gr a;replace s:=s.gr a;replace p:=p.gr a;replace b:=b.gr a;replace g:=g.grow a;exact ⟨O,_,_,e,g,f,(G.gr E).gr a,(H.gr E).gr a,Y.gr a,x.gr a,y.gr a,A.gr a,z,U.gr a,i,j,k,o,m,l,u,s,q,p,w.gr a,c.gr a,b,d.gr a,O⟩
   ·intro ge ex fo hJ b;obtain ⟨bi,aq,ar,fp,au,av,fs,e,g,f,i,j,k,o,m,l,u,s,q,p⟩:=hJ;rw [To.eq_1] at e;refine go ?_;refine lW s.at1 ?_;obtain ⟨_,h,e⟩:=bZ e;refine Zh (Z3p h (u.toSlF (Ze.pair (Ze.pair (Ze.pair Ze.bool Ze.slice) Ze.slice) (Ze.pair (Ze.pair Ze.bool Ze.slice) Ze.slice)))) fun _ _ ⟨v,c⟩=>⟨_,v,?_⟩;replace c:=Ru ex c;refine Zht O<|Zj<|Zw ?_;replace f:=f.gr c;replace i:=i.gr c;replace j:=j.gr c;replace k:=k.gr c;replace o:=o.gr c;replace q:=q.gr c;replace m:=m.gr c;replace l:=l.gr c;replace p:=p.gr c;replace b:=b.gr c;replace g:=g.grow c;refine Wp.cutK [4,1000000] (fun bl x=>∃ y A,Zlg A=some r∧St w0 (Zk col) y x∧Zi 4 2 y x bh #[.bool A]∧Yq 499 y x (ge :: [])) ?_ ?_
    ·intro bl x hJ;obtain ⟨y,A,e,g,l,b⟩:=hJ;rw [Zlg.eq_1] at e;refine Y5 ?_;cases e;refine ⟨_,(ge :: []),O,b,?_⟩;intro _ Y z;replace l:=l.kp Y;replace g:=g.kp Y z;exact ⟨_,Zkh O O isAgg4 O l.at1,O,g.below⟩
    refine go ?_;refine X9 e (fun U e=>go ?_) fun U e=>go ?_
    ·refine lV _ (Zz isAgg27 sizeOf27 m)<|go ?_;refine lW p.at1<|go ?_;obtain ⟨H,w,e⟩:=bZ e;refine Zh (Z3q w (i.froz 11) (j.froz 11) (k.froz 11) (o.froz 11) (q.toSlF (Ze.row (Ze.int .i64))) (f.froz 11)) fun _ _ ⟨v,w⟩=>⟨_,v,?_⟩;replace w:=Ru ex w;refine lV (.bool H) (Xw (congrArg Value.bool U) O) ?_;replace l:=l.gr w;refine Ur (v:=(.bool H)) l sizeOf4 O O (Rv O O) O O ?_;intro x d Y G;replace G:Zi 4 2 ex x bh #[.bool H]:=G;refine Zj ?_;replace b:=(b.gr w).kp d;replace g:=(g.grow w).kp d Y;exact ⟨O,_,_,e,g,G,b⟩
    refine lV (.bool false) (X0 (congrArg Value.bool U) O)<|Ur (v:=(.bool false)) l sizeOf4 O O (Rv O O) O O ?_;intro y c A z;replace z:Zi 4 2 ex y bh #[.bool false]:=z;refine Zj ?_;replace b:=b.kp c;replace g:=g.kp c A;exact ⟨O,_,_,e,g,z,b⟩
   intro c_ iy ex fo hX b;obtain ⟨rfl,hX⟩:=hX;obtain ⟨bi,aq,ar,fp,au,av,fs,e,g,f,i,j,k,o,m,l,u,s,q,p⟩:=hX;rw [Zlk.eq_1] at e;refine Y5 ?_;cases e;refine ⟨_,(iy :: []),O,b,?_⟩;intro _ s q;replace l:=l.kp s;replace g:=g.kp s q;exact ⟨_,Zkh O O isAgg4 O l.at1,O,g.below⟩
  refine go ?_;refine X9 e (fun p e=>go ?_) fun p e=>go ?_
  ·refine lV (.bool true) (Xw (congrArg Value.bool p) O)<|Zj ?_;exact ⟨O,_,_,e,g,f,i,j,k,o,m,l,db,b,O⟩
  refine lv (v:=d5) O O (Wn O)<|go ?_;refine lV (.bool false) (Z9s db ⟨_,_,_,underlying33⟩ O)<|lV (.bool false) (X0 (congrArg Value.bool p) O)<|Zj ?_;exact ⟨O,_,_,e,g,f,i,j,k,o,m,l,db,b,O⟩
 refine Wv<|lV _ (Zz isAgg27 sizeOf27 m) ?_;obtain ⟨_,u,e⟩:=bZ e;refine Zh (Z3o u i j k o) fun _ _ ⟨v,h⟩=>⟨_,v,?_⟩;replace h:=Ru c1 h;refine go ?_;replace f:=f.gr h;replace i:=i.gr h;replace j:=j.gr h;replace k:=k.gr h;replace o:=o.gr h;replace m:=m.gr h;replace l:=l.gr h;replace b:=b.gr h;replace g:=g.grow h;refine X9 e (fun q e=>go ?_) fun q e=>go ?_
 ·refine lV (.bool true) (Xw (congrArg Value.bool q) O)<|Zj ?_;exact ⟨O,_,_,e,g,f,i,j,k,o,m,l,b,O⟩
 refine lV _ (Zz isAgg27 sizeOf27 m)<|go ?_;obtain ⟨s,p,e⟩:=bZ e;refine Zh (Z3n p i j k o) fun _ _ ⟨v,d⟩=>⟨_,v,?_⟩;replace d:=Ru c1 d;refine go ?_;refine lV (.bool (!s)) (X0 (congrArg Value.bool q) O)<|Zj ?_;exact ⟨O,_,_,e,g.grow d,f.gr d,i.gr d,j.gr d,k.gr d,o.gr d,m.gr d,l.gr d,b.gr d,O⟩
theorem Z19 {N:Nat} {a b:Int} (h:-9223372036854775808≤a∧a≤9223372036854775807) (g:0<b∧b≤9223372036854775807) (hr:Z8 N 8):Zaj N a b=some (Zm ((a:Rat) / (b:Rat))):=by
 have h:=Ztp h g hr
 rw [Zct] at h
 rw [Zaj];exact h
theorem Xa4 {N k l:Nat} {a b:QV} (ha:RV k a) (hb:RV l b) (hr:Z8 N (2 * (k+l+3))):Zid N a b=some (Zm (Zq a * Zq b)):=by
 have h:Zjq N ((a.1.1,a.1.2),a.2) ((b.1.1,b.1.2),b.2)=_:=Xac ha hb hr
 rw [Zid,h];rfl
theorem Zng {N k l:Nat} {a b:QV} (ha:RV k a) (hb:RV l b) (hr:Z8 N (2 * (k+l+3))):T8 N ((a.1.1,a.1.2),a.2) ((b.1.1,b.1.2),b.2)=some (decide (Zq a=Zq b)):=by
 have h:=Z2u (N:=N) ha hb hr
 refine Eq.trans h ?_
 congr 1
 exact decide_eq_decide.2 Zm3
/-! one behind the other -/
def V0:List ByteArray→ByteArray
 | []=>⟨#[]⟩
 | b :: l=>b++V0 l
theorem Z12:∀ (l:List ByteArray) (b:ByteArray),V0 (l++[b])=V0 l++b
 | [],b=>by rw [List.nil_append,V0,V0];exact ByteArray.append_empty.trans ByteArray.empty_append.symm
 | c :: l,b=>by rw [List.cons_append,V0,V0,Z12 l b,ByteArray.append_assoc]
theorem Zty (B:Nat):∀ l:List ByteArray,(∀ b ∈ l,b.size≤B)→(V0 l).size≤l.length * B
 | [],_=>by rw [V0];exact bL _
 | b :: l,h=>by
  have d:=h b aK
  have e:=Zty B l fun c a=>h c (aE _ a)
  rw [V0,ByteArray.size_append,nC,Nat.add_mul,Nat.one_mul];omega
def Zqn (N:Nat) (n:Z4) (B:Nat) (p:List Int×ByteArray):Prop:=p.1.length≤1048576∧p.2.size≤B∧∀ rest:ByteArray,(p.2++rest).size≤1099511627776→Ze9 N n (p.2++rest)=some (p.1,(p.2.size:Int),0)
theorem Z1u {N B:Nat} {n:Z4} (hN:2199023255552<N) (ht:Zkq n) (good:List R2) (hg:good.length≤20):∀ (L:List (List Int×ByteArray)) (f i:Nat),good.drop i=L.map (·.1)→i≤good.length→good.length<f+i→(∀ p ∈ L,Zqn N n B p)→(V0 (L.map (·.2))).size≤1099511627776→
  Qr N n good f (i:Int) (V0 (L.map (·.2)))=some true
 | L,0,i,_,e,g,_,_=>by omega
 | [],f+1,i,c,e,g,_,_=>by
  have:=List.drop_eq_nil_iff.1 c
  rw [Qr.eq_2,if_neg (dF (by omega)),cX,V0,decide_eq_true rfl]
 | (w,b) :: L,f+1,i,c,e,g,j,d=>by
  have k:i<good.length:=by
   rcases bW i good.length with h | h
   ·exact h
   ·rw [List.drop_eq_nil_of_le h] at c;cases c
  rw [List.drop_eq_getElem_cons k,bX] at c
  obtain ⟨o,q⟩:=List.cons.inj c
  obtain ⟨r,C,s⟩:=j (w,b) aK
  rw [bX,V0] at d ⊢
  have t:=ByteArray.size_append (a:=b) (b:=V0 (L.map (·.2)))
  have u:(b++V0 (L.map (·.2))).size≤1099511627776:=d
  have v:=Z1u (B:=B) hN ht good hg L f (i+1) q (by omega) (by omega) (fun p x=>j p (aE _ x)) (by omega)
  have y:Tq N (n.1,n.2.1,n.2.2.1,n.2.2.2.1,n.2.2.2.2)=some n:=Zkj (by omega) ht
  have Zk6:Ze9 N (n.1,n.2.1,n.2.2.1,n.2.2.2.1,n.2.2.2.2) (b++V0 (L.map (·.2)))=some (w,(b.size:Int),0):=s _ d
  have A:=Z1m (N:=N) (l:=w) r (by omega)
  have ex:(b++V0 (L.map (·.2))).extract b.size (b++V0 (L.map (·.2))).size=V0 (L.map (·.2)):=ByteArray.extract_append_eq_right rfl t
  have m:Zn good (i:Int)=some w:=by rw [Xd k,o]
  rw [Qr.eq_2,if_pos (dT (by omega)),y,oB,Zk6,oB]
  dsimp only
  rw [if_neg (show ¬ (!decide ((0:Int)=0))=true by decide),m,oB,A,oB,if_neg (by decide),if_neg (dF (by omega)),decide_eq_false (by omega),Zfi,if_neg (by decide)]
  dsimp only
  rw [Xh (by omega),aB,aB,ex,wS (by omega)]
  exact v
theorem Z1v {N B:Nat} {n:Z4} (hN:2199023255552<N) (ht:Zkq n) (hB6:7 * B≤1099511627776) (M:List R2) (picks:List Int) (kk:ByteArray→List R2→Int→Option Bool) (i:Nat) (L:List (List Int×ByteArray)) (hL:L.length≤6) (hT:∀ p ∈ L,Zqn N n B p):
  Zdt N n M picks (V0 (L.map (·.2))) (L.map (·.1)) (i:Int) kk false=some true:=by
 have a:=Zty B (L.map (·.2)) fun b c=>by
  obtain ⟨p,d,rfl⟩:=cD.1 c
  exact (hT p d).2.1
 rw [bE] at a
 have e:L.length * B≤6 * B:=aX _ hL
 rw [Zdt,if_neg (by decide)]
 exact Z1u (B:=B) hN ht (L.map (·.1)) (by rw [bE];omega) L N 0 rfl (bL _) (by rw [bE];omega) hT (by omega)
section
variable {N W K:Nat} {n:Z4} (hf:Y7 N n) (hs:Ww n W) (hr:Z8 N (8 * K+40)) (hWK:1025 * (W+2)+15≤K) (hN:2199023255552<N) {ord:List Int} (ho:Ug n.2.2.2.1 ord) (hol:ord.length≤1024) (hK3:3 * (1024 * (W+2)+2)+40≤K) (hWc:1024 * (W+2)+2≤17000000000) (ht:Zkq n)
variable (hC:Ue N n=some 0) (o1:Tr N n.2.2.2.1=some (ord,0)) (hall:∀ i,i<n.2.1.length→(i:Int) ∈ ord)
include hf hs hr hWK hN ho hol hK3 ht
/-! side by side -/
omit hN ht hWK in
theorem Zt1 (A:QV) (qA:RV K A) (i:Int) (kk:Bool→List Int→List Int→Int→Option Bool) (M:List R2) (hM:∀ u ∈ M,Xr n u) (hl:M.length≤1048576):∀ (f k:Nat) (nx:Int),k≤M.length→M.length<f+k→∃ r:Int,
  Zb8 N (M.map fun u=>Xn (sp n ord u)) A.1.1 A.1.2 A.2 i kk f nx (k:Int)=(if (decide (r<0))=true then some false else (Zn (M.map fun u=>Xn (sp n ord u)) r).bind fun e=>kk e.2.1.1 e.2.1.2 e.2.2 (i64.wrap (i+1)))∧
  ((r=nx∧∀ j (h:j<M.length),k≤j→(sp n ord M[j]).1≠Zq A)∨∃ (j:Nat) (h:j<M.length),r=(j:Int)∧(sp n ord M[j]).1=Zq A)
 | 0,k,nx,s,t=>by omega
 | f+1,k,nx,s,t=>by
  have b:(M.map fun u=>Xn (sp n ord u)).length=M.length:=bE _
  rw [Zb8.eq_2,b]
  by_cases hk:k<M.length
  ·obtain ⟨q1,_⟩:=Zqb hf hs ho hol (hM _ (aJ hk))
   have g:Zn (M.map fun u=>Xn (sp n ord u)) (k:Int)=some (Xn (sp n ord M[k])):=by
    rw [Xd (by rw [b];exact hk),fG]
   have l:=Zng (N:=N) (a:=Zm (sp n ord M[k]).1) (Yi q1) qA (hr.mono (by omega))
   rw [Xz] at l
   have m:T8 N (((Xn (sp n ord M[k])).1.1.1,(Xn (sp n ord M[k])).1.1.2),(Xn (sp n ord M[k])).1.2) ((A.1.1,A.1.2),A.2)=some (decide ((sp n ord M[k]).1=Zq A)):=l
   rw [if_pos (dT (by omega)),g,oB,m,oB]
   by_cases he:(sp n ord M[k]).1=Zq A
   ·obtain ⟨r,c,d⟩:=Zt1 A qA i kk M hM hl f (k+1) (k:Int) (by omega) (by omega)
    rw [if_pos (dT he),Zia,wS (by omega)]
    refine ⟨r,c,?_⟩
    rcases d with ⟨rfl,_⟩ | h
    ·exact .inr ⟨k,hk,rfl,he⟩
    ·exact .inr h
   ·obtain ⟨r,c,d⟩:=Zt1 A qA i kk M hM hl f (k+1) nx (by omega) (by omega)
    rw [if_neg (dF he),Zia,wS (by omega)]
    refine ⟨r,c,?_⟩
    rcases d with ⟨rfl,h⟩ | h
    ·refine .inl ⟨rfl,fun j o p=>?_⟩
     rcases bW k j with q | q
     ·exact h j o q
     ·have:j=k:=by omega
      subst this
      exact he
    ·exact .inr h
  ·rw [if_neg (dF (by omega))]
   exact ⟨nx,rfl,.inl ⟨rfl,fun j o p=>by omega⟩⟩
include hall
omit ht hWK in
theorem Z2h (M:List R2) (hnd:M.Nodup) (hV:∀ u ∈ M,Xr n u∧(sp n ord u).1<(sp n ord u).2) (hfull:∀ u,Xr n u→(sp n ord u).1<(sp n ord u).2→u ∈ M) (hl:M.length≤1048576):∀ (m i f:Nat) (A:QV),i+m=M.length→m<f→RV K A→0≤Zq A→Zq A≤1→(∀ u ∈ M,¬ ((sp n ord u).1<Zq A∧Zq A<(sp n ord u).2))→M.countP (fun u=>decide ((sp n ord u).1<Zq A))=i→
  Zak N (M.map fun u=>Xn (sp n ord u)) f A.1.1 A.1.2 A.2 (i:Int)=some true
 | m,i,0,A,_,h,_,_,_,_,_=>by omega
 | 0,i,f+1,A,y,_,g,k,l,d,p=>by
  have a:(M.map fun u=>Xn (sp n ord u)).length=M.length:=bE _
  have C:=Z5r hf ho hfull k l d (by omega)
  have D:Zaj N 1 1=some (Zm 1):=by
   rw [Z19 (by omega) (by omega) (hr.mono (by omega))]
   congr 2
   exact div_one _
  have q:=Zng (N:=N) (b:=Zm 1) g (Yi (Nat.le_of_eq Zkd)) (hr.mono (by omega))
  rw [Xz,decide_eq_true C] at q
  rw [Zak.eq_2,a,if_neg (dF (by omega)),D,oB,q,oB]
 | m+1,i,f+1,A,y,V,g,k,l,d,p=>by
  have a:(M.map fun u=>Xn (sp n ord u)).length=M.length:=bE _
  have s:Zq A<1:=by
   rcases Rat.le_iff_lt_or_eq.1 l with h | h
   ·exact h
   ·have X:M.countP (fun u=>decide ((sp n ord u).1<Zq A))=M.length:=List.countP_eq_length.2 fun u o=>by
     obtain ⟨E,F⟩:=hV u o
     have G:(sp n ord u).2≤1:=(Zbx hf ho E ord (0,1) (fun _ h=>h) (show (0:Rat)≤1 by decide)).2.2
     rw [decide_eq_true_eq,h]
     exact Std.lt_of_lt_of_le F G
    omega
  obtain ⟨w,t,H,I,J,L,O,P⟩:=Z5s hf ho hall hnd hV hfull k s d
  obtain ⟨r,Q,R⟩:=Zt1 hf hs hr ho hol hK3 A g (i:Int) (Zak N (M.map fun u=>Xn (sp n ord u)) f) M (fun u o=>(hV u o).1) hl N 0 (-1) (bL _) (by omega)
  have v:∃ (j:Nat) (h:j<M.length),r=(j:Int)∧M[j]=w:=by
   rcases R with ⟨_,h⟩ | ⟨j,c,S,T⟩
   ·obtain ⟨j,c,e⟩:=List.getElem_of_mem t
    exact absurd (by rw [e];exact H) (h j c (bL _))
   ·exact ⟨j,c,S,I _ (aJ c) T⟩
  obtain ⟨j,c,rfl,e⟩:=v
  obtain ⟨_,Y⟩:=Zqb hf hs ho hol (hV w t).1
  have U:=Z2h M hnd hV hfull hl m (i+1) f (Zm (sp n ord w).2) (by omega) (by omega) (Yi (by omega)) (by rw [Xz];exact J) (by rw [Xz];exact L) (by rw [Xz];exact O) (by rw [Xz,P,p])
  have x:Zn (M.map fun u=>Xn (sp n ord u)) (j:Int)=some (Xn (sp n ord w)):=by
   rw [Xd (by rw [a];exact c),fG,e]
  rw [Zak.eq_2,a,if_pos (dT (by omega))]
  refine Q.trans ?_
  rw [if_neg (dF (by omega)),x,oB,wS (by omega)]
  exact U
omit ht hWK in
theorem Xa2 (M:List R2) (hnd:M.Nodup) (hV:∀ u ∈ M,Xr n u∧(sp n ord u).1<(sp n ord u).2) (hfull:∀ u,Xr n u→(sp n ord u).1<(sp n ord u).2→u ∈ M) (hl:M.length≤1048576):Zll N (M.map fun u=>Xn (sp n ord u))=some true:=by
 have d:RV K ((false,([]:List Int)),([]:List Int)):=⟨by simp [Zo],by simp [Zo],by simp,by simp⟩
 have a:Zq ((false,([]:List Int)),([]:List Int))=0:=by rw [Zq];simp [Zr,Za]
 have c:∀ u ∈ M,0≤(sp n ord u).1:=fun u b=>(Zbx hf ho (hV u b).1 ord (0,1) (fun _ h=>h) (show (0:Rat)≤1 by decide)).1
 have h:=Z2h hf hs hr hN ho hol hK3 hall M hnd hV hfull hl M.length 0 N _ (by omega) (by omega) d (by rw [a];exact Rat.le_refl) (by rw [a];decide) (fun u b ⟨g,_⟩=>by rw [a] at g;exact absurd g (bQ.2 (c u b))) (List.countP_eq_zero.2 fun u b=>by
  rw [decide_eq_true_eq,a];exact bQ.2 (c u b))
 rw [Zll]
 exact h
/-! each number in an interval leads back -/
include hC o1
theorem Z2e {w:List Int} (hv:Xr n w) (hlt:(sp n ord w).1<(sp n ord w).2) (spans:List (QV×QV)) (all:List R2) (hsl:spans.length≤1048576) (hal:all.length≤1048576) (kk:Bool→List (QV×QV)→List R2→Option Bool) (v:Bool):∀ (m k f:Nat),k+m=3→m<f→
  Zba N n spans all kk (w,Zm (Y9 n w n.2.1.length 0 1)) (Xn (sp n ord w),0) f (k:Int) v=kk v (spans++[Xn (sp n ord w)]) (all++[w])
 | m,k,0,_,h=>by omega
 | 0,k,f+1,r,_=>by
  have e:=hv.len
  have g:=hf.le
  have c:=Zqc (N:=N) (by omega) (a:=w) (by omega)
  rw [Zba.eq_2,if_neg (dF (by omega)),Xh (by simp only [aL,maxLen];omega)]
  dsimp only
  rw [c,oB,Xh (by simp only [aL,maxLen];omega)]
 | m+1,k,f+1,r,M=>by
  have e:=hv.len
  have g:=hf.le
  obtain ⟨q1,O⟩:=Zqb hf hs ho hol hv
  obtain ⟨s,P,Q⟩:=Zbx hf ho hv ord (0,1) (fun _ h=>h) (show (0:Rat)≤1 by decide)
  have j:0≤(sp n ord w).1:=s
  have d:(sp n ord w).2 - (sp n ord w).1=Y9 n w n.2.1.length 0 1:=Z1t hf ho hv hall
  have qp:qs (Y9 n w n.2.1.length 0 1)≤2 * (1024 * (W+2)+2)+1:=by
   have:=Zs4 (sp n ord w).2 (sp n ord w).1
   rw [d] at this;omega
  have t:((k:Int):Rat) / ((3:Int):Rat)=mkRat (k:Int) 3:=by rw [Rat.mkRat_eq_div];rfl
  have u:Zaj N (k:Int) 3=some (Zm (mkRat (k:Int) 3)):=by rw [Z19 (by omega) (by omega) (hr.mono (by omega)),t]
  have A:qs (mkRat (k:Int) 3)≤1:=Zc4 (W0.2 (by omega)) (W0.2 (by decide)) (by decide)
  have C:0≤mkRat (k:Int) 3:=by
   rw [← bQ,show (0:Rat)=mkRat 0 1 from rfl,Vs (by decide) (by decide)];omega
  have D:mkRat (k:Int) 3<1:=by
   rw [show (1:Rat)=mkRat 1 1 from rfl,Vs (by decide) (by decide)];omega
  have c:Zid N (((Zm (Y9 n w n.2.1.length 0 1)).1.1,(Zm (Y9 n w n.2.1.length 0 1)).1.2),(Zm (Y9 n w n.2.1.length 0 1)).2) (((Zm (mkRat (k:Int) 3)).1.1,(Zm (mkRat (k:Int) 3)).1.2),(Zm (mkRat (k:Int) 3)).2)=some (Zm (Y9 n w n.2.1.length 0 1 * mkRat (k:Int) 3)):=by
   have:=Xa4 (N:=N) (Yi qp) (Yi A) (hr.mono (by omega))
   rwa [Xz,Xz] at this
  have R:=Zgy (Y9 n w n.2.1.length 0 1) (mkRat (k:Int) 3)
  have b:0<Y9 n w n.2.1.length 0 1:=by
   rw [← d]
   exact (Rat.lt_iff_sub_pos _ _).1 hlt
  have E:0≤Y9 n w n.2.1.length 0 1 * mkRat (k:Int) 3:=Rat.mul_nonneg (Rat.le_of_lt b) C
  have F:Y9 n w n.2.1.length 0 1 * mkRat (k:Int) 3<(sp n ord w).2 - (sp n ord w).1:=by
   have:=Rat.mul_lt_mul_of_pos_left D b
   rw [d]
   rwa [Rat.mul_one] at this
  generalize Y9 n w n.2.1.length 0 1 * mkRat (k:Int) 3=z at *
  have G:Zeg N (((Xn (sp n ord w)).1.1.1,(Xn (sp n ord w)).1.1.2),(Xn (sp n ord w)).1.2) (((Zm z).1.1,(Zm z).1.2),(Zm z).2)=some (Zm ((sp n ord w).1+z)):=by
   have:=Zti (N:=N) (Yi q1) (Yi (q:=z) (k:=K) (by omega)) (hr.mono (by omega))
   rwa [Xz,Xz] at this
  have qa:=Zkc (sp n ord w).1 z
  have o:∀ x y z:Rat,0≤z→z<y - x→x≤x+z∧x+z<y:=fun x y z S T=>⟨by grind,by grind⟩
  obtain ⟨p,H⟩:=o _ _ _ E F
  have I:Tq N (n.1,n.2.1,n.2.2.1,n.2.2.2.1,n.2.2.2.2)=some n:=Zkj (by omega) ht
  have at1:Zhx N (n.1,n.2.1,n.2.2.1,n.2.2.2.1,n.2.2.2.2) (((Zm ((sp n ord w).1+z)).1.1,(Zm ((sp n ord w).1+z)).1.2),(Zm ((sp n ord w).1+z)).2)=some (w,0):=
   Z2y hf hs hr hWK (by omega) ho hol hall hv (X:=Zm ((sp n ord w).1+z)) (Yi (by omega)) (by rw [Xz];exact Rat.le_trans j p) (by rw [Xz];exact p) (by rw [Xz];exact H) hC o1
  have J:=Z1m (N:=N) (l:=w) (by omega) (by omega)
  have L:=Z2e hv hlt spans all hsl hal kk v m (k+1) f (by omega) (by omega)
  rw [Zba.eq_2,if_pos (dT (by omega)),u,oB]
  dsimp only
  rw [c,oB,G,oB,I,oB,at1,oB]
  dsimp only
  rw [if_neg (show ¬ (!decide ((0:Int)=0))=true by decide),J,oB,Bool.not_true,Zlj,if_neg (by decide),wS (by omega)]
  exact L
/-! the stream -/
variable {B:Nat} (hB:64 * (1024 * (W+2)+2)+65≤B) (hB6:7 * B≤1099511627776)
include hB hB6 hWc
theorem Xaw (M:List R2) (hV:∀ u ∈ M,Xr n u∧(sp n ord u).1<(sp n ord u).2) (hl:M.length≤1048576) (picks:List Int) (hpl:picks.length≤1048576):∀ (m f i:Nat) (L:List (List Int×ByteArray)),i+m=6→m<f→L.length≤i→(∀ p ∈ L,Zqn N n B p)→
  Tp N n M picks f (V0 (L.map (·.2))) (L.map (·.1)) (i:Int)=some true:=by
 intro m
 induction m with
 | zero=>
  intro f i L w q x d
  obtain ⟨f,rfl⟩:∃ f',f=f'+1:=⟨f - 1,by omega⟩
  have fin:=Z1v hN ht hB6 M picks (Tp N n M picks f) i L (by omega) d
  rw [Tp.eq_2]
  by_cases h1:i<picks.length
  ·rw [if_pos (dT (by omega)),if_neg (dF (by omega))];exact fin
  ·rw [if_neg (dF (by omega))];exact fin
 | succ m y=>
  intro f i L w q x d
  obtain ⟨f,rfl⟩:∃ f',f=f'+1:=⟨f - 1,by omega⟩
  have fin:=Z1v hN ht hB6 M picks (Tp N n M picks f) i L (by omega) d
  rw [Tp.eq_2]
  by_cases h1:i<picks.length
  ·rw [if_pos (dT (by omega)),if_pos (dT (by omega))]
   by_cases h2:1<M.length
   ·have r:∀ j,j<M.length→Zic N n M (V0 (L.map (·.2))) (L.map (·.1)) (i:Int) (Tp N n M picks f) ((j:Nat):Int)=some true:=fun j c=>by
     obtain ⟨k,s⟩:=hV _ (aJ c)
     have F:=k.len
     have G:=hf.le
     have A:Tq N (n.1,n.2.1,n.2.2.1,n.2.2.2.1,n.2.2.2.2)=some n:=Zkj (by omega) ht
     have C:=Zqc (N:=N) (by omega) (a:=M[j]) (by omega)
     obtain ⟨e,D,H,l⟩:=((Z22 hf hs hr hWK (by omega) ho hol (by omega) hWc hC o1 hall M[j]).2 k (Zxs k)).2 fun h=>fJ (a:=(sp n ord M[j]).1) (by
      have g:=s
      rw [show (sp n ord M[j]).2=(sp n ord M[j]).1 from h.symm] at g
      exact g)
     have t:S5 N (n.1,n.2.1,n.2.2.1,n.2.2.2.1,n.2.2.2.2) M[j]=some (e,0):=D
     have v:=Zty B (L.map (·.2)) fun b E=>by
      obtain ⟨p,o,rfl⟩:=cD.1 E
      exact (d p o).2.1
     rw [bE] at v
     have I:L.length * B≤6 * B:=aX _ (by omega)
     have next:=y f (i+1) (L++[(M[j],e)]) (by omega) (by omega) (by rw [nA,aL];omega) fun p o=>by
      rcases aY.1 o with h | h
      ·exact d p h
      ·rw [bD] at h
       subst h
       exact ⟨by simp only;omega,by simp only;omega,l⟩
     rw [gL,gL,gB,gB,Z12] at next
     rw [Zic,Xd c,oB,A,oB,C,oB,t,oB]
     dsimp only
     rw [if_neg (show ¬ (!decide ((0:Int)=0))=true by decide),Xh (by simp only [maxLen];omega),Xh (by simp only [bE,aL,maxLen];omega),Zos,wS (by omega)]
     exact next
    have J:=iZ picks[i] (show (0:Int)<(M.length:Int) by omega)
    have O:-(M.length:Int)<aS picks[i] (M.length:Int):=by
     have:=iZ (-picks[i]) (show (0:Int)<(M.length:Int) by omega)
     rw [Int.neg_tmod] at this;omega
    rw [decide_eq_true (show (1:Int)<(M.length:Int) by omega),Zdt,if_pos rfl,Xd h1,oB,Xh (by omega)]
    by_cases h3:aS picks[i] (M.length:Int)<0
    ·obtain ⟨j,c⟩:∃ j:Nat,aS picks[i] (M.length:Int)+(M.length:Int)=(j:Int):=⟨(aS picks[i] (M.length:Int)+(M.length:Int)).toNat,by omega⟩
     rw [if_pos (dT h3),c,Zy (by omega)]
     exact r j (by omega)
    ·obtain ⟨j,c⟩:∃ j:Nat,aS picks[i] (M.length:Int)=(j:Int):=⟨(aS picks[i] (M.length:Int)).toNat,by omega⟩
     rw [if_neg (dF h3),c]
     exact r j (by omega)
   ·rw [decide_eq_false (show ¬ (1:Int)<(M.length:Int) by omega)];exact fin
  ·rw [if_neg (dF (by omega))];exact fin
theorem Xa3 (M:List R2) (hV:∀ u ∈ M,Xr n u∧(sp n ord u).1<(sp n ord u).2) (hl:M.length≤1048576) (picks:List Int) (hpl:picks.length≤1048576):Zib N n M picks=some true:=by
 rw [Zib]
 exact Xaw hf hs hr hWK hN ho hol hK3 hWc ht hC o1 hall hB hB6 M hV hl picks hpl 6 N 0 [] (by omega) (by omega) (Nat.le_refl _) fun p a=>by cases a
/-! all together -/
theorem Ztx (picks:List Int) (hpl:picks.length≤1048576) (hb:X2 (Yx n)≤300):∀ (m k:Nat) (M:List R2),k+m=X2 (Yx n)→(∀ u,u ∈ M↔∃ j,j<k∧u=W6 (Yx n) j∧(sp n ord u).1<(sp n ord u).2)→M.Nodup→M.length≤k→
  To N n picks (Zc9 n k m) false (M.map fun u=>Xn (sp n ord u)) M=some true
 | 0,k,M,Q,o,l,R=>by
  have d:=Znf hf
  have C:∀ u ∈ M,Xr n u∧(sp n ord u).1<(sp n ord u).2:=fun u v=>by
   obtain ⟨j,q,rfl,f⟩:=(o u).1 v
   exact ⟨Zrm hf (Zob _ _ d (by omega)),f⟩
  have r:∀ u,Xr n u→(sp n ord u).1<(sp n ord u).2→u ∈ M:=fun u v h=>by
   have D:=Z2o hf v
   exact (o u).2 ⟨Qd (Yx n) u,by have:=Zsx _ _ D;omega,(Zwp _ _ D).symm,h⟩
  have S:=Xa2 hf hs hr hN ho hol hK3 hall M l C r (by omega)
  have T:Zib N (n.1,n.2.1,n.2.2.1,n.2.2.2.1,n.2.2.2.2) M picks=some true:=Xa3 hf hs hr hWK hN ho hol hK3 hWc ht hC o1 hall hB hB6 M C (by omega) picks hpl
  rw [Zc9,To.eq_1,S,oB,if_pos rfl,T,oB,Zlg]
 | m+1,k,M,Q,o,l,R=>by
  have d:=Znf hf
  obtain ⟨w,p⟩:∃ w,w=W6 (Yx n) k:=⟨_,rfl⟩
  have g:Xr n w:=by rw [p];exact Zrm hf (Zob _ _ d (by omega))
  have a7:=g.len
  have a8:=hf.le
  have E:=Zxs g
  have U:=(Ztu hf hs hr (by omega) (by omega) hC o1 ho (by omega) w).2 g E
  have F:Za8 N (n.1,n.2.1,n.2.2.1,n.2.2.2.1,n.2.2.2.2) w=some (Xn (sp n ord w),0):=U
  obtain ⟨q1,G⟩:=Zqb hf hs ho hol g
  obtain ⟨i1,V,i3⟩:=Zbx hf ho g ord (0,1) (fun _ h=>h) (show (0:Rat)≤1 by decide)
  have H:(sp n ord w).1≤(sp n ord w).2:=V
  have s:(sp n ord w).2 - (sp n ord w).1=Y9 n w n.2.1.length 0 1:=Z1t hf ho g hall
  have X:Tq N (n.1,n.2.1,n.2.2.1,n.2.2.2.1,n.2.2.2.2)=some n:=Zkj (by omega) ht
  have Y:=Zqc (N:=N) (by omega) (a:=w) (by omega)
  have qp:qs (Y9 n w n.2.1.length 0 1)≤2 * (1024 * (W+2)+2)+1:=by
   have:=Zs4 (sp n ord w).2 (sp n ord w).1
   rw [s] at this;omega
  have Z:RV 0 ((false,([]:List Int)),([]:List Int)):=⟨by simp [Zo],by simp [Zo],by simp,by simp⟩
  have I:Zq ((false,([]:List Int)),([]:List Int))=0:=by rw [Zq];simp [Zr,Za]
  have al:T8 N (((Zm (Y9 n w n.2.1.length 0 1)).1.1,(Zm (Y9 n w n.2.1.length 0 1)).1.2),(Zm (Y9 n w n.2.1.length 0 1)).2) ((false,([]:List Int)),([]:List Int))=some (decide (Y9 n w n.2.1.length 0 1=0)):=by
   have:=Zng (N:=N) (Yi qp) Z (hr.mono (by omega))
   rwa [Xz,I] at this
  have A:w ∉ M:=fun h=>by
   obtain ⟨j,q,c,_⟩:=(o w).1 h
   have e1:=Zsw (Yx n) j d (by omega)
   have e2:=Zsw (Yx n) k d (by omega)
   rw [← c] at e1
   rw [← p] at e2
   omega
  rw [Zc9,← p,To.eq_2,X,oB]
  dsimp only
  rw [Y,oB,F,oB,al,oB]
  by_cases h0:Y9 n w n.2.1.length 0 1=0
  ·have J:(sp n ord w).1=(sp n ord w).2:=by
    rw [h0] at s
    generalize (sp n ord w).1=x at *
    generalize (sp n ord w).2=y at *
    grind
   have L:T8 N (((Xn (sp n ord w)).1.1.1,(Xn (sp n ord w)).1.1.2),(Xn (sp n ord w)).1.2) (((Xn (sp n ord w)).2.1.1,(Xn (sp n ord w)).2.1.2),(Xn (sp n ord w)).2.2)=some true:=by
    have:=Zng (N:=N) (Yi q1) (Yi G) (hr.mono (by omega))
    rw [Xz,Xz,decide_eq_true J] at this
    exact this
   rw [if_pos (dT h0)]
   dsimp only
   rw [if_neg (show ¬ (!decide ((0:Int)=0))=true by decide),L,oB,Bool.not_true,Zlh,if_neg (by decide)]
   refine Ztx picks hpl hb m (k+1) M (by omega) (fun u=>?_) l (by omega)
   rw [o u]
   constructor
   ·rintro ⟨j,q,c,f⟩;exact ⟨j,by omega,c,f⟩
   ·rintro ⟨j,q,c,f⟩
    by_cases hj:j=k
    ·subst hj
     rw [← p] at c
     subst c
     rw [J] at f
     exact absurd f fJ
    ·exact ⟨j,by omega,c,f⟩
  ·have t:(sp n ord w).1<(sp n ord w).2:=Rat.not_le.1 fun h=>h0 (by
    have h5:=Rat.le_antisymm H h
    rw [← s,h5];grind)
   have su:Zjs N (((Xn (sp n ord w)).2.1.1,(Xn (sp n ord w)).2.1.2),(Xn (sp n ord w)).2.2) (((Xn (sp n ord w)).1.1.1,(Xn (sp n ord w)).1.1.2),(Xn (sp n ord w)).1.2)=some (Zm (Y9 n w n.2.1.length 0 1)):=by
    have:=Xaf (N:=N) (Yi G) (Yi q1) (hr.mono (by omega))
    rwa [Xz,Xz,s] at this
   have O:T8 N (((Zm (Y9 n w n.2.1.length 0 1)).1.1,(Zm (Y9 n w n.2.1.length 0 1)).1.2),(Zm (Y9 n w n.2.1.length 0 1)).2) (((Zm (Y9 n w n.2.1.length 0 1)).1.1,(Zm (Y9 n w n.2.1.length 0 1)).1.2),(Zm (Y9 n w n.2.1.length 0 1)).2)=some true:=by
    have:=Zng (N:=N) (Yi qp) (Yi qp) (hr.mono (by omega))
    rwa [decide_eq_true rfl] at this
   have tp:=Z2e hf hs hr hWK hN ho hol hK3 ht hC o1 hall g t (M.map fun u=>Xn (sp n ord u)) M (by rw [bE];omega) (by omega) (To N n picks (Zc9 n (k+1) m)) false 3 0 N (by omega) (by omega)
   rw [if_neg (dF h0)]
   dsimp only
   rw [if_neg (show ¬ (!decide ((0:Int)=0))=true by decide),su,oB,O,oB,Bool.not_true,Zli,if_neg (by decide)]
   refine Eq.trans tp ?_
   have P:=Ztx picks hpl hb m (k+1) (M++[w]) (by omega) (fun u=>?_) (List.nodup_append.2 ⟨l,by simp,fun a ha b hb e=>by
    rw [bD] at hb
    subst hb
    subst e
    exact A ha⟩) (by rw [nA,aL];omega)
   ·rw [gL,gB] at P
    exact P
   ·rw [aY,bD,o u]
    constructor
    ·rintro (⟨j,q,c,f⟩ | rfl)
     ·exact ⟨j,by omega,c,f⟩
     ·exact ⟨k,by omega,p,t⟩
    ·rintro ⟨j,q,c,f⟩
     by_cases hj:j=k
     ·subst hj;exact .inr (c.trans p.symm)
     ·exact .inl ⟨j,by omega,c,f⟩
end
theorem Z2p {N:Nat} {n:Z4} {picks:List Int} (hs:Ww n 1048576) (hb:Znr n) (hq:∀ t ∈ n.2.2.2.2,Ya (t.map Vd)≤1048576) (hr:Z8 N 26000000000) (hN:2199023255552<N) (hpl:picks.length≤1048576):Zoq N n picks=some true:=by
 obtain ⟨e,g,k,fine⟩:=Z5u (N:=N) hs (hr.mono (by decide)) (by omega)
 have ht:Zkq n:=⟨hb.nm,hb.vn,hb.vl,hb.pn,hb.pl,hb.tn,hb.tl,fun t h x m=>by have:=hb.tm t h x m;omega⟩
 have o:Zh8 N (n.1,n.2.1,n.2.2.1,n.2.2.2.1,n.2.2.2.2)=_:=Xa1 (by omega) ht k
 rw [Zoq,Zt4,oB,o,oB]
 by_cases he:e=0
 ·subst he
  have hf:=fine rfl
  have E:=hf.le
  have F:=hf.ev.v
  obtain ⟨b,q,r⟩:=Z67 (N:=N) (n:=n) (by omega) (by omega) fun l c=>⟨List.length_pos_iff.2 (hf.ev.ne l c),hs.vl l c⟩
  have d:Zh7 N (n.1,n.2.1,n.2.2.1,n.2.2.2.1,n.2.2.2.2) 300=_:=q
  rw [if_neg (by decide),d,oB]
  cases b with
  | false=>rw [Zff,if_pos (show (!false)=true from rfl)]
  | true=>
   have s:=r rfl
   obtain ⟨l,o1,w,G,f,y⟩:=hf.or
   have A:=hf.ev.p
   have ho:Ug n.2.2.2.1 l:=Z87 (by omega) hs.pn.ls (by omega) w f
   have hol:l.length≤1024:=by omega
   have a:Z8 N (8 * 3221231662+40):=hr.mono (by decide)
   have C:Zfr N (n.1,n.2.1,n.2.2.1,n.2.2.2.1,n.2.2.2.2)=some (Zc9 n 0 (X2 (Yx n))):=Z7x (K:=3221231662) (W:=1048576) hf hs a (by decide) (by omega) hq (show X2 (Yx n)≤65536 by omega)
   have D:Tq N (n.1,n.2.1,n.2.2.1,n.2.2.2.1,n.2.2.2.2)=some n:=Zkj (by omega) ht
   rw [Zff,if_neg (by decide),D,oB,C,oB,if_neg (by decide),Zlf,if_neg (by decide)]
   exact Ztx (W:=1048576) (K:=3221231662) (B:=68719608065) hf hs a (by decide) hN ho hol (by decide) (by decide) ht g o1 (Z86 f y A) (by decide) (by decide) picks hpl s (X2 (Yx n)) 0 [] (by omega) (fun u=>⟨fun h=>(by cases h),fun ⟨j,h,_⟩=>(by omega)⟩) List.nodup_nil (Nat.le_refl _)
 ·rw [decide_eq_false he,Bool.not_false,if_pos rfl,Zff,if_pos rfl]
theorem Za6 {α:Type} {b:α→Nat} (hb:∀ x,1≤b x):∀ (l:List α),l.length+1≤X6 b l
 | []=>by simp [X6]
 | x :: l=>by
  have h:=Za6 hb l
  have:=hb x
  simp only [X6,bX,dU,nC] at h ⊢
  omega
theorem Zmv {α:Type} {b:α→Nat} {x:α}:∀ {l:List α},x ∈ l→b x+1≤X6 b l
 | y :: l,h=>by
  simp only [X6,bX,dU]
  rcases List.mem_cons.1 h with rfl | h
  ·omega
  ·have:=Zmv (b:=b) h
   simp only [X6] at this
   omega
theorem Zqs {α:Type} {b:α→Nat} (l:List α):1≤X6 b l:=by simp only [X6];omega
theorem Znw (s:ByteArray):1≤Ta s:=by simp only [Ta];omega
theorem Znv {α:Type} (s:α):1≤W5 s:=by simp only [W5];omega
theorem Z27 {α:Type} {b:α→Nat} (s:α):1≤Tm b s:=by simp only [Tm];omega
abbrev Za2:QV→Nat:=Tm (Vv (Tm (Vv W5 (X6 W5))) (X6 W5))
abbrev qQ:QV→Prop:=Qe (Qe (fun _=>True) (Vu (Zav .u32))) (Vu (Zav .u32))
abbrev Zhc:Z4→Nat:=Tm (Vv Ta (Vv (X6 Ta) (Vv (X6 (X6 Ta)) (Vv (X6 (X6 W5)) (X6 (X6 Za2))))))
abbrev Zsy:Z4→Prop:=Qe (fun _=>True) (Qe (Vu (fun _=>True)) (Qe (Vu (Vu (fun _=>True))) (Qe (Vu (Vu (Zav .i64))) (Vu (Vu qQ)))))
theorem Zyg {l:List Int} (h:Vu (Zav .u32) l):Zo l:=by
 intro d a
 have b:=h d a
 simp [Zav,Lit.wf,IntKind.min,IntKind.max,IntKind.signed,IntKind.bits] at b
 omega
theorem Zyf {x:QV} (h:qQ x):Va x:=⟨Zyg h.1.2,Zyg h.2⟩
theorem Zqr (x:QV):x.1.2.length+x.2.length+4≤Za2 x:=by
 have a:=Za6 (b:=W5) Znv x.1.2
 have c:=Za6 (b:=W5) Znv x.2
 simp only [Tm,Vv]
 have d:W5 x.1.1=1:=rfl
 omega
theorem Zzz:∀ t:List QV,Ya t≤X6 Za2 t
 | []=>by rw [Ya];omega
 | x :: t=>by
  have a:=Zzz t
  have b:=Zqr x
  rw [Ya]
  simp only [X6,bX,dU] at a ⊢
  omega
theorem Z2d:∀ P:List R2,Sg P+P.length≤X6 (X6 W5) P
 | []=>by simp [Sg,X6]
 | l :: P=>by
  have a:=Z2d P
  have c:=Za6 (b:=W5) Znv l
  rw [Znh,nC]
  simp only [X6,bX,dU] at a c ⊢
  omega
theorem Z8u {n:Z4} (hb:Zhc n≤1048576) (hq:Zsy n):Ww n 1048576∧Znr n:=by
 have m:=Znw n.1
 have o:=Za6 (b:=Ta) Znw n.2.1
 have p:=Za6 (b:=X6 Ta) Zqs n.2.2.1
 have q:=Z2d n.2.2.2.1
 have r:=Za6 (b:=X6 Za2) Zqs n.2.2.2.2
 have s:=Zqs (b:=X6 W5) n.2.2.2.1
 simp only [Zhc,Tm,Vv] at hb
 have g:∀ l ∈ n.2.2.1,l.length≤1048576:=fun l d=>by
  have c:=Zmv (b:=X6 Ta) d
  have i:=Za6 (b:=Ta) Znw l
  omega
 have k:∀ l ∈ n.2.2.2.1,l.length≤1048576:=fun l d=>by
  have c:=Zqd d
  omega
 have e:∀ t ∈ n.2.2.2.2,X6 Za2 t≤1048576:=fun t a=>by
  have c:=Zmv (b:=X6 Za2) a
  omega
 have j:∀ t ∈ n.2.2.2.2,t.length≤1048576:=fun t a=>by
  have c:=e t a
  have i:=Za6 (b:=Za2) Z27 t
  omega
 refine ⟨⟨by omega,g,⟨by omega,by omega⟩,j,fun t a=>Nat.le_trans (Zzz t) (e t a),fun t a x f=>Zyf (hq.2.2.2.2 t a x f)⟩,⟨by omega,by omega,g,by omega,k,by omega,j,fun t a x f=>?_⟩⟩
 have c:=e t a
 have i:=Zmv (b:=Za2) f
 have u:=Zqr x
 omega
theorem Zv2:∀ t:List QV,(∀ x ∈ t,Va x)→Ya (t.map Vd)≤X6 Za2 t
 | [],_=>by rw [cX,Ya];omega
 | x :: t,h=>by
  have b:=Zv2 t fun y c=>h y (aE _ c)
  have e:=Zqr x
  have a:=h x aK
  have f:=Zs5 (Zbw a.1 a.2)
  have d:max (Vd x).1.2.length (Vd x).2.length=qs (Zq x):=rfl
  rw [bX,Ya,d]
  simp only [X6,bX,dU] at b ⊢
  omega
theorem Z8t {n:Z4} (hb:Zhc n≤1048576) (hq:Zsy n):∀ t ∈ n.2.2.2.2,Ya (t.map Vd)≤1048576:=fun t a=>by
 have d:=Zv2 t fun x c=>Zyf (hq.2.2.2.2 t a x c)
 have e:=Zmv (b:=X6 Za2) a
 have f:=Znw n.1
 simp only [Zhc,Tm,Vv] at hb
 omega

end Go.Proofs.YtpkknichfgooaaaGreat
