/-
  What functions of the program compute, as plain Lean functions (m_..), and proofs that they compute it (c_..). Printed by a program of the author; no conditions.
-/
import Derived.Test.YtdpdogdkolblnaaGreatDoorQueryAskBFloat
import Derived.Test.YtdpdogdkolblnaaGreatDoorProg
import Derived.Test.YtdpdogdkolblnaaGreatDoorQueryAskBBrief
import Derived.Test.YtdpdogdkolblnaaGreatDoorQueryAskBBulk
import Derived.Test.YtdpdogdkolblnaaGreatDoorQueryAskBErr
import Derived.Test.YtdpdogdkolblnaaGreatDoorQueryAskF4
set_option linter.unusedVariables false
set_option linter.unusedSectionVars false
set_option maxRecDepth 100000
set_option maxHeartbeats 2000000
namespace Go.Proofs.YtdpdogdkolblnaaGreatDoor
open Go Go.RowKit
open Go.IntKind (i8 i16 i32 i64 u8 u16 u32 u64)
open Go.Proofs.Tryz

def Zau (a:Int) (kk_L3:(Bool→Int→Option Bool)) (b:Bool):Option Bool:=
  kk_L3 b (i64.wrap (a+1))
def Sy (N:Nat) (b:(ByteArray×List ByteArray×(List (List ByteArray))×(List (List Int))×(List (List ((Bool×List Int)×List Int))))) (c:(Int×(List (ByteArray×ByteArray))×(List (ByteArray×ByteArray))×Int×List ByteArray×(Bool×Bool))) (e:Int) (a:Int) (kk_L2:(Bool→Int→Option Bool)):Nat→Bool→Int→Option Bool
  | 0,_,_=>none
  | f+1,g,d=>(Zq b.2.2.1 a).bind fun i=>if (decide (d<(i.length:Int)))=true then (if g=true then (Zau d (Sy N b c e a kk_L2 f) true) else ((Zq b.2.1 a).bind fun k=>(Zq ((([]:List (ByteArray×ByteArray))++c.2.1)++c.2.2.1) e).bind fun j=>if (decide (k=j.1))=true then ((Zq i d).bind fun l=>Zau d (Sy N b c e a kk_L2 f) (decide (l=j.2))) else (Zau d (Sy N b c e a kk_L2 f) false))) else (kk_L2 g (i64.wrap (a+1)))
termination_by structural x=>x
def Zd1 (a:Int) (kk_L4:(Int→Bool→Option Bool)) (b:Bool):Option Bool:=
  kk_L4 (i64.wrap (a+1)) b
def Qk (N:Nat) (a:(Int×(List (ByteArray×ByteArray))×(List (ByteArray×ByteArray))×Int×List ByteArray×(Bool×Bool))) (b:Int) (kk_L1:(Int→Option Bool)):Nat→Int→Bool→Option Bool
  | 0,_,_=>none
  | d+1,c,e=>if (decide (c<b))=true then (if e=true then ((Zq ((([]:List (ByteArray×ByteArray))++a.2.1)++a.2.2.1) c).bind fun f=>(Zq ((([]:List (ByteArray×ByteArray))++a.2.1)++a.2.2.1) b).bind fun g=>Zd1 c (Qk N a b kk_L1 d) (!decide (f.1=g.1))) else (Zd1 c (Qk N a b kk_L1 d) false)) else (if (!e)=true then (some false) else (kk_L1 (i64.wrap (b+1))))
termination_by structural x=>x
def Qj (N:Nat) (a:(ByteArray×List ByteArray×(List (List ByteArray))×(List (List Int))×(List (List ((Bool×List Int)×List Int))))) (b:(Int×(List (ByteArray×ByteArray))×(List (ByteArray×ByteArray))×Int×List ByteArray×(Bool×Bool))) (c:Int) (kk_L1:(Int→Option Bool)):Nat→Bool→Int→Option Bool
  | 0,_,_=>none
  | f+1,d,e=>if (decide (e<(a.2.1.length:Int)))=true then (Sy N a b c e (Qj N a b c kk_L1 f) N d 0) else (Qk N b c kk_L1 N 0 d)
termination_by structural x=>x
def To (N:Nat) (b:(ByteArray×List ByteArray×(List (List ByteArray))×(List (List Int))×(List (List ((Bool×List Int)×List Int))))) (a:(Int×(List (ByteArray×ByteArray))×(List (ByteArray×ByteArray))×Int×List ByteArray×(Bool×Bool))):Nat→Int→Option Bool
  | 0,_=>none
  | d+1,c=>if (decide (c<(((([]:List (ByteArray×ByteArray))++a.2.1)++a.2.2.1).length:Int)))=true then (Qj N b a c (To N b a d) N false 0) else (some true)
termination_by structural x=>x
def Zat (N:Nat) (a:(ByteArray×List ByteArray×(List (List ByteArray))×(List (List Int))×(List (List ((Bool×List Int)×List Int))))) (b:(Int×(List (ByteArray×ByteArray))×(List (ByteArray×ByteArray))×Int×List ByteArray×(Bool×Bool))) (c:Bool):Option Bool:=
  if c=true then (some false) else (To N a b N 0)
def Zd0 (N:Nat) (b:(ByteArray×List ByteArray×(List (List ByteArray))×(List (List Int))×(List (List ((Bool×List Int)×List Int))))) (a:(Int×(List (ByteArray×ByteArray))×(List (ByteArray×ByteArray))×Int×List ByteArray×(Bool×Bool))):Option Bool:=
  Zr ((([]:List (ByteArray×ByteArray)).length+a.2.1.length) * 32≤140737488355328∧([]:List (ByteArray×ByteArray)).length+a.2.1.length≤maxLen) (Zr (((([]:List (ByteArray×ByteArray))++a.2.1).length+a.2.2.1.length) * 32≤140737488355328∧(([]:List (ByteArray×ByteArray))++a.2.1).length+a.2.2.1.length≤maxLen) (if (!decide (a.1=2))=true then (Zat N b a true) else (if (decide ((a.2.1.length:Int)=0))=true then (Zat N b a true) else (Zat N b a (!decide ((b.2.2.1.length:Int)=(b.2.1.length:Int)))))))
theorem Zxc {N p s t u a0 a1 a2:Nat} {w x y A a3 a4 a5:Option Addr} {col:Zd} {w0:World} {a:(ByteArray×List ByteArray×(List (List ByteArray))×(List (List Int))×(List (List ((Bool×List Int)×List Int))))} {j:(Int×(List (ByteArray×ByteArray))×(List (ByteArray×ByteArray))×Int×List ByteArray×(Bool×Bool))} {r:Bool} (hm:Zd0 N a j=some r) (Q:Sl Za.str col w0 w p a.2.1) (L:Sl (Za.slice Za.str) col w0 x s a.2.2.1) (b3:Sl (Za.slice (Za.int .i64)) col w0 y t a.2.2.2.1) (b4:Sl (Za.slice (Za.pair (Za.pair Za.bool (Za.slice (Za.int .u32))) (Za.slice (Za.int .u32)))) col w0 A u a.2.2.2.2) (ai:Sl (Za.pair Za.str Za.str) col w0 a3 a0 j.2.1) (aj:Sl (Za.pair Za.str Za.str) col w0 a4 a1 j.2.2.1) (b5:Sl Za.str col w0 a5 a2 j.2.2.2.2.1):
    Calls prog 18 #[(.agg #[.string a.1,.slice w a.2.1.length p,.slice x a.2.2.1.length s,.slice y a.2.2.2.1.length t,.slice A a.2.2.2.2.length u]),(.agg #[.int .i8 j.1,.slice a3 j.2.1.length a0,.slice a4 j.2.2.1.length a1,.int .i8 j.2.2.2.1,.slice a5 j.2.2.2.2.1.length a2,.bool j.2.2.2.2.2.1,.bool j.2.2.2.2.2.2])] w0 (fun e w'=>e= .returned ((.bool r))∧Below w0.heap.size w0 w'):=by
 refine Z5 4 (m:=111) func18 rfl rfl rfl rfl rfl ?_;rw [Zd0.eq_1] at hm;have d:=St.start col w0;refine go ?_;refine Yj (col:=(Zi col)) 1 rfl ?_;intro F b6 ba bb i;refine Yj (col:=ba) 2 rfl ?_;intro b7 b8 b9 a6 C;refine go ?_;refine Zz C ?_;obtain ⟨bc,hm⟩:=Zt hm;replace ai:=ai.keep (Zl.start col w0);replace d:=(d.grow bb).grow a6;refine Wy (c:=3) Zc.nil (ai.ks d).srcC bc ?_;intro ca cb cc cd ak bd;refine go ?_;refine Zv ⟨_,_,rfl⟩ ?_;replace C:=C.kpp ak;refine lW ((C.atN).nth (q:=2) rfl) ?_;obtain ⟨be,hm⟩:=Zt hm;replace aj:=aj.keep (Zl.start col w0);replace d:=d.kpp ak;refine Wy bd (aj.ks d).srcC be ?_;intro G H ce cf al g;refine Zdf rfl<|Zj<|Zo<|Zo ?_;replace Q:=Q.keep (Zl.start col w0);replace L:=L.keep (Zl.start col w0);replace i:=((i.gr a6).kpp ak).kpp al;replace C:=C.kpp al;replace d:=d.kpp al;refine Wp.cutK [2,5,1000000] (fun f R=>∃ S am,Zat N a j am=some r∧St w0 (Zi col) S R∧Ze 45 1 S R F #[.string a.1,.slice w a.2.1.length p,.slice x a.2.2.1.length s,.slice y a.2.2.2.1.length t,.slice A a.2.2.2.2.length u]∧Zc (Za.pair Za.str Za.str) 56 3 S R G H ((([]:List (ByteArray×ByteArray))++j.2.1)++j.2.2.1)∧[36].map f=[.bool am]) ?_ ?_
 ·intro f R O;obtain ⟨S,am,hm,d,i,g,hs⟩:=O;rw [Zat.eq_1] at hm;refine .lL [36] hs ?_;refine Zm hm (fun hb hm=>go ?_) fun hb hm=>go ?_
  ·cases hm;exact ⟨rfl,rfl,d.below⟩
  refine Z6 [2,5,1000000] (fun n f T=>∃ U o l,l=n∧To N a j l o=some r∧St w0 (Zi col) U T∧Ze 45 1 U T F #[.string a.1,.slice w a.2.1.length p,.slice x a.2.2.1.length s,.slice y a.2.2.2.1.length t,.slice A a.2.2.2.2.length u]∧Zc (Za.pair Za.str Za.str) 56 3 U T G H ((([]:List (ByteArray×ByteArray))++j.2.1)++j.2.2.1)∧[6].map f=[.int .i64 o]) N ⟨_,0,_,rfl,hm,d,i,g,rfl⟩ ?_;clear hm;intro n f T I;obtain ⟨U,o,l,hn,hm,d,i,g,hs⟩:=I;subst hn;refine .lL [6] hs ?_
  cases l with
  | zero=>rw [To.eq_1] at hm;cases hm
  | succ l=>
   rw [To.eq_2] at hm;refine go ?_;refine Zm hm (fun hb hm=>go ?_) fun hb hm=>go ?_
   ·refine Z6 [2,5,6,1000000] (fun n f V=>∃ W an P D,D=n∧Qj N a j o (To N a j l) D an P=some r∧St w0 (Zi col) W V∧Ze 45 1 W V F #[.string a.1,.slice w a.2.1.length p,.slice x a.2.2.1.length s,.slice y a.2.2.2.1.length t,.slice A a.2.2.2.2.length u]∧Zc (Za.pair Za.str Za.str) 56 3 W V G H ((([]:List (ByteArray×ByteArray))++j.2.1)++j.2.2.1)∧[7,8].map f=[.bool an,.int .i64 P]) N ⟨_,_,0,_,rfl,hm,d,i,g,rfl⟩ ?_;clear hm;intro n f V I;obtain ⟨W,an,P,D,hn,hm,d,i,g,hs⟩:=I;subst hn;refine .lL [7,8] hs ?_
    cases D with
    | zero=>rw [Qj.eq_1] at hm;cases hm
    | succ D=>
     rw [Qj.eq_2] at hm;refine go ?_;refine Zz i ?_;refine go ?_;refine Zm hm (fun hb hm=>go ?_) fun hb hm=>go ?_
     ·refine Z6 [2,5,6,8,1000000] (fun n f X=>∃ k ao Y J,J=n∧Sy N a j o P (Qj N a j o (To N a j l) D) J ao Y=some r∧St w0 (Zi col) k X∧Ze 45 1 k X F #[.string a.1,.slice w a.2.1.length p,.slice x a.2.2.1.length s,.slice y a.2.2.2.1.length t,.slice A a.2.2.2.2.length u]∧Zc (Za.pair Za.str Za.str) 56 3 k X G H ((([]:List (ByteArray×ByteArray))++j.2.1)++j.2.2.1)∧[7,9].map f=[.bool ao,.int .i64 Y]) N ⟨_,_,0,_,rfl,hm,d,i,g,rfl⟩ ?_;clear hm;intro n f X I;obtain ⟨k,ao,Y,J,hn,hm,d,i,g,hs⟩:=I;subst hn;refine .lL [7,9] hs ?_
      cases J with
      | zero=>rw [Sy.eq_1] at hm;cases hm
      | succ J=>
       rw [Sy.eq_2] at hm;refine go ?_;refine Zz i<|Y1 rfl ?_;obtain ⟨cg,M,hm⟩:=bZ hm;refine lI M ((L.ks d).addr M) ?_;obtain ⟨_,bf,bg⟩:=(L.ks d).atN M;obtain ⟨⟨ch,ci,rfl,cj⟩,_⟩:=bf;refine lW bg.one<|go ?_;refine Zm hm (fun hb hm=>?_) fun hb hm=>go ?_
       ·refine Z1<|Zo ?_;refine Wp.cutK [2,5,6,8,9,1000000] (fun f Z=>∃ aa ap,Zau Y (Sy N a j o P (Qj N a j o (To N a j l) D) J) ap=some r∧St w0 (Zi col) aa Z∧Ze 45 1 aa Z F #[.string a.1,.slice w a.2.1.length p,.slice x a.2.2.1.length s,.slice y a.2.2.2.1.length t,.slice A a.2.2.2.2.length u]∧Zc (Za.pair Za.str Za.str) 56 3 aa Z G H ((([]:List (ByteArray×ByteArray))++j.2.1)++j.2.2.1)∧[7].map f=[.bool ap]) ?_ ?_
        ·intro f Z O;obtain ⟨aa,ap,hm,d,i,g,hs⟩:=O;rw [Zau.eq_1] at hm;refine .lL [7] hs<|go ?_;exact ⟨J,by omega,rfl,⟨_,_,_,_,rfl,hm,d,i,g,rfl⟩⟩
        refine S8<|Vs (col:=k) (by kernel_rfl) (by kernel_rfl)<|go ?_;refine Z7 hm (fun ab hm=>go ?_) fun ab hm=>go ?_
        ·refine X0 73 rfl rfl rfl rfl<|X0 73 rfl rfl rfl rfl<|X0 73 rfl rfl rfl rfl<|X0 73 rfl rfl rfl rfl<|X0 73 rfl rfl rfl rfl<|X0 73 rfl rfl rfl rfl<|X0 73 rfl rfl rfl rfl<|X0 73 rfl rfl rfl rfl<|X0 73 rfl rfl rfl rfl<|X0 73 rfl rfl rfl rfl<|X0 73 rfl rfl rfl rfl<|X0 73 rfl rfl rfl rfl<|X0 73 rfl rfl rfl rfl<|X0 73 rfl rfl rfl rfl<|go ?_;refine qv (v:=(.bool true)) rfl (fun _ b=>Zx (congrArg Value.bool ab) rfl) ?_;refine go ?_;refine Y3 ?_;intro ck b;replace b:=b.bl k;replace g:=g.gr b;replace i:=i.gr b;replace d:=d.grow b;exact ⟨rfl,_,_,hm,d,i,g,rfl⟩
        refine qF ⟨_,_,rfl⟩ ?_;refine go ?_;refine qW (fun _ b=>((i.atN).nth (q:=1) rfl).gr (b.bl k)) ?_;refine go ?_;obtain ⟨cl,aq,hm⟩:=bZ hm;refine qI aq ((Q.ks d).addr aq) ?_;refine go ?_;refine qW (fun _ b=>((Q.ks d).gr (b.bl k)).atStr aq) ?_;refine go ?_;obtain ⟨a7,E,hm⟩:=bZ hm;refine qI E (g.addr E) ?_;refine go ?_;refine qF (V7 (g.addr E)) ?_;refine go ?_;obtain ⟨_,bh,bi⟩:=g.atN E;obtain ⟨_,_,rfl,bj,bk⟩:=bh.parts;obtain rfl:=bj.str;obtain rfl:=bk.str;refine qW (fun _ b=>((bi).nth (q:=0) rfl).gr (b.bl k)) ?_;refine go ?_;refine Z7 hm (fun ar hm=>go ?_) fun ar hm=>go ?_
        ·refine qF ⟨_,_,rfl⟩ ?_;refine go ?_;refine qW (fun _ b=>((i.atN).nth (q:=2) rfl).gr (b.bl k)) ?_;refine go ?_;refine qI M ((L.ks d).addr M) ?_;refine go ?_;obtain ⟨_,bm,bn⟩:=(L.ks d).atN M;obtain ⟨⟨cn,co,rfl,a8⟩,_⟩:=bm;refine qW (fun _ b=>bn.one.gr (b.bl k)) ?_;refine go ?_;obtain ⟨a9,au,hm⟩:=bZ hm;refine qI au (a8.addr au) ?_;refine go ?_;refine qW (fun _ b=>(a8.gr (b.bl k)).atStr au) ?_;refine go ?_;refine qI E (g.addr E) ?_;refine go ?_;refine qF (V7 (g.addr E)) ?_;refine go ?_;obtain ⟨_,bo,bp⟩:=g.atN E;obtain ⟨_,_,rfl,bq,br⟩:=bo.parts;obtain rfl:=bq.str;obtain rfl:=br.str;refine qW (fun _ b=>((bp).nth (q:=1) rfl).gr (b.bl k)) ?_;refine go ?_;refine qv (v:=(.bool (decide (a9=a7.2)))) rfl (fun _ b=>Zx (congrArg Value.bool ar) rfl) ?_;refine qv (v:=(.bool (decide (a9=a7.2)))) rfl (fun _ b=>Z0 (congrArg Value.bool ab) rfl) ?_;refine go ?_;refine Y3 ?_;intro cp b;replace b:=b.bl k;replace g:=g.gr b;replace i:=i.gr b;replace d:=d.grow b;exact ⟨rfl,_,_,hm,d,i,g,rfl⟩
        refine qv (v:=(.bool false)) rfl (fun _ b=>Z0 (congrArg Value.bool ar) rfl) ?_;refine qv (v:=(.bool false)) rfl (fun _ b=>Z0 (congrArg Value.bool ab) rfl) ?_;refine go ?_;refine Y3 ?_;intro cq b;replace b:=b.bl k;replace g:=g.gr b;replace i:=i.gr b;replace d:=d.grow b;exact ⟨rfl,_,_,hm,d,i,g,rfl⟩
       exact ⟨D,by omega,rfl,⟨_,_,_,_,rfl,hm,d,i,g,rfl⟩⟩
     refine Z6 [2,5,6,1000000] (fun n f ac=>∃ B ad av K,K=n∧Qk N j o (To N a j l) K ad av=some r∧St w0 (Zi col) B ac∧Ze 45 1 B ac F #[.string a.1,.slice w a.2.1.length p,.slice x a.2.2.1.length s,.slice y a.2.2.2.1.length t,.slice A a.2.2.2.2.length u]∧Zc (Za.pair Za.str Za.str) 56 3 B ac G H ((([]:List (ByteArray×ByteArray))++j.2.1)++j.2.2.1)∧[10,7].map f=[.int .i64 ad,.bool av]) N ⟨_,0,_,_,rfl,hm,d,i,g,rfl⟩ ?_;clear hm;intro n f ac I;obtain ⟨B,ad,av,K,hn,hm,d,i,g,hs⟩:=I;subst hn;refine .lL [10,7] hs ?_
     cases K with
     | zero=>rw [Qk.eq_1] at hm;cases hm
     | succ K=>
      rw [Qk.eq_2] at hm;refine go ?_;refine Zm hm (fun hb hm=>?_) fun hb hm=>go ?_
      ·refine Z1<|Zo ?_;refine Wp.cutK [10,2,5,6,1000000] (fun f ae=>∃ af aw,Zd1 ad (Qk N j o (To N a j l) K) aw=some r∧St w0 (Zi col) af ae∧Ze 45 1 af ae F #[.string a.1,.slice w a.2.1.length p,.slice x a.2.2.1.length s,.slice y a.2.2.2.1.length t,.slice A a.2.2.2.2.length u]∧Zc (Za.pair Za.str Za.str) 56 3 af ae G H ((([]:List (ByteArray×ByteArray))++j.2.1)++j.2.2.1)∧[7].map f=[.bool aw]) ?_ ?_
       ·intro f ae O;obtain ⟨af,aw,hm,d,i,g,hs⟩:=O;rw [Zd1.eq_1] at hm;refine .lL [7] hs<|go ?_;exact ⟨K,by omega,rfl,⟨_,_,_,_,rfl,hm,d,i,g,rfl⟩⟩
       refine S8<|Vs (col:=B) (by kernel_rfl) (by kernel_rfl)<|go ?_;refine Z7 hm (fun ax hm=>go ?_) fun ax hm=>go ?_
       ·obtain ⟨bs,ag,hm⟩:=bZ hm;refine qI ag (g.addr ag) ?_;refine go ?_;refine qF (V7 (g.addr ag)) ?_;refine go ?_;obtain ⟨_,bt,bu⟩:=g.atN ag;obtain ⟨_,_,rfl,bv,bw⟩:=bt.parts;obtain rfl:=bv.str;obtain rfl:=bw.str;refine qW (fun _ b=>((bu).nth (q:=0) rfl).gr (b.bl B)) ?_;refine go ?_;obtain ⟨bx,ah,hm⟩:=bZ hm;refine qI ah (g.addr ah) ?_;refine go ?_;refine qF (V7 (g.addr ah)) ?_;refine go ?_;obtain ⟨_,bz,b0⟩:=g.atN ah;obtain ⟨_,_,rfl,b1,b2⟩:=bz.parts;obtain rfl:=b1.str;obtain rfl:=b2.str;refine qW (fun _ b=>((b0).nth (q:=0) rfl).gr (b.bl B)) ?_;refine go ?_;refine qv (v:=(.bool (!decide (bs.1=bx.1)))) rfl (fun _ b=>Zx (congrArg Value.bool ax) rfl) ?_;refine go ?_;refine Y3 ?_;intro cr b;replace b:=b.bl B;replace g:=g.gr b;replace i:=i.gr b;replace d:=d.grow b;exact ⟨rfl,_,_,hm,d,i,g,rfl⟩
       refine qv (v:=(.bool false)) rfl (fun _ b=>Z0 (congrArg Value.bool ax) rfl) ?_;refine go ?_;refine Y3 ?_;intro cs b;replace b:=b.bl B;replace g:=g.gr b;replace i:=i.gr b;replace d:=d.grow b;exact ⟨rfl,_,_,hm,d,i,g,rfl⟩
      refine Zm hm (fun hb hm=>go ?_) fun hb hm=>go ?_
      ·cases hm;exact ⟨rfl,rfl,d.below⟩
      exact ⟨l,by omega,rfl,⟨_,_,_,rfl,hm,d,i,g,rfl⟩⟩
   cases hm;exact ⟨rfl,rfl,d.below⟩
 refine Yo<|Zz C ?_;refine go ?_;refine Z7 hm (fun ay hm=>go ?_) fun ay hm=>go ?_
 ·refine lV (.bool true) (Zx (congrArg Value.bool ay) rfl)<|Yg rfl<|lP 28 rfl rfl<|lP 28 rfl rfl<|lP 28 rfl rfl<|lP 28 rfl rfl<|lP 28 rfl rfl<|lP 28 rfl rfl<|lP 28 rfl rfl<|lV (.bool true) (Zx rfl rfl)<|Zj ?_;exact ⟨rfl,_,_,hm,d,i,g,rfl⟩
 refine Zv ⟨_,_,rfl⟩ ?_;refine go ?_;refine lW ((C.atN).nth (q:=1) rfl)<|go ?_;refine lV (.bool (decide ((j.2.1.length:Int)=0))) (Z0 (congrArg Value.bool ay) rfl)<|Yg rfl ?_;refine Z7 hm (fun az hm=>go ?_) fun az hm=>go ?_
 ·refine lV (.bool true) (Zx (congrArg Value.bool az) rfl)<|Zj ?_;exact ⟨rfl,_,_,hm,d,i,g,rfl⟩
 refine Zv ⟨_,_,rfl⟩ ?_;refine go ?_;refine lW ((i.atN).nth (q:=2) rfl)<|go ?_;refine Zv ⟨_,_,rfl⟩ ?_;refine go ?_;refine lW ((i.atN).nth (q:=1) rfl)<|go ?_;refine lV (.bool (!decide ((a.2.2.1.length:Int)=(a.2.1.length:Int)))) (Z0 (congrArg Value.bool az) rfl)<|Zj ?_;exact ⟨rfl,_,_,hm,d,i,g,rfl⟩
def Zd3 (a:(ByteArray×List ByteArray×(List (List ByteArray))×(List (List Int))×(List (List ((Bool×List Int)×List Int))))) (b:Int):Option ByteArray:=
  (Zq a.2.1 b).bind fun c=>some c
def Zd2 (a:(ByteArray×List ByteArray×(List (List ByteArray))×(List (List Int))×(List (List ((Bool×List Int)×List Int))))) (b:Int):Option ByteArray:=
  if (decide ((a.2.1.length:Int)=0))=true then (some (⟨#[]⟩)) else (Zr ((a.2.1.length:Int)≠0) (if (decide ((Int.tmod b (a.2.1.length:Int))<0))=true then (Zd3 a (i64.wrap ((Int.tmod b (a.2.1.length:Int))+(a.2.1.length:Int)))) else (Zd3 a (Int.tmod b (a.2.1.length:Int)))))
theorem Zxd {i j k l:Nat} {n o p q:Option Addr} {col:Zd} {w0:World} {a:(ByteArray×List ByteArray×(List (List ByteArray))×(List (List Int))×(List (List ((Bool×List Int)×List Int))))} {d:Int} {r:ByteArray} (hm:Zd2 a d=some r) (g:Sl Za.str col w0 n i a.2.1) (B:Sl (Za.slice Za.str) col w0 o j a.2.2.1) (C:Sl (Za.slice (Za.int .i64)) col w0 p k a.2.2.2.1) (D:Sl (Za.slice (Za.pair (Za.pair Za.bool (Za.slice (Za.int .u32))) (Za.slice (Za.int .u32)))) col w0 q l a.2.2.2.2):
    Calls prog 19 #[(.agg #[.string a.1,.slice n a.2.1.length i,.slice o a.2.2.1.length j,.slice p a.2.2.2.1.length k,.slice q a.2.2.2.2.length l]),.int .i64 d] w0 (fun e w'=>e= .returned ((.string r))∧Below w0.heap.size w0 w'):=by
 refine Z5 4 (m:=26) func19 O O O O O ?_;rw [Zd2.eq_1] at hm;have b:=St.start col w0;refine go ?_;refine Yj (col:=(Zi col)) 1 O ?_;intro w E F x c;refine go ?_;refine Zz c ?_;refine go ?_;replace g:=g.keep (Zl.start col w0);replace b:=b.grow x;refine Zm hm (fun hb hm=>go ?_) fun hb hm=>go ?_
 ·cases hm;exact ⟨O,O,b.below⟩
 refine Zz c ?_;refine go ?_;obtain ⟨y,hm⟩:=Zt hm;refine lV (.int .i64 (Int.tmod d (a.2.1.length:Int))) (T3 d (a.2.1.length:Int) O O y)<|Yq O<|Zj<|Zo ?_;refine Wp.cutK [2,1000000] (fun f s=>∃ t u,Zd3 a u=some r∧St w0 (Zi col) t s∧Ze 45 1 t s w #[.string a.1,.slice n a.2.1.length i,.slice o a.2.2.1.length j,.slice p a.2.2.2.1.length k,.slice q a.2.2.2.2.length l]∧[1].map f=[.int .i64 u]) ?_ ?_
 ·intro f s A;obtain ⟨t,u,hm,b,c,hs⟩:=A;rw [Zd3.eq_1] at hm;refine .lL [1] hs<|go ?_;refine Zz c<|Y1 O ?_;obtain ⟨G,v,hm⟩:=bZ hm;refine lI v ((g.ks b).addr v)<|lW ((g.ks b).atStr v) ?_;refine go ?_;cases hm;exact ⟨O,O,b.below⟩
 refine go ?_;refine Zm hm (fun hb hm=>go ?_) fun hb hm=>?_
 ·refine Zz c ?_;refine go ?_;exact ⟨O,_,_,hm,b,c,O⟩
 refine Z1 ?_;exact ⟨O,_,_,hm,b,c,O⟩
theorem Zzw:Wa prog 56 2 32:=⟨Tryz.t56,_,rfl,rfl,rfl,rfl,rfl⟩
def Zbu (a:Bool):Option Bool:=
  some a
def Sx (a:Int) (kk_L1:(Int→(List ByteArray)→Int→Option Bool)) (b:Int) (c:List ByteArray):Option Bool:=
  kk_L1 b c (i64.wrap (a+1))
def Zdx (a:Int) (kk_L2:(Bool→Int→Option Bool)) (b:Bool):Option Bool:=
  kk_L2 b (i64.wrap (a+1))
def Zdy (a:Int) (kk_L3:(Bool→Int→Option Bool)) (b:Bool):Option Bool:=
  kk_L3 b (i64.wrap (a+1))
def Qi (N:Nat) (a:(Int×(Nat×(List (ByteArray×ByteArray)))×(Nat×(List (ByteArray×ByteArray)))×Int×(Nat×List ByteArray)×(Bool×Bool))) (d:Int) (b:List ByteArray) (e:Int) (kk_L1:(Int→(List ByteArray)→Int→Option Bool)) (c:ByteArray):Nat→Bool→Int→Option Bool
  | 0,_,_=>none
  | g+1,i,f=>if (decide (f<((a.2.2.1.2.take a.2.2.1.1).length:Int)))=true then (if i=true then ((Zq (a.2.2.1.2.take a.2.2.1.1) f).bind fun j=>Zdy f (Qi N a d b e kk_L1 c g) (!decide (j.1=c))) else (Zdy f (Qi N a d b e kk_L1 c g) false)) else (if i=true then (Zr ((b.length+([c]:List ByteArray).length) * 16≤140737488355328∧b.length+([c]:List ByteArray).length≤maxLen) (Sx e kk_L1 d (b++([c]:List ByteArray)))) else (Sx e kk_L1 (i64.wrap (d+1)) b))
termination_by structural x=>x
def Qh (N:Nat) (a:(Int×(Nat×(List (ByteArray×ByteArray)))×(Nat×(List (ByteArray×ByteArray)))×Int×(Nat×List ByteArray)×(Bool×Bool))) (d:Int) (e:List ByteArray) (f:Int) (kk_L1:(Int→(List ByteArray)→Int→Option Bool)) (b:ByteArray):Nat→Bool→Int→Option Bool
  | 0,_,_=>none
  | g+1,i,c=>if (decide (c<((a.2.1.2.take a.2.1.1).length:Int)))=true then (if i=true then ((Zq (a.2.1.2.take a.2.1.1) c).bind fun j=>Zdx c (Qh N a d e f kk_L1 b g) (!decide (j.1=b))) else (Zdx c (Qh N a d e f kk_L1 b g) false)) else (Qi N a d e f kk_L1 b N i 0)
termination_by structural x=>x
def Zgj (a:Bool):Option Bool:=
  some a
def Zdz (N:Nat) (b:(ByteArray×List ByteArray×(List (List ByteArray))×(List (List Int))×(List (List ((Bool×List Int)×List Int))))) (e:Bool) (f:Int) (d:List (ByteArray×ByteArray)) (c:List (ByteArray×ByteArray)) (l:Int) (g:List ByteArray) (i:Bool) (j:Bool):Option Bool:=
  (Zq d 0).bind fun a=>Zr ((c.length+[(a.1,a.2)].length) * 32≤140737488355328∧c.length+[(a.1,a.2)].length≤maxLen) (if e=true then ((Wk N (b.1,b.2.1,b.2.2.1,b.2.2.2.1,b.2.2.2.2) (f,d,c++[(a.1,a.2)],1,g,(i,j))).bind fun k=>Zgj (decide (k=50))) else (Zgj false))
def U9 (N:Nat) (b:(ByteArray×List ByteArray×(List (List ByteArray))×(List (List Int))×(List (List ((Bool×List Int)×List Int))))) (i:Int) (f:Bool) (a:(Int×(Nat×(List (ByteArray×ByteArray)))×(Nat×(List (ByteArray×ByteArray)))×Int×(Nat×List ByteArray)×(Bool×Bool))):Nat→Int→(List ByteArray)→Int→Option Bool
  | 0,_,_,_=>none
  | j+1,k,c,g=>if (decide (g<(b.2.1.length:Int)))=true then ((Zd2 (b.1,b.2.1,b.2.2.1,b.2.2.2.1,b.2.2.2.2) (i64.wrap (g+(Int.tmod i 1000)))).bind fun l=>Qh N a k c g (U9 N b i f a j) l N true 0) else ((Wk N (b.1,b.2.1,b.2.2.1,b.2.2.2.1,b.2.2.2.2) (a.1,a.2.1.2.take a.2.1.1,a.2.2.1.2.take a.2.2.1.1,2,([]:List ByteArray),(a.2.2.2.2.2.1,a.2.2.2.2.2.2))).bind fun m=>if (!decide (m=0))=true then (some false) else ((Wk N (b.1,b.2.1,b.2.2.1,b.2.2.2.1,b.2.2.2.2) (a.1,a.2.1.2.take a.2.1.1,a.2.2.1.2.take a.2.2.1.1,3,c,(a.2.2.2.2.2.1,a.2.2.2.2.2.2))).bind fun n=>if (!decide (n=0))=true then (some false) else (Zr ((([]:List ByteArray).length+c.length) * 16≤140737488355328∧([]:List ByteArray).length+c.length≤maxLen) ((Zq (a.2.1.2.take a.2.1.1) 0).bind fun d=>Zr (((([]:List ByteArray)++c).length+([d.1]:List ByteArray).length) * 16≤140737488355328∧(([]:List ByteArray)++c).length+([d.1]:List ByteArray).length≤maxLen) ((Wk N (b.1,b.2.1,b.2.2.1,b.2.2.2.1,b.2.2.2.2) (a.1,a.2.1.2.take a.2.1.1,a.2.2.1.2.take a.2.2.1.1,3,(([]:List ByteArray)++c)++([d.1]:List ByteArray),(a.2.2.2.2.2.1,a.2.2.2.2.2.2))).bind fun o=>if (!decide (o=51))=true then (some false) else (if (decide (0<(c.length:Int)))=true then (Zr ((0:Int)≤1∧1≤(c.length:Int)) ((Wk N (b.1,b.2.1,b.2.2.1,b.2.2.2.1,b.2.2.2.2) (a.1,a.2.1.2.take a.2.1.1,a.2.2.1.2.take a.2.2.1.1,3,c.drop (Int.toNat 1),(a.2.2.2.2.2.1,a.2.2.2.2.2.2))).bind fun p=>if (!decide (p=51))=true then (some false) else (Zr ((([]:List ByteArray).length+c.length) * 16≤140737488355328∧([]:List ByteArray).length+c.length≤maxLen) ((Zq c 0).bind fun e=>Zr (((([]:List ByteArray)++c).length+([e]:List ByteArray).length) * 16≤140737488355328∧(([]:List ByteArray)++c).length+([e]:List ByteArray).length≤maxLen) ((Wk N (b.1,b.2.1,b.2.2.1,b.2.2.2.1,b.2.2.2.2) (a.1,a.2.1.2.take a.2.1.1,a.2.2.1.2.take a.2.2.1.1,3,(([]:List ByteArray)++c)++([e]:List ByteArray),(a.2.2.2.2.2.1,a.2.2.2.2.2.2))).bind fun q=>if (!decide (q=51))=true then (some false) else (Zdz N b f a.1 (a.2.1.2.take a.2.1.1) (a.2.2.1.2.take a.2.2.1.1) 3 ((([]:List ByteArray)++c)++([e]:List ByteArray)) a.2.2.2.2.2.1 a.2.2.2.2.2.2)))))) else (Zdz N b f a.1 (a.2.1.2.take a.2.1.1) (a.2.2.1.2.take a.2.2.1.1) 3 ((([]:List ByteArray)++c)++([d.1]:List ByteArray)) a.2.2.2.2.2.1 a.2.2.2.2.2.2)))))))
termination_by structural x=>x
def Zbt (N:Nat) (b:(ByteArray×List ByteArray×(List (List ByteArray))×(List (List Int))×(List (List ((Bool×List Int)×List Int))))) (c:Int) (a:Bool) (d:(Int×(Nat×(List (ByteArray×ByteArray)))×(Nat×(List (ByteArray×ByteArray)))×Int×(Nat×List ByteArray)×(Bool×Bool))) (e:Int) (f:Bool) (g:Bool):Option Bool:=
  if g=true then (if a=true then (if (!decide (e=0))=true then (Zbu true) else (Zbu (!f))) else (Zbu false)) else (U9 N b c a d N 0 ([]:List ByteArray) 0)
def Zjm (N:Nat) (b:(ByteArray×List ByteArray×(List (List ByteArray))×(List (List Int))×(List (List ((Bool×List Int)×List Int))))) (c:(Int×(List (ByteArray×ByteArray))×(List (ByteArray×ByteArray))×Int×List ByteArray×(Bool×Bool))) (f:Int):Option Bool:=
  (Zgk N).bind fun g=>(Zd4 (c.1,c.2.1,c.2.2.1,c.2.2.2.1,c.2.2.2.2.1,(c.2.2.2.2.2.1,c.2.2.2.2.2.2))).bind fun a=>(Wk N (b.1,b.2.1,b.2.2.1,b.2.2.2.1,b.2.2.2.2) (a.1,a.2.1.2.take a.2.1.1,a.2.2.1.2.take a.2.2.1.1,1,([]:List ByteArray),(a.2.2.2.2.2.1,a.2.2.2.2.2.2))).bind fun d=>(Zd0 N (b.1,b.2.1,b.2.2.1,b.2.2.2.1,b.2.2.2.2) (a.1,a.2.1.2.take a.2.1.1,a.2.2.1.2.take a.2.2.1.1,1,([]:List ByteArray),(a.2.2.2.2.2.1,a.2.2.2.2.2.2))).bind fun e=>if (!decide (d=0))=true then (Zbt N b f g a d e true) else (Zbt N b f g a d e (!e))
theorem Zxa (N:Nat) (col:Zd) (w0:World) (ac:Option Addr) (ad:Nat) (ae:Option Addr) (af:Nat) (ag:Option Addr) (ah:Nat) (ai:Option Addr) (aj:Nat) (o:(ByteArray×List ByteArray×(List (List ByteArray))×(List (List Int))×(List (List ((Bool×List Int)×List Int))))) (d4:Option Addr) (d5:Nat) (d6:Option Addr) (d7:Nat) (d8:Option Addr) (d9:Nat) (R:(Int×(List (ByteArray×ByteArray))×(List (ByteArray×ByteArray))×Int×List ByteArray×(Bool×Bool))) (G:Int) (S:Sl Za.str col w0 ac ad o.2.1) (T:Sl (Za.slice Za.str) col w0 ae af o.2.2.1) (U:Sl (Za.slice (Za.int .i64)) col w0 ag ah o.2.2.2.1) (V:Sl (Za.slice (Za.pair (Za.pair Za.bool (Za.slice (Za.int .u32))) (Za.slice (Za.int .u32)))) col w0 ai aj o.2.2.2.2) (c0:Sl (Za.pair Za.str Za.str) col w0 d4 d5 R.2.1) (c1:Sl (Za.pair Za.str Za.str) col w0 d6 d7 R.2.2.1) (c3:Sl Za.str col w0 d8 d9 R.2.2.2.2.1) (hgl:Gl (.iface 141 (.agg #[.pointer (some ⟨4,24,none⟩)])) col w0) (r:Bool) (hm:Zjm N o R G=some r):
    Calls prog 6 #[(.agg #[.string o.1,.slice ac o.2.1.length ad,.slice ae o.2.2.1.length af,.slice ag o.2.2.2.1.length ah,.slice ai o.2.2.2.2.length aj]),(.agg #[.int .i8 R.1,.slice d4 R.2.1.length d5,.slice d6 R.2.2.1.length d7,.int .i8 R.2.2.2.1,.slice d8 R.2.2.2.2.1.length d9,.bool R.2.2.2.2.2.1,.bool R.2.2.2.2.2.2]),.int .i64 G] w0 (fun e w'=>e= .returned ((.bool r))∧Below w0.heap.size w0 w'):=by
 refine Z5 6 (m:=170) func6 rfl rfl rfl rfl rfl ?_;rw [Zjm.eq_1] at hm;have b:=St.start col w0;refine go ?_;refine Yj (col:=(Zi col)) 1 rfl ?_;intro J g2 es ea g;refine Yj (col:=es) 2 rfl ?_;intro A et eb c4 bq;refine go ?_;obtain ⟨K,eu,hm⟩:=bZ hm;replace hgl:=((hgl.keep (Zl.start col w0)).gr ea).gr c4;refine lc rfl rfl (Zia call12) (Zxb eu hgl:) ?_;rintro _ ew ⟨rfl,br⟩;refine ⟨_,rfl,?_⟩;replace br:Zg eb et eb ew:=.of_below br;refine go ?_;replace bq:=bq.gr br;refine lV _ (Xx isAgg50 sizeOf50 bq) ?_;obtain ⟨a,ey,hm⟩:=bZ hm;replace c0:=c0.keep (Zl.start col w0);replace c1:=c1.keep (Zl.start col w0);replace c3:=c3.keep (Zl.start col w0);replace b:=((b.grow ea).grow c4).grow br;refine Zh (Zxe 3 4 5 ey (c0.ks b) (c1.ks b) (c3.ks b)) ?_;rintro _ g3 ⟨bs,B,C,D,E,ez,e0,rfl,co,j,k,g4⟩;refine ⟨_,rfl,?_⟩;replace bq:=bq.gr co;refine Xf bq ?_;intro g5 b8 e1 e2;refine go ?_;refine Zv ⟨_,_,rfl⟩ ?_;refine Xj (off:=3) (v:=(.int .i8 1)) e2 sizeOf46 rfl rfl (by intro u hu;simp only [Value.cells,List.mem_cons,List.not_mem_nil,or_false] at hu;subst hu;rfl) rfl rfl ?_;intro e3 b9 e4 c5;replace c5:Ze 50 2 bs e3 A #[.int .i8 a.1,.slice B ((a.2.1.2.take a.2.1.1).length) C,.slice D ((a.2.2.1.2.take a.2.2.1.1).length) E,.int .i8 1,.slice ez ((a.2.2.2.2.1.2.take a.2.2.2.2.1.1).length) e0,.bool a.2.2.2.2.2.1,.bool a.2.2.2.2.2.2]:=c5;refine go ?_;refine Zv ⟨_,_,rfl⟩ ?_;refine Xj (off:=4) (v:=(.slice none (([]:List ByteArray).length) 0)) c5 sizeOf40 rfl rfl (by intro u hu;simp only [Value.cells,List.mem_cons,List.not_mem_nil,or_false] at hu;subst hu;rfl) rfl rfl ?_;intro ec ca e5 s;replace s:Ze 50 2 bs ec A #[.int .i8 a.1,.slice B ((a.2.1.2.take a.2.1.1).length) C,.slice D ((a.2.2.1.2.take a.2.2.1.1).length) E,.int .i8 1,.slice none (([]:List ByteArray).length) 0,.bool a.2.2.2.2.2.1,.bool a.2.2.2.2.2.2]:=s;refine go ?_;replace g:=(((((g.gr c4).gr br).gr co).kp b8).kp b9).kp ca;refine lV _ (Xx isAgg45 sizeOf45 g)<|lV _ (Xx isAgg50 sizeOf50 s) ?_;obtain ⟨ed,e6,hm⟩:=bZ hm;replace S:=S.keep (Zl.start col w0);replace T:=T.keep (Zl.start col w0);replace U:=U.keep (Zl.start col w0)
 replace V:=V.keep (Zl.start col w0);replace b:=(((b.grow co).kp b8 e1).kp b9 e4).kp ca e5;replace j:=((j.kp b8).kp b9).kp ca;replace k:=((k.kp b8).kp b9).kp ca;refine Zh (Zad e6 (((S.ks b).froz 3).froz 4) (((T.ks b).froz 3).froz 4) (((U.ks b).froz 3).froz 4) (((V.ks b).froz 3).froz 4) (((j.take a.2.1.1).toSlF (Zk.pair Zk.str Zk.str)).froz 4) (((k.take a.2.2.1.1).froz 3 (by decide)).toSlF (Zk.pair Zk.str Zk.str)) Sl.nil) ?_;rintro _ ee ⟨rfl,av⟩;refine ⟨_,rfl,?_⟩;replace av:Zg bs ec bs ee:=.of_below av;refine go ?_;replace g:=g.gr av;refine lV _ (Xx isAgg45 sizeOf45 g) ?_;replace s:=s.gr av;refine lV _ (Xx isAgg50 sizeOf50 s) ?_;obtain ⟨cb,e7,hm⟩:=bZ hm;replace j:=j.gr av;replace k:=k.gr av;replace b:=b.grow av;refine Zh (Zxc e7 (((S.ks b).froz 3).froz 4) (((T.ks b).froz 3).froz 4) (((U.ks b).froz 3).froz 4) (((V.ks b).froz 3).froz 4) (((j.take a.2.1.1).toSlF (Zk.pair Zk.str Zk.str)).froz 4) (((k.take a.2.2.1.1).froz 3 (by decide)).toSlF (Zk.pair Zk.str Zk.str)) Sl.nil) ?_;rintro _ e8 ⟨rfl,aw⟩;refine ⟨_,rfl,?_⟩;replace aw:Zg bs ee bs e8:=.of_below aw;refine Qc rfl<|Zj<|Zo<|Zo ?_;replace hgl:=((((((hgl.gr br).gr co).kp b8).kp b9).kp ca).gr av).gr aw;replace j:=j.gr aw;replace k:=k.gr aw;replace g:=g.gr aw;replace s:=s.gr aw;replace b:=b.grow aw
 refine Wp.cutK [] (fun f bc=>∃ bd c6,Zbt N o G K a ed cb c6=some r∧St w0 (Zi col) bd bc∧Ze 45 1 bd bc J #[.string o.1,.slice ac o.2.1.length ad,.slice ae o.2.2.1.length af,.slice ag o.2.2.2.1.length ah,.slice ai o.2.2.2.2.length aj]∧Zc (Za.pair Za.str Za.str) 56 3 bd bc B C a.2.1.2∧Zc (Za.pair Za.str Za.str) 56 4 bd bc D E a.2.2.1.2∧Ze 50 2 bd bc A #[.int .i8 a.1,.slice B ((a.2.1.2.take a.2.1.1).length) C,.slice D ((a.2.2.1.2.take a.2.2.1.1).length) E,.int .i8 1,.slice none (([]:List ByteArray).length) 0,.bool a.2.2.2.2.2.1,.bool a.2.2.2.2.2.2]∧Gl (.iface 141 (.agg #[.pointer (some ⟨4,24,none⟩)])) bd bc∧[2,3,35,4,7,8,9,1000000].map f=[.int .i64 G,.pointer (some ⟨J,0,none⟩),.bool c6,.pointer (some ⟨A,0,none⟩),.bool K,.int .i64 ed,.bool cb,enc []]) ?_ ?_
 ·intro f bc O;obtain ⟨bd,c6,hm,b,g,j,k,s,hgl,hs⟩:=O;rw [Zbt.eq_1] at hm;refine .lL [2,3,35,4,7,8,9,1000000] hs ?_;refine Zm hm (fun hb hm=>?_) fun hb hm=>go ?_
  ·refine Zo ?_;refine Wp.cutK [] (fun f c7=>∃ c8 c9,Zbu c9=some r∧St w0 (Zi col) c8 c7∧Gl (.iface 141 (.agg #[.pointer (some ⟨4,24,none⟩)])) c8 c7∧[6,1000000].map f=[.bool c9,enc []]) ?_ ?_
   ·intro f c7 O;obtain ⟨c8,c9,hm,b,hgl,hs⟩:=O;rw [Zbu.eq_1] at hm;refine .lL [6,1000000] hs<|W0 ?_;cases hm;exact ⟨rfl,rfl,b.below⟩
   refine go ?_;refine Z7 hm (fun cp hm=>go ?_) fun cp hm=>go ?_
   ·refine Z7 hm (fun da hm=>go ?_) fun da hm=>go ?_
    ·refine lV (.bool true) (Zx (congrArg Value.bool da) rfl)<|lV (.bool true) (Zx (congrArg Value.bool cp) rfl)<|go ?_;exact ⟨rfl,_,_,hm,b,hgl,rfl⟩
    refine lV (.bool (!cb)) (Z0 (congrArg Value.bool da) rfl)<|lV (.bool (!cb)) (Zx (congrArg Value.bool cp) rfl)<|go ?_;exact ⟨rfl,_,_,hm,b,hgl,rfl⟩
   refine Wv 40 rfl rfl rfl rfl<|Wv 40 rfl rfl rfl rfl<|go ?_;refine lV (.bool false) (Z0 (congrArg Value.bool cp) rfl)<|go ?_;exact ⟨rfl,_,_,hm,b,hgl,rfl⟩
  refine Z6 [] (fun n f al=>∃ H W I F y P X,X=n∧U9 N o G K a X W y P=some r∧St w0 (Zi col) H al∧Zc Za.str 9 6 H al I F y∧Ze 45 1 H al J #[.string o.1,.slice ac o.2.1.length ad,.slice ae o.2.2.1.length af,.slice ag o.2.2.2.1.length ah,.slice ai o.2.2.2.2.length aj]∧Zc (Za.pair Za.str Za.str) 56 3 H al B C a.2.1.2∧Zc (Za.pair Za.str Za.str) 56 4 H al D E a.2.2.1.2∧Ze 50 2 H al A #[.int .i8 a.1,.slice B ((a.2.1.2.take a.2.1.1).length) C,.slice D ((a.2.2.1.2.take a.2.2.1.1).length) E,.int .i8 1,.slice none (([]:List ByteArray).length) 0,.bool a.2.2.2.2.2.1,.bool a.2.2.2.2.2.2]∧Gl (.iface 141 (.agg #[.pointer (some ⟨4,24,none⟩)])) H al∧[10,11,12,2,3,4,7,1000000].map f=[.int .i64 W,.slice I y.length F,.int .i64 P,.int .i64 G,.pointer (some ⟨J,0,none⟩),.pointer (some ⟨A,0,none⟩),.bool K,enc []]) N ⟨_,0,none,0,_,0,_,rfl,hm,b,Zc.nil,g,j,k,s,hgl,rfl⟩ ?_;clear hm;intro n f al hI;obtain ⟨H,W,I,F,y,P,X,hn,hm,b,t,g,j,k,s,hgl,hs⟩:=hI;subst hn;refine .lL [10,11,12,2,3,4,7,1000000] hs ?_
  cases X with
  | zero=>rw [U9.eq_1] at hm;cases hm
  | succ X=>
   rw [U9.eq_2] at hm;refine go ?_;refine Zz g ?_;refine go ?_;refine Zm hm (fun hb hm=>?_) fun hb hm=>go ?_
   ·refine Z1<|Zo ?_;refine Wp.cutK [] (fun f ax=>∃ ay db dc dd cq,Sx P (U9 N o G K a X) db cq=some r∧St w0 (Zi col) ay ax∧Zc Za.str 9 6 ay ax dc dd cq∧Ze 45 1 ay ax J #[.string o.1,.slice ac o.2.1.length ad,.slice ae o.2.2.1.length af,.slice ag o.2.2.2.1.length ah,.slice ai o.2.2.2.2.length aj]∧Zc (Za.pair Za.str Za.str) 56 3 ay ax B C a.2.1.2∧Zc (Za.pair Za.str Za.str) 56 4 ay ax D E a.2.2.1.2∧Ze 50 2 ay ax A #[.int .i8 a.1,.slice B ((a.2.1.2.take a.2.1.1).length) C,.slice D ((a.2.2.1.2.take a.2.2.1.1).length) E,.int .i8 1,.slice none (([]:List ByteArray).length) 0,.bool a.2.2.2.2.2.1,.bool a.2.2.2.2.2.2]∧Gl (.iface 141 (.agg #[.pointer (some ⟨4,24,none⟩)])) ay ax∧[10,11,12,2,3,4,7,1000000].map f=[.int .i64 db,.slice dc cq.length dd,.int .i64 P,.int .i64 G,.pointer (some ⟨J,0,none⟩),.pointer (some ⟨A,0,none⟩),.bool K,enc []]) ?_ ?_
    ·intro f ax O;obtain ⟨ay,db,dc,dd,cq,hm,b,e9,g,j,k,s,hgl,hs⟩:=O;rw [Sx.eq_1] at hm;refine .lL [10,11,12,2,3,4,7,1000000] hs<|go ?_;exact ⟨X,by omega,rfl,⟨_,_,_,_,_,_,_,rfl,hm,b,e9,g,j,k,s,hgl,rfl⟩⟩
    refine go ?_;refine lV _ (Xx isAgg45 sizeOf45 g)<|go ?_;refine lV (.int .i64 (Int.tmod G 1000)) (T3 G 1000 rfl rfl (by decide))<|go ?_;obtain ⟨Y,fa,hm⟩:=bZ hm;refine Zh (Zxd fa (S.ks b) (T.ks b) (U.ks b) (V.ks b)) ?_;rintro _ fb ⟨rfl,am⟩;refine ⟨_,rfl,?_⟩;replace am:Zg H al H fb:=.of_below am;refine go ?_;replace t:=t.gr am;replace j:=j.gr am;replace k:=k.gr am;replace hgl:=hgl.gr am;replace g:=g.gr am;replace s:=s.gr am;replace b:=b.grow am;refine Z6 [] (fun n f az=>∃ a0 de cc be,be=n∧Qh N a W y P (U9 N o G K a X) Y be de cc=some r∧St w0 (Zi col) a0 az∧Zc Za.str 9 6 a0 az I F y∧Ze 45 1 a0 az J #[.string o.1,.slice ac o.2.1.length ad,.slice ae o.2.2.1.length af,.slice ag o.2.2.2.1.length ah,.slice ai o.2.2.2.2.length aj]∧Zc (Za.pair Za.str Za.str) 56 3 a0 az B C a.2.1.2∧Zc (Za.pair Za.str Za.str) 56 4 a0 az D E a.2.2.1.2∧Ze 50 2 a0 az A #[.int .i8 a.1,.slice B ((a.2.1.2.take a.2.1.1).length) C,.slice D ((a.2.2.1.2.take a.2.2.1.1).length) E,.int .i8 1,.slice none (([]:List ByteArray).length) 0,.bool a.2.2.2.2.2.1,.bool a.2.2.2.2.2.2]∧Gl (.iface 141 (.agg #[.pointer (some ⟨4,24,none⟩)])) a0 az∧[10,11,12,13,14,15,2,3,4,7,1000000].map f=[.int .i64 W,.slice I y.length F,.int .i64 P,.string Y,.bool de,.int .i64 cc,.int .i64 G,.pointer (some ⟨J,0,none⟩),.pointer (some ⟨A,0,none⟩),.bool K,enc []]) N ⟨_,_,0,_,rfl,hm,b,t,g,j,k,s,hgl,rfl⟩ ?_;clear hm;intro n f az hI;obtain ⟨a0,de,cc,be,hn,hm,b,t,g,j,k,s,hgl,hs⟩:=hI;subst hn;refine .lL [10,11,12,13,14,15,2,3,4,7,1000000] hs ?_
    cases be with
    | zero=>rw [Qh.eq_1] at hm;cases hm
    | succ be=>
     rw [Qh.eq_2] at hm;refine go ?_;refine Zz s ?_;refine go ?_;refine Zm hm (fun hb hm=>?_) fun hb hm=>go ?_
     ·refine Z1<|Zo ?_;refine Wp.cutK [] (fun f a1=>∃ a2 df,Zdx cc (Qh N a W y P (U9 N o G K a X) Y be) df=some r∧St w0 (Zi col) a2 a1∧Zc Za.str 9 6 a2 a1 I F y∧Ze 45 1 a2 a1 J #[.string o.1,.slice ac o.2.1.length ad,.slice ae o.2.2.1.length af,.slice ag o.2.2.2.1.length ah,.slice ai o.2.2.2.2.length aj]∧Zc (Za.pair Za.str Za.str) 56 3 a2 a1 B C a.2.1.2∧Zc (Za.pair Za.str Za.str) 56 4 a2 a1 D E a.2.2.1.2∧Ze 50 2 a2 a1 A #[.int .i8 a.1,.slice B ((a.2.1.2.take a.2.1.1).length) C,.slice D ((a.2.2.1.2.take a.2.2.1.1).length) E,.int .i8 1,.slice none (([]:List ByteArray).length) 0,.bool a.2.2.2.2.2.1,.bool a.2.2.2.2.2.2]∧Gl (.iface 141 (.agg #[.pointer (some ⟨4,24,none⟩)])) a2 a1∧[10,11,12,13,14,15,2,3,4,7,1000000].map f=[.int .i64 W,.slice I y.length F,.int .i64 P,.string Y,.bool df,.int .i64 cc,.int .i64 G,.pointer (some ⟨J,0,none⟩),.pointer (some ⟨A,0,none⟩),.bool K,enc []]) ?_ ?_
      ·intro f a1 O;obtain ⟨a2,df,hm,b,t,g,j,k,s,hgl,hs⟩:=O;rw [Zdx.eq_1] at hm;refine .lL [10,11,12,13,14,15,2,3,4,7,1000000] hs<|go ?_;exact ⟨be,by omega,rfl,⟨_,_,_,_,rfl,hm,b,t,g,j,k,s,hgl,rfl⟩⟩
      refine go ?_;refine Z7 hm (fun dg hm=>go ?_) fun dg hm=>go ?_
      ·refine Zv ⟨_,_,rfl⟩ ?_;refine go ?_;refine lW ((s.atN).nth (q:=1) rfl)<|go ?_;obtain ⟨fc,cr,hm⟩:=bZ hm;refine lI cr ((j.take a.2.1.1).addr cr) ?_;refine go ?_;refine Zv (V7 ((j.take a.2.1.1).addr cr)) ?_;refine go ?_;obtain ⟨_,fd,fe⟩:=(j.take a.2.1.1).atN cr;obtain ⟨_,_,rfl,ff,fg⟩:=fd.parts;obtain rfl:=ff.str;obtain rfl:=fg.str;refine lW ((fe).nth (q:=0) rfl)<|go ?_;refine lV (.bool (!decide (fc.1=Y))) (Zx (congrArg Value.bool dg) rfl)<|go ?_;exact ⟨rfl,_,_,hm,b,t,g,j,k,s,hgl,rfl⟩
      refine lV (.bool false) (Z0 (congrArg Value.bool dg) rfl)<|go ?_;exact ⟨rfl,_,_,hm,b,t,g,j,k,s,hgl,rfl⟩
     refine Z6 [] (fun n f a3=>∃ an dh cd bf,bf=n∧Qi N a W y P (U9 N o G K a X) Y bf dh cd=some r∧St w0 (Zi col) an a3∧Zc Za.str 9 6 an a3 I F y∧Ze 45 1 an a3 J #[.string o.1,.slice ac o.2.1.length ad,.slice ae o.2.2.1.length af,.slice ag o.2.2.2.1.length ah,.slice ai o.2.2.2.2.length aj]∧Zc (Za.pair Za.str Za.str) 56 3 an a3 B C a.2.1.2∧Zc (Za.pair Za.str Za.str) 56 4 an a3 D E a.2.2.1.2∧Ze 50 2 an a3 A #[.int .i8 a.1,.slice B ((a.2.1.2.take a.2.1.1).length) C,.slice D ((a.2.2.1.2.take a.2.2.1.1).length) E,.int .i8 1,.slice none (([]:List ByteArray).length) 0,.bool a.2.2.2.2.2.1,.bool a.2.2.2.2.2.2]∧Gl (.iface 141 (.agg #[.pointer (some ⟨4,24,none⟩)])) an a3∧[10,11,12,13,14,16,2,3,4,7,1000000].map f=[.int .i64 W,.slice I y.length F,.int .i64 P,.string Y,.bool dh,.int .i64 cd,.int .i64 G,.pointer (some ⟨J,0,none⟩),.pointer (some ⟨A,0,none⟩),.bool K,enc []]) N ⟨_,_,0,_,rfl,hm,b,t,g,j,k,s,hgl,rfl⟩ ?_;clear hm;intro n f a3 hI;obtain ⟨an,dh,cd,bf,hn,hm,b,t,g,j,k,s,hgl,hs⟩:=hI;subst hn;refine .lL [10,11,12,13,14,16,2,3,4,7,1000000] hs ?_
     cases bf with
     | zero=>rw [Qi.eq_1] at hm;cases hm
     | succ bf=>
      rw [Qi.eq_2] at hm;refine go ?_;refine Zz s ?_;refine go ?_;refine Zm hm (fun hb hm=>?_) fun hb hm=>go ?_
      ·refine Z1<|Zo ?_;refine Wp.cutK [] (fun f a4=>∃ a5 di,Zdy cd (Qi N a W y P (U9 N o G K a X) Y bf) di=some r∧St w0 (Zi col) a5 a4∧Zc Za.str 9 6 a5 a4 I F y∧Ze 45 1 a5 a4 J #[.string o.1,.slice ac o.2.1.length ad,.slice ae o.2.2.1.length af,.slice ag o.2.2.2.1.length ah,.slice ai o.2.2.2.2.length aj]∧Zc (Za.pair Za.str Za.str) 56 3 a5 a4 B C a.2.1.2∧Zc (Za.pair Za.str Za.str) 56 4 a5 a4 D E a.2.2.1.2∧Ze 50 2 a5 a4 A #[.int .i8 a.1,.slice B ((a.2.1.2.take a.2.1.1).length) C,.slice D ((a.2.2.1.2.take a.2.2.1.1).length) E,.int .i8 1,.slice none (([]:List ByteArray).length) 0,.bool a.2.2.2.2.2.1,.bool a.2.2.2.2.2.2]∧Gl (.iface 141 (.agg #[.pointer (some ⟨4,24,none⟩)])) a5 a4∧[10,11,12,13,14,16,2,3,4,7,1000000].map f=[.int .i64 W,.slice I y.length F,.int .i64 P,.string Y,.bool di,.int .i64 cd,.int .i64 G,.pointer (some ⟨J,0,none⟩),.pointer (some ⟨A,0,none⟩),.bool K,enc []]) ?_ ?_
       ·intro f a4 O;obtain ⟨a5,di,hm,b,t,g,j,k,s,hgl,hs⟩:=O;rw [Zdy.eq_1] at hm;refine .lL [10,11,12,13,14,16,2,3,4,7,1000000] hs<|go ?_;exact ⟨bf,by omega,rfl,⟨_,_,_,_,rfl,hm,b,t,g,j,k,s,hgl,rfl⟩⟩
       refine go ?_;refine Z7 hm (fun dj hm=>go ?_) fun dj hm=>go ?_
       ·refine Zv ⟨_,_,rfl⟩ ?_;refine go ?_;refine lW ((s.atN).nth (q:=2) rfl)<|go ?_;obtain ⟨fh,ct,hm⟩:=bZ hm;refine lI ct ((k.take a.2.2.1.1).addr ct) ?_;refine go ?_;refine Zv (V7 ((k.take a.2.2.1.1).addr ct)) ?_;refine go ?_;obtain ⟨_,fi,fj⟩:=(k.take a.2.2.1.1).atN ct;obtain ⟨_,_,rfl,fk,fl⟩:=fi.parts;obtain rfl:=fk.str;obtain rfl:=fl.str;refine lW ((fj).nth (q:=0) rfl)<|go ?_;refine lV (.bool (!decide (fh.1=Y))) (Zx (congrArg Value.bool dj) rfl)<|go ?_;exact ⟨rfl,_,_,hm,b,t,g,j,k,s,hgl,rfl⟩
       refine lV (.bool false) (Z0 (congrArg Value.bool dj) rfl)<|go ?_;exact ⟨rfl,_,_,hm,b,t,g,j,k,s,hgl,rfl⟩
      refine Zm hm (fun hb hm=>go ?_) fun hb hm=>go ?_
      ·refine Ui (col:=an) ([Y]:List ByteArray) 7 ?_;intro g6 g7 g8 bg fm;obtain ⟨fn,hm⟩:=Zt hm;replace t:=t.gr bg;refine Wy t (fm.srcN NB.str) fn ?_;intro g9 ha hc hd bt fp;refine go ?_;replace j:=(j.gr bg).kpp bt;replace k:=(k.gr bg).kpp bt;replace hgl:=(hgl.gr bg).kpp bt;replace g:=(g.gr bg).kpp bt;replace s:=(s.gr bg).kpp bt;replace b:=(b.grow bg).kpp bt;exact ⟨rfl,_,_,_,_,_,hm,b,fp,g,j,k,s,hgl,rfl⟩
      exact ⟨rfl,_,_,_,_,_,hm,b,t,g,j,k,s,hgl,rfl⟩
   refine Zv ⟨_,_,rfl⟩ ?_;refine Xj (off:=3) (v:=(.int .i8 2)) s sizeOf46 rfl rfl (by intro u hu;simp only [Value.cells,List.mem_cons,List.not_mem_nil,or_false] at hu;subst hu;rfl) rfl rfl ?_;intro ef bu fq bv;replace bv:Ze 50 2 H ef A #[.int .i8 a.1,.slice B ((a.2.1.2.take a.2.1.1).length) C,.slice D ((a.2.2.1.2.take a.2.2.1.1).length) E,.int .i8 2,.slice none (([]:List ByteArray).length) 0,.bool a.2.2.2.2.2.1,.bool a.2.2.2.2.2.2]:=bv;refine go ?_;replace g:=g.kp bu;refine lV _ (Xx isAgg45 sizeOf45 g)<|lV _ (Xx isAgg50 sizeOf50 bv) ?_;obtain ⟨he,fr,hm⟩:=bZ hm;replace j:=j.kp bu;replace k:=k.kp bu;replace b:=b.kp bu fq;refine Zh (Zad fr (((S.ks b).froz 3).froz 4) (((T.ks b).froz 3).froz 4) (((U.ks b).froz 3).froz 4) (((V.ks b).froz 3).froz 4) (((j.take a.2.1.1).toSlF (Zk.pair Zk.str Zk.str)).froz 4) (((k.take a.2.2.1.1).froz 3 (by decide)).toSlF (Zk.pair Zk.str Zk.str)) Sl.nil) ?_;rintro _ ft ⟨rfl,ao⟩;refine ⟨_,rfl,?_⟩;replace ao:Zg H ef H ft:=.of_below ao;refine go ?_;replace t:=(t.kp bu).gr ao;replace hgl:=(hgl.kp bu).gr ao;replace j:=j.gr ao;replace k:=k.gr ao;replace g:=g.gr ao;replace bv:=bv.gr ao;replace b:=b.grow ao;refine Zm hm (fun hb hm=>go ?_) fun hb hm=>go ?_
   ·cases hm;exact ⟨rfl,rfl,b.below⟩
   refine Zv ⟨_,_,rfl⟩ ?_;refine Xj (off:=3) (v:=(.int .i8 3)) bv sizeOf46 rfl rfl (by intro u hu;simp only [Value.cells,List.mem_cons,List.not_mem_nil,or_false] at hu;subst hu;rfl) rfl rfl ?_;intro fu bw fv dl;replace dl:Ze 50 2 H fu A #[.int .i8 a.1,.slice B ((a.2.1.2.take a.2.1.1).length) C,.slice D ((a.2.2.1.2.take a.2.2.1.1).length) E,.int .i8 3,.slice none (([]:List ByteArray).length) 0,.bool a.2.2.2.2.2.1,.bool a.2.2.2.2.2.2]:=dl;refine go ?_;refine Zv ⟨_,_,rfl⟩ ?_;refine Xj (off:=4) (v:=(.slice I y.length F)) dl sizeOf40 rfl rfl (by intro u hu;simp only [Value.cells,List.mem_cons,List.not_mem_nil,or_false] at hu;subst hu;rfl) rfl rfl ?_;intro eg bx fw Z;replace Z:Ze 50 2 H eg A #[.int .i8 a.1,.slice B ((a.2.1.2.take a.2.1.1).length) C,.slice D ((a.2.2.1.2.take a.2.2.1.1).length) E,.int .i8 3,.slice I y.length F,.bool a.2.2.2.2.2.1,.bool a.2.2.2.2.2.2]:=Z;refine go ?_;replace g:=(g.kp bw).kp bx;refine lV _ (Xx isAgg45 sizeOf45 g)<|lV _ (Xx isAgg50 sizeOf50 Z) ?_;obtain ⟨hf,fx,hm⟩:=bZ hm;replace t:=(t.kp bw).kp bx;replace j:=(j.kp bw).kp bx;replace k:=(k.kp bw).kp bx;replace b:=(b.kp bw fv).kp bx fw;refine Zh (Zad fx ((((S.ks b).froz 3).froz 4).froz 6) ((((T.ks b).froz 3).froz 4).froz 6) ((((U.ks b).froz 3).froz 4).froz 6) ((((V.ks b).froz 3).froz 4).froz 6) ((((j.take a.2.1.1).toSlF (Zk.pair Zk.str Zk.str)).froz 4).froz 6) ((((k.take a.2.2.1.1).froz 3 (by decide)).toSlF (Zk.pair Zk.str Zk.str)).froz 6) (((t.froz 3 (by decide)).froz 4 (by decide)).toSlF Zk.str)) ?_;rintro _ fy ⟨rfl,ap⟩;refine ⟨_,rfl,?_⟩;replace ap:Zg H eg H fy:=.of_below ap;refine go ?_;replace hgl:=((hgl.kp bw).kp bx).gr ap;replace t:=t.gr ap;replace j:=j.gr ap;replace k:=k.gr ap;replace g:=g.gr ap;replace Z:=Z.gr ap;replace b:=b.grow ap;refine Zm hm (fun hb hm=>go ?_) fun hb hm=>go ?_
   ·cases hm;exact ⟨rfl,rfl,b.below⟩
   obtain ⟨f0,hm⟩:=Zt hm;refine Wy (c:=8) Zc.nil (t.srcN NB.str) f0 ?_;intro hg hh hi f1 bh dm;refine go ?_;refine Zv ⟨_,_,rfl⟩ ?_;replace Z:=Z.kpp bh;refine lW ((Z.atN).nth (q:=1) rfl) ?_;obtain ⟨dn,cu,hm⟩:=bZ hm;replace j:=j.kpp bh;refine lI cu ((j.take a.2.1.1).addr cu)<|Zv (V7 ((j.take a.2.1.1).addr cu)) ?_;obtain ⟨_,f2,f3⟩:=(j.take a.2.1.1).atN cu;obtain ⟨_,_,rfl,f4,f5⟩:=f2.parts;obtain rfl:=f4.str;obtain rfl:=f5.str;refine lW ((f3).nth (q:=0) rfl)<|Ui (col:=f1) ([dn.1]:List ByteArray) 9 ?_;intro hj hk hl a6 f6;obtain ⟨f7,hm⟩:=Zt hm;replace dm:=dm.gr a6;refine Wy dm (f6.srcN NB.str) f7 ?_;intro eh ei ho bz bi b0;refine Zv ⟨_,_,rfl⟩ ?_;replace Z:=(Z.gr a6).kpp bi;refine Xj (off:=4) (v:=(.slice eh (((([]:List ByteArray)++y)++([dn.1]:List ByteArray)).length) ei)) Z sizeOf40 rfl rfl (by intro u hu;simp only [Value.cells,List.mem_cons,List.not_mem_nil,or_false] at hu;subst hu;rfl) rfl rfl ?_;intro ej bj f8 aa;replace aa:Ze 50 2 bz ej A #[.int .i8 a.1,.slice B ((a.2.1.2.take a.2.1.1).length) C,.slice D ((a.2.2.1.2.take a.2.2.1.1).length) E,.int .i8 3,(.slice eh (((([]:List ByteArray)++y)++([dn.1]:List ByteArray)).length) ei),.bool a.2.2.2.2.2.1,.bool a.2.2.2.2.2.2]:=aa;refine go ?_;replace g:=(((g.kpp bh).gr a6).kpp bi).kp bj;refine lV _ (Xx isAgg45 sizeOf45 g)<|lV _ (Xx isAgg50 sizeOf50 aa) ?_;obtain ⟨hp,f9,hm⟩:=bZ hm;replace k:=(((k.kpp bh).gr a6).kpp bi).kp bj;replace b:=(((b.kpp bh).grow a6).kpp bi).kp bj f8;replace j:=((j.gr a6).kpp bi).kp bj;replace b0:=b0.kp bj;refine Zh (Zad f9 ((((S.ks b).froz 3).froz 4).froz 8) ((((T.ks b).froz 3).froz 4).froz 8) ((((U.ks b).froz 3).froz 4).froz 8) ((((V.ks b).froz 3).froz 4).froz 8) ((((j.take a.2.1.1).toSlF (Zk.pair Zk.str Zk.str)).froz 4).froz 8) ((((k.take a.2.2.1.1).froz 3 (by decide)).toSlF (Zk.pair Zk.str Zk.str)).froz 8) (((b0.froz 3 (by decide)).froz 4 (by decide)).toSlF Zk.str)) ?_;rintro _ ga ⟨rfl,ak⟩
   refine ⟨_,rfl,?_⟩;replace ak:Zg bz ej bz ga:=.of_below ak;refine go ?_;replace t:=((((t.kpp bh).gr a6).kpp bi).kp bj).gr ak;replace hgl:=((((hgl.kpp bh).gr a6).kpp bi).kp bj).gr ak;replace j:=j.gr ak;replace k:=k.gr ak;replace b0:=b0.gr ak;replace g:=g.gr ak;replace aa:=aa.gr ak;replace b:=b.grow ak;refine Zm hm (fun hb hm=>go ?_) fun hb hm=>?_
   ·cases hm;exact ⟨rfl,rfl,b.below⟩
   refine Z1<|Zo ?_;refine Wp.cutK [] (fun f a7=>∃ M ce cf cg b1 cv cw bk dp ch ci b2 cj ck,Zdz N o K ce b1 bk dp b2 cj ck=some r∧St w0 (Zi col) M a7∧Ze 45 1 M a7 J #[.string o.1,.slice ac o.2.1.length ad,.slice ae o.2.2.1.length af,.slice ag o.2.2.2.1.length ah,.slice ai o.2.2.2.2.length aj]∧Zc (Za.pair Za.str Za.str) 56 3 M a7 cf cg b1∧Zc (Za.pair Za.str Za.str) 56 4 M a7 cv cw bk∧Zc Za.str 9 8 M a7 ch ci b2∧Ze 50 2 M a7 A #[.int .i8 ce,.slice cf b1.length cg,.slice cv bk.length cw,.int .i8 dp,.slice ch b2.length ci,.bool cj,.bool ck]∧Gl (.iface 141 (.agg #[.pointer (some ⟨4,24,none⟩)])) M a7∧[3,4,7,1000000].map f=[.pointer (some ⟨J,0,none⟩),.pointer (some ⟨A,0,none⟩),.bool K,enc []]) ?_ ?_
   ·intro f a7 O;obtain ⟨M,ce,cf,cg,b1,cv,cw,bk,dp,ch,ci,b2,cj,ck,hm,b,g,Q,cl,aq,aa,hgl,hs⟩:=O;rw [Zdz.eq_1] at hm;refine .lL [3,4,7,1000000] hs<|go ?_;refine Zv ⟨_,_,rfl⟩ ?_;refine Xj (off:=3) (v:=(.int .i8 1)) aa sizeOf46 rfl rfl (by intro u hu;simp only [Value.cells,List.mem_cons,List.not_mem_nil,or_false] at hu;subst hu;rfl) rfl rfl ?_;intro gb b3 gc ab;replace ab:Ze 50 2 M gb A #[.int .i8 ce,.slice cf b1.length cg,.slice cv bk.length cw,.int .i8 1,.slice ch b2.length ci,.bool cj,.bool ck]:=ab;refine go ?_;refine Vl (col:=M) [(0,1),(1,0),(2,1),(3,0),(4,1),(5,0),(6,3),(7,2),(8,1),(9,2)] (by kernel_rfl) (by kernel_rfl)<|xF ⟨_,_,rfl⟩ ?_;refine xW (fun _ p=>((ab.atN).nth (q:=2) rfl).gr (p.bl M)) ?_;refine xF ⟨_,_,rfl⟩ ?_;refine xW (fun _ p=>((ab.atN).nth (q:=1) rfl).gr (p.bl M)) ?_;obtain ⟨L,cx,hm⟩:=bZ hm;replace Q:=Q.kp b3;refine xu rfl rfl (fun _=>V1 underlying47 sizeOf56 rfl rfl (Yb cx).1 (Yb cx).2.1 (Q.addr cx)) ?_;obtain ⟨_,gd,ge⟩:=Q.atN cx;obtain ⟨_,_,rfl,gf,gg⟩:=gd.parts;obtain rfl:=gf.str;obtain rfl:=gg.str;refine xv (v:=(.agg #[.string L.1,.string L.2])) rfl rfl (fun _ p=>W9 isAgg56 sizeOf56 rfl rfl (ge.gr (p.bl M))) ?_;refine xe rfl rfl ?_;intro hq hC0;have p:=hC0.bl M;refine Ux (col:=M) (r:=(Za.pair Za.str Za.str)) (xs:=[(L.1,L.2)]) [(.agg #[.string L.1,.string L.2])] 10 (Yr.ofF (Rows.consF (r:=(Za.pair Za.str Za.str)) (x:=(L.1,L.2)) (cs:=[.string L.1,.string L.2]) (W5 (Vj L.1) (Vj L.2)) Rows.nil0)) ?_;intro hr ht dq a8 dr;refine Zj<|Ww dq hC0 a8<|xe rfl rfl ?_;intro gh hC0;replace cl:=((cl.kp b3).gr p).gr a8;replace aq:=((aq.kp b3).gr p).gr a8;replace hgl:=((hgl.kp b3).gr p).gr a8;replace g:=((g.kp b3).gr p).gr a8;replace b:=((b.kp b3 gc).grow p).grow a8;replace Q:=(Q.gr p).gr a8;replace ab:=(ab.gr p).gr a8;have p:=hC0.bl dq;obtain ⟨ek,hm⟩:=Zt hm;replace cl:=cl.gr p;replace dr:=dr.gr p;refine Qd (col:=dq) (w:=gh) (r:=(Za.pair Za.str Za.str)) (c:=4) (c2:=4) (cl.ex) (dr.srcN (NB.pair NB.str NB.str)) rfl underlying47 Zzw rfl rfl rfl ek.1 ek.2 (by decide) ?_;intro el em hv bm b4 ds;refine Zj<|xk bm<|xF ⟨_,_,rfl⟩ ?_;refine xe rfl rfl ?_;intro hw hC0
    replace Q:=(Q.gr p).kpp b4;replace aq:=(aq.gr p).kpp b4;replace hgl:=(hgl.gr p).kpp b4;replace g:=(g.gr p).kpp b4;replace ab:=(ab.gr p).kpp b4;replace b:=(b.grow p).kpp b4;have p:=hC0.bl bm;replace ab:=ab.gr p;refine Xj (off:=2) (v:=(.slice el ((bk++[(L.1,L.2)]).length) em)) ab sizeOf47 rfl rfl (by intro u hu;simp only [Value.cells,List.mem_cons,List.not_mem_nil,or_false] at hu;subst hu;rfl) rfl rfl ?_;intro gi b5 gj cn;replace cn:Ze 50 2 bm gi A #[.int .i8 ce,.slice cf b1.length cg,.slice el ((bk++[(L.1,L.2)]).length) em,.int .i8 1,.slice ch b2.length ci,.bool cj,.bool ck]:=cn;refine Zj<|xk bm ?_;replace ds:=(ds.gr p).kp b5;have dt:=ds.new;refine W6 ?_;replace Q:=(Q.gr p).kp b5;replace aq:=(aq.gr p).kp b5;replace hgl:=(hgl.gr p).kp b5;replace g:=(g.gr p).kp b5;replace b:=(b.grow p).kp b5 gj;intro gk p;replace p:=p.bl bm;refine Zo ?_;replace Q:=Q.gr p;replace dt:=dt.gr p;replace aq:=aq.gr p;replace hgl:=hgl.gr p;replace g:=g.gr p;replace cn:=cn.gr p;replace b:=b.grow p;refine Wp.cutK [] (fun f du=>∃ dv dw,Zgj dw=some r∧St w0 (Zi col) dv du∧Gl (.iface 141 (.agg #[.pointer (some ⟨4,24,none⟩)])) dv du∧[6,1000000].map f=[.bool dw,enc []]) ?_ ?_
    ·intro f du O;obtain ⟨dv,dw,hm,b,hgl,hs⟩:=O;rw [Zgj.eq_1] at hm;refine .lL [6,1000000] hs<|W0 ?_;cases hm;exact ⟨rfl,rfl,b.below⟩
    refine go ?_;refine Z7 hm (fun dx hm=>go ?_) fun dx hm=>go ?_
    ·refine lV _ (Xx isAgg45 sizeOf45 g)<|go ?_;refine lV _ (Xx isAgg50 sizeOf50 cn)<|go ?_;obtain ⟨gl,gm,hm⟩:=bZ hm;refine Zh (Zad gm ((((S.ks b).froz 3).froz 4).froz 8) ((((T.ks b).froz 3).froz 4).froz 8) ((((U.ks b).froz 3).froz 4).froz 8) ((((V.ks b).froz 3).froz 4).froz 8) (((Q.toSlF (Zk.pair Zk.str Zk.str)).froz 4).froz 8) (((dt.froz 3 (by decide)).toSlF (Zk.pair Zk.str Zk.str)).froz 8) (((aq.froz 3 (by decide)).froz 4 (by decide)).toSlF Zk.str)) ?_;rintro _ gp ⟨rfl,cy⟩;refine ⟨_,rfl,?_⟩;replace cy:Zg bm gk bm gp:=.of_below cy;refine go ?_;refine lV (.bool (decide (gl=50))) (Zx (congrArg Value.bool dx) rfl)<|go ?_;replace hgl:=hgl.gr cy;replace b:=b.grow cy;exact ⟨rfl,_,_,hm,b,hgl,rfl⟩
    refine lV (.bool false) (Z0 (congrArg Value.bool dx) rfl)<|go ?_;exact ⟨rfl,_,_,hm,b,hgl,rfl⟩
   refine go ?_;refine Zm hm (fun hb hm=>go ?_) fun hb hm=>?_
   ·obtain ⟨en,hm⟩:=Zt hm;replace t:=(t).toSlF Zk.str;replace j:=j.froz 6 (by decide);replace k:=k.froz 6 (by decide);replace hgl:=hgl.froz 6;replace g:=g.froz 6 (by decide);replace aa:=aa.froz 6 (by decide);replace b:=b.froz 6 (by decide) (by decide);have dy:=t.drop (sz:=1) rfl (Int.toNat 1);refine lv (v:=.slice (if F=(Int.toNat 1) then I else I.map (·.add ((Int.toNat 1) * 1))) (y.length - (Int.toNat 1)) (F - (Int.toNat 1))) rfl rfl (Zt4 underlying40 sizeOf9 rfl rfl en.1 en.2) ?_;generalize (if F=(Int.toNat 1) then I else I.map (·.add ((Int.toNat 1) * 1)))=cz at *;refine .ld (d:=133) (v:=(.slice cz ((y.drop (Int.toNat 1)).length) (F - (Int.toNat 1)))) (congrArg (fun n=>Value.slice cz n (F - (Int.toNat 1))) (List.length_drop (i:=(Int.toNat 1)) (l:=y)).symm) ?_;refine Zv ⟨_,_,rfl⟩ ?_;refine Xj (off:=4) (v:=(.slice cz ((y.drop (Int.toNat 1)).length) (F - (Int.toNat 1)))) aa sizeOf40 rfl rfl (by intro u hu;simp only [Value.cells,List.mem_cons,List.not_mem_nil,or_false] at hu;subst hu;rfl) rfl rfl ?_;intro eo bn gs a9;replace a9:Ze 50 2 (Yi 6 bz) eo A #[.int .i8 a.1,.slice B ((a.2.1.2.take a.2.1.1).length) C,.slice D ((a.2.2.1.2.take a.2.2.1.1).length) E,.int .i8 3,.slice cz ((y.drop (Int.toNat 1)).length) (F - (Int.toNat 1)),.bool a.2.2.2.2.2.1,.bool a.2.2.2.2.2.2]:=a9;refine go ?_;replace g:=g.kp bn;refine lV _ (Xx isAgg45 sizeOf45 g)<|lV _ (Xx isAgg50 sizeOf50 a9) ?_;obtain ⟨hx,gt,hm⟩:=bZ hm;replace j:=j.kp bn;replace k:=k.kp bn;replace dy:=dy.kp bn;replace b:=b.kp bn gs;refine Zh (Zad gt (((S.ks b).froz 3).froz 4) (((T.ks b).froz 3).froz 4) (((U.ks b).froz 3).froz 4) (((V.ks b).froz 3).froz 4) (((j.take a.2.1.1).toSlF (Zk.pair Zk.str Zk.str)).froz 4) (((k.take a.2.2.1.1).froz 3 (by decide)).toSlF (Zk.pair Zk.str Zk.str)) ((dy.froz 3).froz 4)) ?_;rintro _ gu ⟨rfl,ar⟩;refine ⟨_,rfl,?_⟩;replace ar:Zg (Yi 6 bz) eo (Yi 6 bz) gu:=.of_below ar;refine go ?_;replace t:=(t.kp bn).gr ar;replace hgl:=(hgl.kp bn).gr ar;replace j:=j.gr ar;replace k:=k.gr ar;replace g:=g.gr ar
    replace a9:=a9.gr ar;replace b:=b.grow ar;refine Zm hm (fun hb hm=>go ?_) fun hb hm=>go ?_
    ·cases hm;exact ⟨rfl,rfl,b.below⟩
    obtain ⟨gv,hm⟩:=Zt hm;refine Wy (c:=11) Zc.nil t.srcC gv ?_;intro hy hz h0 gw bo dz;refine go ?_;obtain ⟨d0,d1,hm⟩:=bZ hm;replace t:=t.kpp bo;refine lI d1 (t.addr d1)<|lW (t.atStr d1)<|Ui (col:=gw) ([d0]:List ByteArray) 12 ?_;intro h1 h2 h3 bp gx;obtain ⟨gy,hm⟩:=Zt hm;replace dz:=dz.gr bp;refine Wy dz (gx.srcN NB.str) gy ?_;intro ep eq h4 d2 b6 ba;refine Zv ⟨_,_,rfl⟩ ?_;replace a9:=((a9.kpp bo).gr bp).kpp b6;refine Xj (off:=4) (v:=(.slice ep (((([]:List ByteArray)++y)++([d0]:List ByteArray)).length) eq)) a9 sizeOf40 rfl rfl (by intro u hu;simp only [Value.cells,List.mem_cons,List.not_mem_nil,or_false] at hu;subst hu;rfl) rfl rfl ?_;intro er b7 gz bb;replace bb:Ze 50 2 d2 er A #[.int .i8 a.1,.slice B ((a.2.1.2.take a.2.1.1).length) C,.slice D ((a.2.2.1.2.take a.2.2.1.1).length) E,.int .i8 3,(.slice ep (((([]:List ByteArray)++y)++([d0]:List ByteArray)).length) eq),.bool a.2.2.2.2.2.1,.bool a.2.2.2.2.2.2]:=bb;refine go ?_;replace g:=(((g.kpp bo).gr bp).kpp b6).kp b7;refine lV _ (Xx isAgg45 sizeOf45 g)<|lV _ (Xx isAgg50 sizeOf50 bb) ?_;obtain ⟨h5,g0,hm⟩:=bZ hm;replace j:=(((j.kpp bo).gr bp).kpp b6).kp b7;replace k:=(((k.kpp bo).gr bp).kpp b6).kp b7;replace b:=(((b.kpp bo).grow bp).kpp b6).kp b7 gz;replace ba:=ba.kp b7;refine Zh (Zad g0 ((((S.ks b).froz 3).froz 4).froz 11) ((((T.ks b).froz 3).froz 4).froz 11) ((((U.ks b).froz 3).froz 4).froz 11) ((((V.ks b).froz 3).froz 4).froz 11) ((((j.take a.2.1.1).toSlF (Zk.pair Zk.str Zk.str)).froz 4).froz 11) ((((k.take a.2.2.1.1).froz 3 (by decide)).toSlF (Zk.pair Zk.str Zk.str)).froz 11) (((ba.froz 3 (by decide)).froz 4 (by decide)).toSlF Zk.str)) ?_;rintro _ g1 ⟨rfl,au⟩;refine ⟨_,rfl,?_⟩;replace au:Zg d2 er d2 g1:=.of_below au;refine go ?_;replace hgl:=((((hgl.kpp bo).gr bp).kpp b6).kp b7).gr au;replace j:=j.gr au;replace k:=k.gr au;replace ba:=ba.gr au;replace g:=g.gr au;replace bb:=bb.gr au
    replace b:=b.grow au;refine Zm hm (fun hb hm=>go ?_) fun hb hm=>?_
    ·cases hm;exact ⟨rfl,rfl,b.below⟩
    refine Z1 ?_;replace j:=j.recol 11 8 (by decide);replace k:=k.recol 11 8 (by decide);replace ba:=ba.recolSelf 8 (by decide);replace hgl:=hgl.recol 11 8 (by decide);replace g:=g.recol 11 8 (by decide);replace bb:=bb.recol 11 8 (by decide);replace b:=b.recol 11 8 (by decide) (by decide);exact ⟨rfl,_,_,_,_,_,_,_,_,3,_,_,_,_,_,hm,b,g,(j.take a.2.1.1),(k.take a.2.2.1.1),ba,bb,hgl,rfl⟩
   refine Z1 ?_;exact ⟨rfl,_,_,_,_,_,_,_,_,3,_,_,_,_,_,hm,b,g,(j.take a.2.1.1),(k.take a.2.2.1.1),b0,aa,hgl,rfl⟩
 refine go ?_;refine Z7 hm (fun d3 hm=>go ?_) fun d3 hm=>go ?_
 ·refine lV (.bool true) (Zx (congrArg Value.bool d3) rfl)<|Zj ?_;exact ⟨rfl,_,_,hm,b,g,j,k,s,hgl,rfl⟩
 refine lV (.bool (!cb)) (Z0 (congrArg Value.bool d3) rfl)<|Zj ?_;exact ⟨rfl,_,_,hm,b,g,j,k,s,hgl,rfl⟩
theorem nD {p:Prop} [Decidable p] (h:¬ p):¬ decide p=true:=fun e=>h (of_decide_eq_true e)
/-! ### what is taken -/
theorem Zjj:∀ {A B:List ByteArray},A.Nodup→(∀ x ∈ A,x ∈ B)→A.length≤B.length
 | [],B,_,_=>Nat.zero_le _
 | a :: A,B,h,hs=>by
  obtain ⟨h1,h2⟩:=List.nodup_cons.1 h
  obtain ⟨B1,B2,rfl⟩:=List.append_of_mem (hs a List.mem_cons_self)
  have:=Zjj (A:=A) (B:=B1++B2) h2 fun x hx=>by
   have:=hs x (List.mem_cons_of_mem _ hx)
   simp only [List.mem_append,List.mem_cons] at this ⊢
   rcases this with h | rfl | h
   ·exact .inl h
   ·exact absurd hx h1
   ·exact .inr h
  simp only [List.length_append,List.length_cons] at this ⊢
  omega
def Vu:List ByteArray→Nat→List (ByteArray×Int)→List (ByteArray×Int)
 | [],_,es=>es
 | x :: l,k,es=>Vu l (k+1) (Yx es x (k:Int))
section
variable {n:Wn}
theorem Zma (q:Vb):∀ (l:List ByteArray) (k:Nat) (es:List (ByteArray×Int)),S1 n q l k es=S1 n q [] (k+l.length) (Vu l k es)
 | [],k,es=>rfl
 | x :: l,k,es=>by rw [S1.eq_2,Option.bind_some,Zma q l,Vu,List.length_cons,Nat.add_right_comm,Nat.add_assoc]
theorem Zfv (hn:n.2.1.Nodup):∀ (l:List ByteArray) (k:Nat) (es:List (ByteArray×Int)),n.2.1.drop k=l→k≤n.2.1.length→S9 n.2.1 es k→S9 n.2.1 (Vu l k es) n.2.1.length
 | [],k,es,hd,hk,ha=>by
  have hkl:k=n.2.1.length:=by
   rcases Nat.lt_or_ge k n.2.1.length with h | h
   ·rw [List.drop_eq_getElem_cons h] at hd;cases hd
   ·omega
  subst hkl
  exact ha
 | x :: l,k,es,hd,hk,ha=>by
  have hk1:k<n.2.1.length:=by
   rcases Nat.lt_or_ge k n.2.1.length with h | h
   ·exact h
   ·rw [List.drop_eq_nil_of_le h] at hd;cases hd
  have hd2:=List.drop_eq_getElem_cons hk1
  rw [hd] at hd2
  obtain ⟨hx,hl2⟩:=List.cons.inj hd2
  rw [Vu]
  refine Zfv hn l (k+1) _ hl2.symm (by omega) ⟨fun i h hik=>?_,fun y hy=>?_⟩
  ·rw [Zh4]
   by_cases he:n.2.1[i]=x
   ·have:i=k:=Zsq hn h hk1 (by rw [he,hx])
    rw [if_pos he,this]
   ·have:i≠k:=fun h2=>he (by subst h2;exact hx.symm)
    rw [if_neg he]
    exact ha.i i h (by omega)
  ·rw [List.take_add_one,List.getElem?_eq_getElem hk1,Option.toList_some,List.mem_append,List.mem_singleton,← hx] at hy
   rw [Zh4,if_neg (fun h=>hy (.inr h))]
   exact ha.o y fun h=>hy (.inl h)
variable {at_:List (ByteArray×Int)} (ha:S9 n.2.1 at_ n.2.1.length) (hnl:n.2.1.length≤1048576)
include ha hnl
theorem Zfw {x:ByteArray} (hm:x ∈ n.2.1):∃ v:Nat,∃ h:v<n.2.1.length,n.2.1[v]=x∧Xg at_ x=some (v:Int):=by
 obtain ⟨v,hv,hvx⟩:=List.mem_iff_getElem.1 hm
 have hg:=ha.i v hv (by omega)
 rw [hvx] at hg
 exact ⟨v,hv,hvx,hg⟩
theorem Zlb:∀ (l r:List ByteArray) (S:List ByteArray) (es:List (ByteArray×Int)),V9 S es→(∀ x ∈ l,x ∈ n.2.1)→(S++l).Nodup→S.length+l.length≤4194304→
  ∃ es',V9 (S++l) es'∧Uc at_ (l++r) ((n.2.1.length:Int) - (S.length:Int)) es=Uc at_ r ((n.2.1.length:Int) - ((S++l).length:Int)) es'
 | [],r,S,es,ht,hm,hn,hz=>⟨es,by rw [List.append_nil];exact ht,by rw [List.nil_append,List.append_nil]⟩
 | x :: l,r,S,es,ht,hm,hn,hz=>by
  rw [List.length_cons] at hz
  obtain ⟨v,hv,hvx,hg⟩:=Zfw ha hnl (hm x List.mem_cons_self)
  have hx:x ∉ S:=fun e=>by
   rw [List.nodup_append] at hn
   exact hn.2.2 x e x List.mem_cons_self rfl
  obtain ⟨es',h1,h2⟩:=Zlb l r (S++[x]) (Yx es x 1) (ht.put hx) (fun y hy=>hm y (List.mem_cons_of_mem _ hy)) (by rw [List.append_assoc];exact hn) (by rw [List.length_append];simp;omega)
  rw [List.append_assoc] at h1 h2
  refine ⟨es',h1,?_⟩
  rw [List.cons_append,Uc.eq_2,hg,if_neg (show ¬ (!(some (v:Int)).isSome)=true by simp),ht.g x,if_neg hx,Zes,if_neg (by decide),Option.bind_some,Z2 (by omega)]
  rw [List.length_append,List.length_singleton] at h2
  rw [show (n.2.1.length:Int) - (S.length:Int) - 1=(n.2.1.length:Int) - ((S.length+1:Nat):Int) by omega]
  exact h2
theorem Z16 {x:ByteArray} {S:List ByteArray} {es:List (ByteArray×Int)} (ht:V9 S es) (hm:x ∈ n.2.1) (hS:x ∈ S) (r:List ByteArray) (left:Int):Uc at_ (x :: r) left es=some 51:=by
 obtain ⟨v,hv,hvx,hg⟩:=Zfw ha hnl hm
 rw [Uc.eq_2,hg,if_neg (show ¬ (!(some (v:Int)).isSome)=true by simp),ht.g x,if_pos hS,Zes,if_pos (by decide)]
theorem Zte {x:ByteArray×ByteArray} {S:List ByteArray} {es:List (ByteArray×Int)} (ht:V9 S es) (hm:x.1 ∈ n.2.1) (hS:x.1 ∈ S) (r:List (ByteArray×ByteArray)) (k:Nat) {q:Vb} (hq:q.1=2):Yt n q at_ (x :: r) k es=some 50:=by
 obtain ⟨v,hv,hvx,hg⟩:=Zfw ha hnl hm
 rw [Yt.eq_2,if_neg (nD (by rw [hq];decide)),Qu,hg,if_neg (show ¬ (!(some (v:Int)).isSome)=true by simp),ht.g x.1,if_pos hS,if_pos (by decide),Uk,if_pos rfl]
theorem Ztf (hvl:n.2.2.1.length=n.2.1.length):∀ (l:List (ByteArray×ByteArray)) (k:Nat) (S:List ByteArray) (es:List (ByteArray×Int)),V9 S es→S.Nodup→
  (∃ es',V9 (S++l.map (·.1)) es'∧(S++l.map (·.1)).Nodup∧(∀ x ∈ l,x.1 ∈ n.2.1)∧∀ (q:Vb) r,q.1=2→Yt n q at_ (l++r) k es=Yt n q at_ r (k+l.length) es')∨
  (∀ (q:Vb) r,q.1=2→Yt n q at_ (l++r) k es=some 50)
 | [],k,S,es,ht,hn=>.inl ⟨es,by rw [List.map_nil,List.append_nil];exact ht,by rw [List.map_nil,List.append_nil];exact hn,fun x hx=>(by cases hx),fun q r _=>O⟩
 | x :: l,k,S,es,ht,hn=>by
  by_cases hm:x.1 ∈ n.2.1
  ·obtain ⟨v,hv,hvx,hg⟩:=Zfw ha hnl hm
   by_cases hS:x.1 ∈ S
   ·exact .inr fun q r hq=>Zte ha hnl ht hm hS _ k hq
   ·have hv2:v<n.2.2.1.length:=by omega
    have step:∀ (q:Vb) r,q.1=2→Yt n q at_ ((x :: l)++r) k es=Uk k es (Yt n q at_ (l++r)) x (!decide (x.2 ∈ n.2.2.1[v])):=by
     intro q r hq
     rw [List.cons_append,Yt.eq_2,if_neg (nD (by rw [hq];decide)),Qu,hg,if_neg (show ¬ (!(some (v:Int)).isSome)=true by simp),ht.g x.1,if_neg hS,if_neg (by decide),if_pos (by decide),Option.getD_some,Xa hv2,Option.bind_some,Zm0,Option.bind_some]
    by_cases hin:x.2 ∈ n.2.2.1[v]
    ·have hS2:(S++[x.1]).Nodup:=by
      rw [List.nodup_append]
      exact ⟨hn,by simp,fun a h1 b h2 e=>by rw [List.mem_singleton.1 h2] at e;rw [e] at h1;exact hS h1⟩
     have go:∀ (q:Vb) r,q.1=2→Yt n q at_ ((x :: l)++r) k es=Yt n q at_ (l++r) (k+1) (Yx es x.1 1):=by
      intro q r hq
      rw [step q r hq,decide_eq_true hin,Uk,if_neg (by decide),Zhb,Option.bind_some,Zha]
     rcases Ztf hvl l (k+1) (S++[x.1]) (Yx es x.1 1) (ht.put hS) hS2 with ⟨es',i1,i2,i3,i4⟩ | hb
     ·rw [List.append_assoc] at i1 i2
      refine .inl ⟨es',i1,i2,fun y hy=>?_,fun q r hq=>?_⟩
      ·rcases List.mem_cons.1 hy with rfl | hy
       ·exact hm
       ·exact i3 y hy
      ·rw [go q r hq,i4 q r hq,List.length_cons,Nat.add_right_comm,Nat.add_assoc]
     ·exact .inr fun q r hq=>by rw [go q r hq,hb q r hq]
    ·exact .inr fun q r hq=>by rw [step q r hq,decide_eq_false hin,Uk,if_pos (by decide)]
  ·have hg:=ha.o x.1 (by rw [List.take_length];exact hm)
   exact .inr fun q r hq=>by
    rw [List.cons_append,Yt.eq_2,if_neg (nD (by rw [hq];decide)),Qu,hg,if_pos (by decide),Uk,if_pos O]
end
/-! ### the test of a question of this kind -/
theorem Zqf {l:List (ByteArray×ByteArray)} (h:l.length≤1048580):Zhz l=some (([]:List (ByteArray×ByteArray))++l):=by
 rw [Zhz,Xd]
 simp only [List.length_nil,maxLen];omega
theorem Zi6 {N:Nat} {n:Wn} (h0:Tp N n=some 0) {q:Vb} (hk:q.1=2) (ha:0<q.2.1.length) (hw:q.2.2.2.1=1∨q.2.2.2.1=2∨q.2.2.2.1=3) (h1:q.2.1.length≤1048580) (h2:q.2.2.1.length≤1048580):
  Wk N n q=Yt n q (Vu n.2.1 0 []) (q.2.1++q.2.2.1) 0 []:=by
 have hfit:S4 (q.1,q.2.1,q.2.2.1,q.2.2.2.1,q.2.2.2.2.1,(q.2.2.2.2.2.1,q.2.2.2.2.2.2))=some true:=by
  rw [S4]
  dsimp only
  rw [hk,if_neg (by decide),if_pos (by decide),decide_eq_true (by omega)]
 have h0':Tp N (n.1,n.2.1,n.2.2.1,n.2.2.2.1,n.2.2.2.2)=some 0:=h0
 have fin:S0 n q (!true)=Yt n q (Vu n.2.1 0 []) (q.2.1++q.2.2.1) 0 []:=by
  rw [S0,if_neg (by decide),Zg9,Zma,S1.eq_1,Zqf h1,Option.bind_some,List.nil_append,Xd (by simp only [maxLen];omega)]
 rw [Wk,h0',Option.bind_some,if_neg (by decide)]
 rcases hw with hw | hw | hw
 ·rw [hw,if_neg (by decide),← hw,hfit,Option.bind_some];exact fin
 ·rw [hw,if_pos (by decide),if_neg (by decide),← hw,hfit,Option.bind_some];exact fin
 ·rw [hw,if_pos (by decide),if_pos (by decide),if_neg (by decide),← hw,hfit,Option.bind_some];exact fin
theorem S9.nil (l:List ByteArray):S9 l [] 0:=⟨fun i h h2=>absurd h2 (Nat.not_lt_zero _),fun x _=>rfl⟩
/-! ### the names,counted round -/
theorem Z3p (a b:Int) (hb:0<b):(if Int.tmod a b<0 then Int.tmod a b+b else Int.tmod a b)=a % b:=by
 have h1:=Int.mul_tdiv_add_tmod a b
 have h2:=Int.tmod_lt_of_pos a hb
 have h3:=Int.lt_tmod_of_pos a hb
 split
 ·rename_i h
  refine ((Int.ediv_emod_unique (q:=Int.tdiv a b - 1) hb).2 ⟨?_,by omega,by omega⟩).2.symm
  rw [Int.mul_sub,Int.mul_one];omega
 ·rename_i h
  exact ((Int.ediv_emod_unique (q:=Int.tdiv a b) hb).2 ⟨by omega,by omega,h2⟩).2.symm
def Vk (t:Int) (l v:Nat):Nat:=(((v:Int)+t) % (l:Int)).toNat
theorem Zlq {t:Int} {l:Nat} (hl:0<l) (v:Nat):Vk t l v<l:=by
 have h1:=Int.emod_nonneg ((v:Int)+t) (show (l:Int)≠0 by omega)
 have h2:=Int.emod_lt_of_pos ((v:Int)+t) (show (0:Int)<l by omega)
 rw [Vk];omega
theorem Z3d {t:Int} {l:Nat} {v w:Nat} (hv:v<l) (hw:w<l) (h:Vk t l v=Vk t l w):v=w:=by
 have hl:(l:Int)≠0:=by omega
 have h1:=Int.emod_nonneg ((v:Int)+t) hl
 have h2:=Int.emod_nonneg ((w:Int)+t) hl
 have h3:((v:Int)+t) % (l:Int)=((w:Int)+t) % (l:Int):=by rw [Vk,Vk] at h;omega
 have h4:=Int.emod_emod_of_dvd
 have h5:=(Int.emod_eq_emod_iff_emod_sub_eq_zero).1 h3
 have h6:(l:Int) ∣ ((v:Int) - w):=by
  have:=Int.dvd_of_emod_eq_zero h5
  rwa [show (v:Int)+t - (w+t)=v - w by omega] at this
 obtain ⟨c,hc⟩:=h6
 rcases Int.lt_trichotomy c 0 with hc0 | hc0 | hc0
 ·have:(l:Int) * c≤(l:Int) * (-1):=Int.mul_le_mul_of_nonneg_left (by omega) (by omega)
  omega
 ·subst hc0;omega
 ·have:(l:Int) * 1≤(l:Int) * c:=Int.mul_le_mul_of_nonneg_left (by omega) (by omega)
  omega
def Tf (names:List ByteArray) (t:Int) (k:Nat):List ByteArray:=(List.range k).map fun v=>names.getD (Vk t names.length v) ⟨#[]⟩
theorem Zur (names:List ByteArray) (t:Int) (k:Nat):Tf names t (k+1)=Tf names t k++[names.getD (Vk t names.length k) ⟨#[]⟩]:=by rw [Tf,List.range_succ,List.map_append];rfl
theorem Zuq {names:List ByteArray} {t:Int} {k:Nat} (hk:k≤names.length):∀ x ∈ Tf names t k,x ∈ names:=by
 intro x hx
 obtain ⟨v,hv,rfl⟩:=List.mem_map.1 hx
 have hl:0<names.length:=by have:=List.mem_range.1 hv;omega
 have:=Zlq (t:=t) hl v
 rw [List.getD_eq_getElem?_getD,List.getElem?_eq_getElem this]
 exact List.getElem_mem this
theorem Zo0 {names:List ByteArray} (hn:names.Nodup) (t:Int):∀ k,k≤names.length→(Tf names t k).Nodup
 | 0,_=>List.nodup_nil
 | k+1,hk=>by
  rw [Zur,List.nodup_append]
  refine ⟨Zo0 hn t k (by omega),by simp,fun a h1 b h2 e=>?_⟩
  rw [List.mem_singleton.1 h2] at e
  obtain ⟨v,hv,rfl⟩:=List.mem_map.1 h1
  have hv:=List.mem_range.1 hv
  have l1:=Zlq (t:=t) (l:=names.length) (by omega) v
  have l2:=Zlq (t:=t) (l:=names.length) (by omega) k
  rw [List.getD_eq_getElem?_getD,List.getElem?_eq_getElem l1,List.getD_eq_getElem?_getD,List.getElem?_eq_getElem l2] at e
  have:=Z3d (t:=t) (l:=names.length) (by omega) (by omega) (Zsq hn l1 l2 e)
  omega
theorem Z3e {names:List ByteArray} (hn:names.Nodup) (t:Int):∀ x ∈ names,x ∈ Tf names t names.length:=by
 intro x hx
 by_cases hr:x ∈ Tf names t names.length
 ·exact hr
 ·have h1:=Zo0 hn t names.length (Nat.le_refl _)
  have h2:(Tf names t names.length++[x]).Nodup:=by
   rw [List.nodup_append]
   exact ⟨h1,by simp,fun a h1 b h2 e=>by rw [List.mem_singleton.1 h2] at e;rw [e] at h1;exact hr h1⟩
  have h3:=Zjj h2 (B:=names) fun y hy=>by
   rcases List.mem_append.1 hy with hy | hy
   ·exact Zuq (Nat.le_refl _) y hy
   ·rw [List.mem_singleton.1 hy];exact hx
  rw [List.length_append,Tf,List.length_map,List.length_range] at h3
  simp only [List.length_cons,List.length_nil] at h3
  omega
theorem Z1p {n:Wn} {v:Nat} {t:Int} (hl:v<n.2.1.length) (hb:n.2.1.length≤1048576) (ht:-1000<t∧t<1000):Zd2 n (i64.wrap ((v:Int)+t))=some (n.2.1.getD (Vk t n.2.1.length v) ⟨#[]⟩):=by
 have hp:(0:Int)<(n.2.1.length:Int):=by omega
 have hfix:=Z3p ((v:Int)+t) (n.2.1.length:Int) hp
 have hlt:=Zlq (t:=t) (l:=n.2.1.length) (by omega) v
 have h1:=Int.emod_nonneg ((v:Int)+t) (show (n.2.1.length:Int)≠0 by omega)
 have hr:((v:Int)+t) % (n.2.1.length:Int)=((Vk t n.2.1.length v:Nat):Int):=by rw [Vk];omega
 have h2:=Int.tmod_lt_of_pos ((v:Int)+t) hp
 have h3:=Int.lt_tmod_of_pos ((v:Int)+t) hp
 have fin:Zd3 n ((Vk t n.2.1.length v:Nat):Int)=some (n.2.1.getD (Vk t n.2.1.length v) ⟨#[]⟩):=by
  rw [Zd3,Xa hlt,Option.bind_some,List.getD_eq_getElem?_getD,List.getElem?_eq_getElem hlt];rfl
 rw [Zd2,Z2 (by omega),if_neg (nD (by omega)),Xd (by omega)]
 by_cases hneg:Int.tmod ((v:Int)+t) (n.2.1.length:Int)<0
 ·rw [if_pos hneg] at hfix
  rw [if_pos (decide_eq_true hneg),Z2 (by omega),hfix,hr];exact fin
 ·rw [if_neg hneg] at hfix
  rw [if_neg (nD hneg),hfix,hr];exact fin
/-! ### who is free -/
def Wt (P:List (ByteArray×ByteArray)) (s:ByteArray):Bool:=P.all fun x=>!decide (x.1=s)
theorem Z0i {P:List (ByteArray×ByteArray)} {s:ByteArray}:Wt P s=true↔s ∉ P.map (·.1):=by
 rw [Wt,List.all_eq_true]
 constructor
 ·intro h e
  obtain ⟨x,hx,rfl⟩:=List.mem_map.1 e
  have:=h x hx
  rw [decide_eq_true rfl] at this;cases this
 ·intro h x hx
  rw [decide_eq_false (fun e=>h (List.mem_map.2 ⟨x,hx,e⟩))];rfl
theorem Z0h (P Q:List (ByteArray×ByteArray)) (s:ByteArray):Wt (P++Q) s=(Wt P s&&Wt Q s):=by rw [Wt,List.all_append];rfl
abbrev TwV:=Int×(Nat×List (ByteArray×ByteArray))×(Nat×List (ByteArray×ByteArray))×Int×(Nat×List ByteArray)×(Bool×Bool)
section
variable {N:Nat} (hN:8000000<N) {tw:TwV} {A Gv:List (ByteArray×ByteArray)} (hA:tw.2.1.2.take tw.2.1.1=A) (hG:tw.2.2.1.2.take tw.2.2.1.1=Gv) (la:A.length≤1048576) (lg:Gv.length≤1048576)
include hN hA hG la lg
theorem Zm5 {order:List ByteArray} (lo:order.length≤1048576) (taken v:Int) (kk:Int→List ByteArray→Int→Option Bool) (s:ByteArray):∀ (f i:Nat) (b:Bool),i≤Gv.length→Gv.length<f+i→
  Qi N tw taken order v kk s f b (i:Int)=if (b&&Wt (Gv.drop i) s)=true then Sx v kk taken (order++[s]) else Sx v kk (i64.wrap (taken+1)) order
 | 0,i,b,h1,h2=>by omega
 | f+1,i,b,h1,h2=>by
  rw [Qi.eq_2,hG]
  by_cases hi:i<Gv.length
  ·rw [if_pos (decide_eq_true (by omega)),List.drop_eq_getElem_cons hi]
   have e:Wt (Gv[i] :: Gv.drop (i+1)) s=(!decide (Gv[i].1=s)&&Wt (Gv.drop (i+1)) s):=rfl
   rw [e]
   cases b with
   | true=>
    rw [if_pos rfl,Xa hi,Option.bind_some,Zdy,Z2 (by omega),show (i:Int)+1=((i+1:Nat):Int) by omega,Zm5 lo taken v kk s f (i+1) _ (by omega) (by omega),Bool.true_and]
   | false=>
    rw [if_neg (by decide),Zdy,Z2 (by omega),show (i:Int)+1=((i+1:Nat):Int) by omega,Zm5 lo taken v kk s f (i+1) _ (by omega) (by omega),Bool.false_and,Bool.false_and]
  ·have e:Wt (Gv.drop i) s=true:=by rw [List.drop_eq_nil_of_le (by omega)];rfl
   rw [if_neg (nD (by omega)),e,Bool.and_true]
   cases b with
   | true=>rw [if_pos rfl,if_pos rfl,Xd (by simp only [List.length_cons,List.length_nil,maxLen];omega)]
   | false=>rw [if_neg (by decide),if_neg (by decide)]
theorem Zm4 {order:List ByteArray} (lo:order.length≤1048576) (taken v:Int) (kk:Int→List ByteArray→Int→Option Bool) (s:ByteArray):∀ (f i:Nat) (b:Bool),i≤A.length→A.length<f+i→
  Qh N tw taken order v kk s f b (i:Int)=if (b&&(Wt (A.drop i) s&&Wt Gv s))=true then Sx v kk taken (order++[s]) else Sx v kk (i64.wrap (taken+1)) order
 | 0,i,b,h1,h2=>by omega
 | f+1,i,b,h1,h2=>by
  rw [Qh.eq_2,hA]
  by_cases hi:i<A.length
  ·rw [if_pos (decide_eq_true (by omega)),List.drop_eq_getElem_cons hi]
   have e:Wt (A[i] :: A.drop (i+1)) s=(!decide (A[i].1=s)&&Wt (A.drop (i+1)) s):=rfl
   rw [e]
   cases b with
   | true=>
    rw [if_pos rfl,Xa hi,Option.bind_some,Zdx,Z2 (by omega),show (i:Int)+1=((i+1:Nat):Int) by omega,Zm4 lo taken v kk s f (i+1) _ (by omega) (by omega),Bool.true_and,Bool.and_assoc]
   | false=>
    rw [if_neg (by decide),Zdx,Z2 (by omega),show (i:Int)+1=((i+1:Nat):Int) by omega,Zm4 lo taken v kk s f (i+1) _ (by omega) (by omega),Bool.false_and,Bool.false_and]
  ·have e:Wt (A.drop i) s=true:=by rw [List.drop_eq_nil_of_le (by omega)];rfl
   have:=Zm5 hN hA hG la lg lo taken v kk s N 0 b (Nat.zero_le _) (by omega)
   rw [List.drop_zero] at this
   rw [if_neg (nD (by omega)),e,Bool.true_and]
   exact this
end
/-! ### does a question fit? -/
section
variable {N:Nat} (hN:8000000<N) {n:Wn} (hnl:n.2.1.length≤1048576) (hvn:∀ l ∈ n.2.2.1,l.length≤1048576) {q:Vb} (la:q.2.1.length≤1048576) (lg:q.2.2.1.length≤1048576)
include hN hnl hvn la lg
theorem Zqz {i:Nat} (hi:i<(([]:List (ByteArray×ByteArray))++q.2.1++q.2.2.1).length) (kk:Int→Option Bool) (hkk:∃ b,kk ((i+1:Nat):Int)=some b):∀ (f k:Nat) (fo:Bool),k≤i→i<f+k→∃ b,Qk N q (i:Int) kk f (k:Int) fo=some b
 | 0,k,fo,h1,h2=>by omega
 | f+1,k,fo,h1,h2=>by
  have hll:(([]:List (ByteArray×ByteArray))++q.2.1++q.2.2.1).length≤2097152:=by rw [List.nil_append,List.length_append];omega
  rw [Qk.eq_2]
  by_cases hk:k<i
  ·rw [if_pos (decide_eq_true (by omega))]
   have ih:=Zqz hi kk hkk f (k+1)
   cases fo with
   | true=>
    rw [if_pos rfl,Xa (show k<_ by omega),Option.bind_some,Xa hi,Option.bind_some,Zd1,Z2 (by omega),show (k:Int)+1=((k+1:Nat):Int) by omega]
    exact ih _ (by omega) (by omega)
   | false=>
    rw [if_neg (by decide),Zd1,Z2 (by omega),show (k:Int)+1=((k+1:Nat):Int) by omega]
    exact ih _ (by omega) (by omega)
  ·rw [if_neg (nD (by omega))]
   cases fo with
   | true=>rw [if_neg (by decide),Z2 (by omega),show (i:Int)+1=((i+1:Nat):Int) by omega];exact hkk
   | false=>rw [if_pos (by decide)];exact ⟨false,rfl⟩
theorem Zqy {i v:Nat} (hi:i<(([]:List (ByteArray×ByteArray))++q.2.1++q.2.2.1).length) (hv:v<n.2.1.length) (hv2:v<n.2.2.1.length) (kk:Bool→Int→Option Bool) (hkk:∀ fo,∃ b,kk fo ((v+1:Nat):Int)=some b):∀ (f k:Nat) (fo:Bool),k≤n.2.2.1[v].length→n.2.2.1[v].length<f+k→∃ b,Sy N n q (i:Int) (v:Int) kk f fo (k:Int)=some b
 | 0,k,fo,h1,h2=>by omega
 | f+1,k,fo,h1,h2=>by
  have hvv:=hvn _ (List.getElem_mem hv2)
  rw [Sy.eq_2,Xa hv2,Option.bind_some]
  by_cases hk:k<n.2.2.1[v].length
  ·rw [if_pos (decide_eq_true (by omega))]
   have ih:=Zqy hi hv hv2 kk hkk f (k+1)
   cases fo with
   | true=>
    rw [if_pos rfl,Zau,Z2 (by omega),show (k:Int)+1=((k+1:Nat):Int) by omega]
    exact ih _ (by omega) (by omega)
   | false=>
    rw [if_neg (by decide),Xa hv,Option.bind_some,Xa hi,Option.bind_some]
    split
    ·rw [Xa hk,Option.bind_some,Zau,Z2 (by omega),show (k:Int)+1=((k+1:Nat):Int) by omega]
     exact ih _ (by omega) (by omega)
    ·rw [Zau,Z2 (by omega),show (k:Int)+1=((k+1:Nat):Int) by omega]
     exact ih _ (by omega) (by omega)
  ·rw [if_neg (nD (by omega)),Z2 (by omega),show (v:Int)+1=((v+1:Nat):Int) by omega]
   exact hkk fo
theorem Zqx {i:Nat} (hvl:n.2.2.1.length=n.2.1.length) (hi:i<(([]:List (ByteArray×ByteArray))++q.2.1++q.2.2.1).length) (kk:Int→Option Bool) (hkk:∃ b,kk ((i+1:Nat):Int)=some b):∀ (f v:Nat) (fo:Bool),v≤n.2.1.length→n.2.1.length<f+v→∃ b,Qj N n q (i:Int) kk f fo (v:Int)=some b
 | 0,v,fo,h1,h2=>by omega
 | f+1,v,fo,h1,h2=>by
  have hll:(([]:List (ByteArray×ByteArray))++q.2.1++q.2.2.1).length≤2097152:=by rw [List.nil_append,List.length_append];omega
  rw [Qj.eq_2]
  by_cases hv:v<n.2.1.length
  ·rw [if_pos (decide_eq_true (by omega))]
   have hv2:v<n.2.2.1.length:=by omega
   have hvv:=hvn _ (List.getElem_mem hv2)
   exact Zqy hN hnl hvn la lg hi hv hv2 _ (fun fo=>Zqx hvl hi kk hkk f (v+1) fo (by omega) (by omega)) N 0 fo (Nat.zero_le _) (by omega)
  ·rw [if_neg (nD (by omega))]
   exact Zqz hN hnl hvn la lg hi kk hkk N 0 fo (Nat.zero_le _) (by omega)
theorem Zqw (hvl:n.2.2.1.length=n.2.1.length):∀ (f i:Nat),i≤(([]:List (ByteArray×ByteArray))++q.2.1++q.2.2.1).length→(([]:List (ByteArray×ByteArray))++q.2.1++q.2.2.1).length<f+i→∃ b,To N n q f (i:Int)=some b
 | 0,i,h1,h2=>by omega
 | f+1,i,h1,h2=>by
  rw [To.eq_2]
  by_cases hi:i<(([]:List (ByteArray×ByteArray))++q.2.1++q.2.2.1).length
  ·rw [if_pos (decide_eq_true (by omega))]
   exact Zqx hN hnl hvn la lg hvl hi _ (Zqw hvl f (i+1) (by omega) (by omega)) N 0 false (Nat.zero_le _) (by omega)
  ·rw [if_neg (nD (by omega))];exact ⟨true,rfl⟩
theorem Zz8:∃ b,Zd0 N n q=some b∧(b=true→q.1=2∧0<q.2.1.length∧n.2.2.1.length=n.2.1.length):=by
 have hll:(([]:List (ByteArray×ByteArray))++q.2.1++q.2.2.1).length≤2097152:=by rw [List.nil_append,List.length_append];omega
 rw [Zd0,Xd (by simp only [List.length_nil,maxLen];omega),Xd (by rw [List.nil_append];simp only [maxLen];omega)]
 have no:∃ b,Zat N n q true=some b∧(b=true→q.1=2∧0<q.2.1.length∧n.2.2.1.length=n.2.1.length):=⟨false,by rw [Zat,if_pos rfl],fun h=>by cases h⟩
 by_cases h2:q.1=2
 ·rw [if_neg (by rw [decide_eq_true h2];decide)]
  by_cases h0:q.2.1.length=0
  ·rw [if_pos (decide_eq_true (by omega))];exact no
  ·rw [if_neg (nD (by omega))]
   by_cases hvl:n.2.2.1.length=n.2.1.length
   ·rw [decide_eq_true (by omega),Zat,if_neg (by decide)]
    obtain ⟨b,hb⟩:=Zqw hN hnl hvn la lg hvl N 0 (Nat.zero_le _) (by omega)
    exact ⟨b,hb,fun _=>⟨h2,by omega,hvl⟩⟩
   ·rw [decide_eq_false (by omega)];exact no
 ·rw [if_pos (by rw [decide_eq_false h2];rfl)];exact no
end
/-! ### the law -/
theorem Zy2 {N:Nat} {n:Wn} {e0:Int} (h0:Tp N n=some e0) (hf:e0=0→n.2.2.1.length=n.2.1.length∧n.2.1.Nodup) (hnl:n.2.1.length≤1048576) {q:Vb} (hw:q.2.2.2.1=1) (h1:q.2.1.length≤1048580) (h2:q.2.2.1.length≤1048580):
  ∃ e,Wk N n q=some e:=by
 have h0':Tp N (n.1,n.2.1,n.2.2.1,n.2.2.2.1,n.2.2.2.2)=some e0:=h0
 rw [Wk,h0',Option.bind_some]
 by_cases he:e0=0
 ·obtain ⟨hvl,hnd⟩:=hf he
  have ha:=Zfv hnd n.2.1 0 [] O (Nat.zero_le _) (S9.nil _)
  rw [if_neg (by rw [decide_eq_true he];decide),hw,if_neg (by decide)]
  have hfit:∃ b,S4 (q.1,q.2.1,q.2.2.1,(1:Int),q.2.2.2.2.1,(q.2.2.2.2.2.1,q.2.2.2.2.2.2))=some b:=by
   rw [S4];dsimp only
   split
   ·exact ⟨_,O⟩
   ·split
    ·exact ⟨_,O⟩
    ·split <;> exact ⟨_,O⟩
  obtain ⟨b,hb⟩:=hfit
  rw [hb,Option.bind_some]
  cases b with
  | false=>rw [S0,if_pos (by decide)];exact ⟨_,O⟩
  | true=>
   rw [S0,if_neg (by decide),Zg9,Zma,S1.eq_1,Zqf h1,Option.bind_some,List.nil_append,Xd (by simp only [maxLen];omega)]
   have go:∀ (l:List (ByteArray×ByteArray)) (k:Nat) (S:List ByteArray) (es:List (ByteArray×Int)),V9 S es→∃ e,Yt n q (Vu n.2.1 0 []) l k es=some e:=by
    intro l
    induction l with
    | nil=>
     intro k S es ht
     rw [Yt.eq_1,hw,if_pos (by decide)];exact ⟨_,O⟩
    | cons x l ih=>
     intro k S es ht
     have step:∀ b:Bool,∃ e,Qu n (Vu n.2.1 0 []) k es (Yt n q (Vu n.2.1 0 []) l) x b=some e:=by
      intro b
      have bad:∃ e,Uk k es (Yt n q (Vu n.2.1 0 []) l) x true=some e:=by rw [Uk,if_pos O];exact ⟨_,O⟩
      rw [Qu]
      by_cases hm:x.1 ∈ n.2.1
      ·obtain ⟨v,hv,hvx,hg⟩:=Zfw ha hnl hm
       have hv2:v<n.2.2.1.length:=by omega
       rw [hg,if_neg (show ¬ (!(some (v:Int)).isSome)=true by simp),ht.g x.1]
       by_cases hS:x.1 ∈ S
       ·rw [if_pos hS,if_pos (by decide)];exact bad
       ·have more:∀ c:Bool,∃ e,Uk k es (Yt n q (Vu n.2.1 0 []) l) x c=some e:=by
         intro c
         cases c with
         | true=>exact bad
         | false=>
          rw [Uk,if_neg (by decide),Zhb,Option.bind_some,Zha]
          exact ih (k+1) (S++[x.1]) _ (ht.put hS)
        rw [if_neg hS,if_neg (by decide),Option.getD_some,Xa hv2,Option.bind_some,Zm0,Option.bind_some]
        split <;> exact more _
      ·have hg:=ha.o x.1 (by rw [List.take_length];exact hm)
       rw [hg,if_pos (by decide)];exact bad
     rw [Yt.eq_2]
     split <;> exact step _
   exact go _ _ [] _ V9.nil
 ·rw [if_pos (by rw [decide_eq_false he];rfl)];exact ⟨_,O⟩
section
variable {N:Nat} (hN:8000000<N) {n:Wn} (h0:Tp N n=some 0) (hvl:n.2.2.1.length=n.2.1.length) (hnd:n.2.1.Nodup) (hnl:n.2.1.length≤1048576) {q:Vb} (hq:Zc5 q) (hk:q.1=2) (hpos:0<q.2.1.length)
 {es':List (ByteArray×Int)} (ht:V9 ((q.2.1++q.2.2.1).map (·.1)) es') (hnd2:((q.2.1++q.2.2.1).map (·.1)).Nodup) (hin:∀ x ∈ q.2.1++q.2.2.1,x.1 ∈ n.2.1)
 (hrun:∀ (q':Vb) r,q'.1=2→Yt n q' (Vu n.2.1 0 []) ((q.2.1++q.2.2.1)++r) 0 []=Yt n q' (Vu n.2.1 0 []) r (0+(q.2.1++q.2.2.1).length) es')
include hN h0 hvl hnd hnl hq hk hpos ht hnd2 hin hrun
abbrev Uv (q:Vb):List ByteArray:=(q.2.1++q.2.2.1).map (·.1)
theorem Zwn:Wk N n (q.1,q.2.1,q.2.2.1,2,[],q.2.2.2.2.2)=some 0:=by
 have h1:=hq.a;have h2:=hq.g
 rw [Zi6 (q:=(q.1,q.2.1,q.2.2.1,2,[],q.2.2.2.2.2)) h0 hk hpos (.inr (.inl rfl)) (by dsimp only;omega) (by dsimp only;omega)]
 have:=hrun (q.1,q.2.1,q.2.2.1,2,[],q.2.2.2.2.2) [] hk
 rw [List.append_nil] at this
 exact this
theorem Zmd (o:List ByteArray):Wk N n (q.1,q.2.1,q.2.2.1,3,o,q.2.2.2.2.2)=Uc (Vu n.2.1 0 []) o ((n.2.1.length:Int) - ((Uv q).length:Int)) es':=by
 have h1:=hq.a;have h2:=hq.g
 rw [Zi6 (q:=(q.1,q.2.1,q.2.2.1,3,o,q.2.2.2.2.2)) h0 hk hpos (.inr (.inr rfl)) (by dsimp only;omega) (by dsimp only;omega)]
 have:=hrun (q.1,q.2.1,q.2.2.1,3,o,q.2.2.2.2.2) [] hk
 rw [List.append_nil] at this
 refine this.trans ?_
 have hz:(Uv q).length≤2097152:=by rw [List.length_map,List.length_append];omega
 have hl:es'.length=(Uv q).length:=ht.l
 rw [Yt.eq_1,if_neg (by show ¬ (!decide ((3:Int)=3))=true;decide),hl,Z2 (by omega)]
theorem Zwo (o:List ByteArray):Wk N n (q.1,q.2.1,q.2.2.1++[q.2.1[0]],1,o,q.2.2.2.2.2)=some 50:=by
 have h1:=hq.a;have h2:=hq.g
 have ha:=Zfv hnd n.2.1 0 [] rfl (Nat.zero_le _) (S9.nil _)
 rw [Zi6 (q:=(q.1,q.2.1,q.2.2.1++[q.2.1[0]],1,o,q.2.2.2.2.2)) h0 hk hpos (.inl rfl) (by dsimp only;omega) (by dsimp only;rw [List.length_append];simp;omega)]
 have:=hrun (q.1,q.2.1,q.2.2.1++[q.2.1[0]],1,o,q.2.2.2.2.2) [q.2.1[0]] hk
 rw [List.append_assoc] at this
 refine this.trans ?_
 have hm:q.2.1[0] ∈ q.2.1++q.2.2.1:=List.mem_append_left _ (List.getElem_mem _)
 exact Zte ha hnl ht (hin _ hm) (List.mem_map.2 ⟨_,hm,rfl⟩) [] _ hk
def Vi (n:Wn) (q:Vb) (t:Int) (k:Nat):List ByteArray:=(Tf n.2.1 t k).filter fun s=>Wt q.2.1 s&&Wt q.2.2.1 s
theorem Zru (t:Int):(∀ x ∈ Vi n q t n.2.1.length,x ∈ n.2.1)∧(Uv q++Vi n q t n.2.1.length).Nodup∧(Uv q++Vi n q t n.2.1.length).length=n.2.1.length:=by
 have hfree:∀ x,(Wt q.2.1 x&&Wt q.2.2.1 x)=true↔x ∉ Uv q:=fun x=>by rw [← Z0h,Z0i]
 have h1:∀ x ∈ Vi n q t n.2.1.length,x ∈ n.2.1:=fun x hx=>Zuq (Nat.le_refl _) x (List.mem_filter.1 hx).1
 have h2:(Uv q++Vi n q t n.2.1.length).Nodup:=by
  rw [List.nodup_append]
  refine ⟨hnd2,(Zo0 hnd t _ (Nat.le_refl _)).filter _,fun a ha b hb e=>?_⟩
  subst e
  exact (hfree a).1 (List.mem_filter.1 hb).2 ha
 refine ⟨h1,h2,Nat.le_antisymm ?_ ?_⟩
 ·refine Zjj h2 fun x hx=>?_
  rcases List.mem_append.1 hx with hx | hx
  ·obtain ⟨y,hy,rfl⟩:=List.mem_map.1 hx
   exact hin y hy
  ·exact h1 x hx
 ·refine Zjj hnd fun x hx=>?_
  by_cases hS:x ∈ Uv q
  ·exact List.mem_append_left _ hS
  ·exact List.mem_append_right _ (List.mem_filter.2 ⟨Z3e hnd t x hx,(hfree x).2 hS⟩)
theorem Zwm (t:Int):Wk N n (q.1,q.2.1,q.2.2.1,3,Vi n q t n.2.1.length,q.2.2.2.2.2)=some 0∧
  (∀ x:ByteArray,x ∈ Uv q++Vi n q t n.2.1.length→Wk N n (q.1,q.2.1,q.2.2.1,3,Vi n q t n.2.1.length++[x],q.2.2.2.2.2)=some 51)∧
  (0<(Vi n q t n.2.1.length).length→Wk N n (q.1,q.2.1,q.2.2.1,3,(Vi n q t n.2.1.length).drop 1,q.2.2.2.2.2)=some 51):=by
 obtain ⟨f1,f2,f3⟩:=Zru hN h0 hvl hnd hnl hq hk hpos ht hnd2 hin hrun t
 have ha:=Zfv hnd n.2.1 0 [] rfl (Nat.zero_le _) (S9.nil _)
 have h1:=hq.a;have h2:=hq.g
 have hz:(Uv q).length≤2097152:=by rw [List.length_map,List.length_append];omega
 have hl:(Vi n q t n.2.1.length).length≤1048576:=by rw [List.length_append] at f3;omega
 refine ⟨?_,fun x hx=>?_,fun hp=>?_⟩
 ·rw [Zmd hN h0 hvl hnd hnl hq hk hpos ht hnd2 hin hrun]
  obtain ⟨es2,_,g2⟩:=Zlb ha hnl (Vi n q t n.2.1.length) [] (Uv q) es' ht f1 f2 (by omega)
  rw [List.append_nil] at g2
  rw [g2,Uc.eq_1,if_neg (by rw [decide_eq_true (by omega)];decide)]
 ·rw [Zmd hN h0 hvl hnd hnl hq hk hpos ht hnd2 hin hrun]
  obtain ⟨es2,g1,g2⟩:=Zlb ha hnl (Vi n q t n.2.1.length) [x] (Uv q) es' ht f1 f2 (by omega)
  have hxn:x ∈ n.2.1:=by
   rcases List.mem_append.1 hx with hx | hx
   ·obtain ⟨y,hy,rfl⟩:=List.mem_map.1 hx
    exact hin y hy
   ·exact f1 x hx
  rw [g2]
  exact Z16 ha hnl g1 hxn hx [] _
 ·rw [Zmd hN h0 hvl hnd hnl hq hk hpos ht hnd2 hin hrun]
  generalize Vi n q t n.2.1.length=O at *
  cases O with
  | nil=>exact absurd hp (by simp)
  | cons o O=>
   have f2':(Uv q++O).Nodup:=by
    rw [List.nodup_append] at f2 ⊢
    exact ⟨f2.1,(List.nodup_cons.1 f2.2.1).2,fun a h1 b h2=>f2.2.2 a h1 b (List.mem_cons_of_mem _ h2)⟩
   obtain ⟨es2,_,g2⟩:=Zlb ha hnl O [] (Uv q) es' ht (fun y hy=>f1 y (List.mem_cons_of_mem _ hy)) f2' (by rw [List.length_cons] at hl;omega)
   rw [List.append_nil] at g2
   show Uc _ O _ _=_
   rw [List.length_append,List.length_cons] at f3
   rw [g2,Uc.eq_1,if_pos (by rw [List.length_append,decide_eq_false (by omega)];rfl)]
end
section
variable {N:Nat} (hN:8000000<N) {n:Wn} (h0:Tp N n=some 0) (hvl:n.2.2.1.length=n.2.1.length) (hnd:n.2.1.Nodup) (hnl:n.2.1.length≤1048576) {q:Vb} (hq:Zc5 q) (hk:q.1=2) (hpos:0<q.2.1.length)
 {es':List (ByteArray×Int)} (ht:V9 ((q.2.1++q.2.2.1).map (·.1)) es') (hnd2:((q.2.1++q.2.2.1).map (·.1)).Nodup) (hin:∀ x ∈ q.2.1++q.2.2.1,x.1 ∈ n.2.1)
 (hrun:∀ (q':Vb) r,q'.1=2→Yt n q' (Vu n.2.1 0 []) ((q.2.1++q.2.2.1)++r) 0 []=Yt n q' (Vu n.2.1 0 []) r (0+(q.2.1++q.2.2.1).length) es')
include hN h0 hvl hnd hnl hq hk hpos ht hnd2 hin hrun
theorem Zwl (o:List ByteArray) (kk:Int):Zdz N n true q.1 q.2.1 q.2.2.1 kk o q.2.2.2.2.2.1 q.2.2.2.2.2.2=some true:=by
 have h1:=hq.a;have h2:=hq.g
 have hm:=Zwo hN h0 hvl hnd hnl hq hk hpos ht hnd2 hin hrun o
 rw [Zdz,show (0:Int)=((0:Nat):Int) from rfl,Xa hpos,Option.bind_some,Xd (by simp only [List.length_cons,List.length_nil,maxLen];omega),if_pos rfl]
 refine (congrArg (fun x=>Option.bind x _) hm).trans ?_
 rw [Option.bind_some,Zgj];rfl
theorem Zmc (t:Int):∀ (f v:Nat) (taken:Int),v≤n.2.1.length→n.2.1.length<f+v→U9 N n t true (Ug q) f taken (Vi n q (Int.tmod t 1000) v) (v:Int)=some true
 | 0,v,taken,h1,h2=>by omega
 | f+1,v,taken,h1,h2=>by
  have la:=hq.a;have lg:=hq.g
  have htm:-1000<Int.tmod t 1000∧Int.tmod t 1000<1000:=⟨by have:=Int.lt_tmod_of_pos t (show (0:Int)<1000 by decide);omega,Int.tmod_lt_of_pos t (by decide)⟩
  have ea:(Ug q).2.1.2.take (Ug q).2.1.1=q.2.1:=List.take_left
  have eg:(Ug q).2.2.1.2.take (Ug q).2.2.1.1=q.2.2.1:=List.take_left
  have ll:(Vi n q (Int.tmod t 1000) v).length≤1048576:=by
   have h3:=List.length_filter_le (fun s=>Wt q.2.1 s&&Wt q.2.2.1 s) (Tf n.2.1 (Int.tmod t 1000) v)
   have h4:(Tf n.2.1 (Int.tmod t 1000) v).length=v:=by rw [Tf,List.length_map,List.length_range]
   rw [h4] at h3
   show (List.filter _ _).length≤_
   omega
  rw [U9.eq_2]
  by_cases hv:v<n.2.1.length
  ·have hnm:Zd2 (n.1,n.2.1,n.2.2.1,n.2.2.2.1,n.2.2.2.2) (i64.wrap ((v:Int)+(Int.tmod t 1000)))=some (n.2.1.getD (Vk (Int.tmod t 1000) n.2.1.length v) ⟨#[]⟩):=Z1p hv hnl htm
   have hf:=Zm4 hN ea eg la lg ll taken (v:Int) (U9 N n t true (Ug q) f) (n.2.1.getD (Vk (Int.tmod t 1000) n.2.1.length v) ⟨#[]⟩) N 0 true (Nat.zero_le _) (by omega)
   rw [if_pos (decide_eq_true (by omega)),hnm,Option.bind_some]
   refine hf.trans ?_
   rw [List.drop_zero,Bool.true_and]
   have hsucc:Vi n q (Int.tmod t 1000) (v+1)=Vi n q (Int.tmod t 1000) v++(if (Wt q.2.1 (n.2.1.getD (Vk (Int.tmod t 1000) n.2.1.length v) ⟨#[]⟩)&&Wt q.2.2.1 (n.2.1.getD (Vk (Int.tmod t 1000) n.2.1.length v) ⟨#[]⟩))=true then [n.2.1.getD (Vk (Int.tmod t 1000) n.2.1.length v) ⟨#[]⟩] else []):=by
    rw [Vi,Zur,List.filter_append]
    congr 1
    rw [List.filter_cons];rfl
   by_cases hfr:(Wt q.2.1 (n.2.1.getD (Vk (Int.tmod t 1000) n.2.1.length v) ⟨#[]⟩)&&Wt q.2.2.1 (n.2.1.getD (Vk (Int.tmod t 1000) n.2.1.length v) ⟨#[]⟩))=true
   ·rw [if_pos hfr] at hsucc
    rw [if_pos hfr,Sx,Z2 (by omega),← hsucc,show (v:Int)+1=((v+1:Nat):Int) by omega]
    exact Zmc t f (v+1) taken (by omega) (by omega)
   ·rw [if_neg hfr,List.append_nil] at hsucc
    rw [if_neg hfr,Sx,Z2 (x:=(v:Int)+1) (by omega),← hsucc,show (v:Int)+1=((v+1:Nat):Int) by omega]
    exact Zmc t f (v+1) _ (by omega) (by omega)
  ·have hvn:v=n.2.1.length:=by omega
   subst hvn
   obtain ⟨f1,f2,f3⟩:=Zru hN h0 hvl hnd hnl hq hk hpos ht hnd2 hin hrun (Int.tmod t 1000)
   obtain ⟨g1,g2,g3⟩:=Zwm hN h0 hvl hnd hnl hq hk hpos ht hnd2 hin hrun (Int.tmod t 1000)
   have gd:=Zwn hN h0 hvl hnd hnl hq hk hpos ht hnd2 hin hrun
   generalize Vi n q (Int.tmod t 1000) n.2.1.length=O at *
   have hA:q.2.1[0] ∈ q.2.1++q.2.2.1:=List.mem_append_left _ (List.getElem_mem _)
   have gx:=g2 q.2.1[0].1 (List.mem_append_left _ (List.mem_map.2 ⟨_,hA,rfl⟩))
   have gJ:=fun o=>Zwl hN h0 hvl hnd hnl hq hk hpos ht hnd2 hin hrun o 3
   have e1:(Ug q).1=q.1:=rfl
   have e2:(Ug q).2.2.2.2.2=q.2.2.2.2.2:=rfl
   have g1':Wk N (n.1,n.2.1,n.2.2.1,n.2.2.2.1,n.2.2.2.2) (q.1,q.2.1,q.2.2.1,3,O,(q.2.2.2.2.2.1,q.2.2.2.2.2.2))=some 0:=g1
   have gd':Wk N (n.1,n.2.1,n.2.2.1,n.2.2.2.1,n.2.2.2.2) (q.1,q.2.1,q.2.2.1,2,[],(q.2.2.2.2.2.1,q.2.2.2.2.2.2))=some 0:=gd
   have gx':Wk N (n.1,n.2.1,n.2.2.1,n.2.2.2.1,n.2.2.2.2) (q.1,q.2.1,q.2.2.1,3,O++[q.2.1[0].1],(q.2.2.2.2.2.1,q.2.2.2.2.2.2))=some 51:=gx
   rw [if_neg (nD (by omega)),e1,e2,ea,eg,gd',Option.bind_some,if_neg (by decide),g1',Option.bind_some,if_neg (by decide),Xd (by simp only [List.length_nil,maxLen];omega),show (0:Int)=((0:Nat):Int) from rfl,Xa hpos,Option.bind_some,List.nil_append,Xd (by simp only [List.length_cons,List.length_nil,maxLen];omega),gx',Option.bind_some,if_neg (by decide)]
   by_cases hO:0<O.length
   ·have gt:Wk N (n.1,n.2.1,n.2.2.1,n.2.2.2.1,n.2.2.2.2) (q.1,q.2.1,q.2.2.1,3,O.drop (Int.toNat 1),(q.2.2.2.2.2.1,q.2.2.2.2.2.2))=some 51:=g3 hO
    have gy:Wk N (n.1,n.2.1,n.2.2.1,n.2.2.2.1,n.2.2.2.2) (q.1,q.2.1,q.2.2.1,3,O++[O[0]],(q.2.2.2.2.2.1,q.2.2.2.2.2.2))=some 51:=g2 O[0] (List.mem_append_right _ (List.getElem_mem _))
    rw [if_pos (decide_eq_true (by omega)),Xd (by omega),gt,Option.bind_some,if_neg (by decide),Xd (by simp only [List.length_nil,maxLen];omega),Xa hO,Option.bind_some,Xd (by simp only [List.length_cons,List.length_nil,maxLen];omega),gy,Option.bind_some,if_neg (by decide)]
    exact gJ _
   ·rw [if_neg (nD (by omega))]
    exact gJ _
end
theorem Z2m {N W:Nat} {n:Wn} {q:Vb} (hal:Zgk N=some true) (hs:Zc4 n W) (hb:Zip n) (hq:Zc5 q) (hr:Ya N (8 * W+40)) (hN:8000000<N) (t:Int):Zjm N n q t=some true:=by
 have la:=hq.a;have lg:=hq.g
 have hnl:=hb.nm
 obtain ⟨e0,c1,c2⟩:=Zy3 hs hr (by omega)
 have hf:e0=0→n.2.2.1.length=n.2.1.length∧n.2.1.Nodup:=fun h=>⟨(c2 h).ev.v,(c2 h).nodup⟩
 have ht0:Zd4 (q.1,q.2.1,q.2.2.1,q.2.2.2.1,q.2.2.2.2.1,(q.2.2.2.2.2.1,q.2.2.2.2.2.2))=some (Ug q):=Z3t hq
 have ea:(Ug q).2.1.2.take (Ug q).2.1.1=q.2.1:=List.take_left
 have eg:(Ug q).2.2.1.2.take (Ug q).2.2.1.1=q.2.2.1:=List.take_left
 have e1:(Ug q).1=q.1:=rfl
 have e2:(Ug q).2.2.2.2.2=q.2.2.2.2.2:=rfl
 obtain ⟨e,k1⟩:=Zy2 c1 hf hnl (q:=(q.1,q.2.1,q.2.2.1,1,[],q.2.2.2.2.2)) rfl (by dsimp only;omega) (by dsimp only;omega)
 obtain ⟨b,f1,f2⟩:=Zz8 (N:=N) hN (n:=n) hnl hb.vl (q:=(q.1,q.2.1,q.2.2.1,1,[],q.2.2.2.2.2)) la lg
 have k1':Wk N (n.1,n.2.1,n.2.2.1,n.2.2.2.1,n.2.2.2.2) (q.1,q.2.1,q.2.2.1,1,[],(q.2.2.2.2.2.1,q.2.2.2.2.2.2))=some e:=k1
 have f1':Zd0 N (n.1,n.2.1,n.2.2.1,n.2.2.2.1,n.2.2.2.2) (q.1,q.2.1,q.2.2.1,1,[],(q.2.2.2.2.2.1,q.2.2.2.2.2.2))=some b:=f1
 rw [Zjm,hal,Option.bind_some,ht0,Option.bind_some,e1,e2,ea,eg,k1',Option.bind_some,f1',Option.bind_some]
 by_cases he:e=0
 ·subst he
  rw [if_neg (by decide)]
  cases b with
  | false=>rw [Zbt,if_pos (by decide),if_pos rfl,if_neg (by decide),Zbu];rfl
  | true=>
   obtain ⟨hk,hpos,hvl⟩:=f2 rfl
   have hk:q.1=2:=hk
   have hpos:0<q.2.1.length:=hpos
   have h0:e0=0:=by
    by_cases h:e0=0
    ·exact h
    ·have c1':Tp N (n.1,n.2.1,n.2.2.1,n.2.2.2.1,n.2.2.2.2)=some e0:=c1
     rw [Wk,c1',Option.bind_some,if_pos (by rw [decide_eq_false h];rfl)] at k1
     exact Option.some.inj k1
   subst h0
   have hnd:=(c2 rfl).nodup
   have ha:=Zfv hnd n.2.1 0 [] rfl (Nat.zero_le _) (S9.nil _)
   rw [Zbt,if_neg (by decide)]
   rcases Ztf ha hnl hvl (q.2.1++q.2.2.1) 0 [] [] V9.nil List.nodup_nil with ⟨es',i1,i2,i3,i4⟩ | hbad
   ·rw [List.nil_append] at i1 i2
    exact Zmc hN c1 hvl hnd hnl hq hk hpos i1 i2 i3 i4 t N 0 0 (Nat.zero_le _) (by omega)
   ·have h2:=hbad (q.1,q.2.1,q.2.2.1,1,[],q.2.2.2.2.2) [] hk
    rw [List.append_nil] at h2
    rw [Zi6 (q:=(q.1,q.2.1,q.2.2.1,1,[],q.2.2.2.2.2)) c1 hk hpos (.inl rfl) (by dsimp only;omega) (by dsimp only;omega)] at k1
    have k1:Yt n (q.1,q.2.1,q.2.2.1,1,[],q.2.2.2.2.2) (Vu n.2.1 0 []) (q.2.1++q.2.2.1) 0 []=some 0:=k1
    rw [h2] at k1
    exact absurd (Option.some.inj k1) (by decide)
 ·rw [if_pos (by rw [decide_eq_false he];rfl),Zbt,if_pos rfl,if_pos rfl,if_pos (by rw [decide_eq_false he];rfl),Zbu]
theorem Tl {α:Type} {b:α→Nat} (hb:∀ x,1≤b x):∀ (l:List α),l.length+1≤Xk b l
 | []=>by simp [Xk]
 | x :: l=>by
  have h:=Tl hb l
  have:=hb x
  simp only [Xk,List.map_cons,List.sum_cons,List.length_cons] at h ⊢
  omega
theorem Zk0 {α:Type} {b:α→Nat} {x:α}:∀ {l:List α},x ∈ l→b x+1≤Xk b l
 | y :: l,h=>by
  simp only [Xk,List.map_cons,List.sum_cons]
  rcases List.mem_cons.1 h with rfl | h
  ·omega
  ·have:=Zk0 (b:=b) h
   simp only [Xk] at this
   omega
theorem Zmi {α:Type} {b:α→Nat} (l:List α):1≤Xk b l:=by simp only [Xk];omega
theorem Zis (s:ByteArray):1≤Ym s:=by simp only [Ym];omega
theorem Zmg {α:Type} (s:α):1≤Yp s:=by simp only [Yp];omega
theorem Zmh {α:Type} {b:α→Nat} (s:α):1≤Yz b s:=by simp only [Yz];omega
abbrev Zab:QV→Nat:=Yz (Xq (Yz (Xq Yp (Xk Yp))) (Xk Yp))
abbrev qQ:QV→Prop:=Y2 (Y2 (fun _=>True) (Wi (U2 .u32))) (Wi (U2 .u32))
abbrev Zfx:Wn→Nat:=Yz (Xq Ym (Xq (Xk Ym) (Xq (Xk (Xk Ym)) (Xq (Xk (Xk Yp)) (Xk (Xk Zab))))))
abbrev Ztj:Wn→Prop:=Y2 (fun _=>True) (Y2 (Wi (fun _=>True)) (Y2 (Wi (Wi (fun _=>True))) (Y2 (Wi (Wi (U2 .i64))) (Wi (Wi qQ)))))
theorem Zry {l:List Int} (h:Wi (U2 .u32) l):Zn l:=by
 intro d hd
 have h1:=h d hd
 simp [U2,Lit.wf,IntKind.min,IntKind.max,IntKind.signed,IntKind.bits] at h1
 omega
theorem Z1a {x:QV} (h:qQ x):Uu x:=⟨Zry h.1.2,Zry h.2⟩
theorem Zpk (x:QV):x.1.2.length+x.2.length+4≤Zab x:=by
 have h1:=Tl (b:=Yp) Zmg x.1.2
 have h2:=Tl (b:=Yp) Zmg x.2
 simp only [Yz,Xq]
 have h3:Yp x.1.1=1:=rfl
 omega
theorem Ztn:∀ t:List QV,Yn t≤Xk Zab t
 | []=>by rw [Yn];omega
 | x :: t=>by
  have h1:=Ztn t
  have h2:=Zpk x
  rw [Yn]
  simp only [Xk,List.map_cons,List.sum_cons] at h1 ⊢
  omega
theorem Zvd:∀ P:List (List Int),Ur P+P.length≤Xk (Xk Yp) P
 | []=>by simp [Ur,Xk]
 | l :: P=>by
  have h1:=Zvd P
  have h2:=Tl (b:=Yp) Zmg l
  rw [Zih,List.length_cons]
  simp only [Xk,List.map_cons,List.sum_cons] at h1 h2 ⊢
  omega
theorem Z1t {n:Wn} (hb:Zfx n≤1048576) (hq:Ztj n):Zc4 n 1048576∧Zip n:=by
 have a1:=Zis n.1
 have a2:=Tl (b:=Ym) Zis n.2.1
 have a3:=Tl (b:=Xk Ym) Zmi n.2.2.1
 have a4:=Zvd n.2.2.2.1
 have a5:=Tl (b:=Xk Zab) Zmi n.2.2.2.2
 have a6:=Zmi (b:=Xk Yp) n.2.2.2.1
 simp only [Zfx,Yz,Xq] at hb
 have b3:∀ l ∈ n.2.2.1,l.length≤1048576:=fun l hl=>by
  have h1:=Zk0 (b:=Xk Ym) hl
  have h2:=Tl (b:=Ym) Zis l
  omega
 have b4:∀ l ∈ n.2.2.2.1,l.length≤1048576:=fun l hl=>by
  have h1:=Zlv hl
  omega
 have b5:∀ t ∈ n.2.2.2.2,Xk Zab t≤1048576:=fun t ht=>by
  have h1:=Zk0 (b:=Xk Zab) ht
  omega
 have b6:∀ t ∈ n.2.2.2.2,t.length≤1048576:=fun t ht=>by
  have h1:=b5 t ht
  have h2:=Tl (b:=Zab) Zmh t
  omega
 refine ⟨⟨by omega,b3,⟨by omega,by omega⟩,b6,fun t ht=>Nat.le_trans (Ztn t) (b5 t ht),fun t ht x hx=>Z1a (hq.2.2.2.2 t ht x hx)⟩,⟨by omega,by omega,b3,by omega,b4,by omega,b6,fun t ht x hx=>?_⟩⟩
 have h1:=b5 t ht
 have h2:=Zk0 (b:=Zab) hx
 have h3:=Zpk x
 omega
theorem Z1s:Ya 4611686018427387904 (8 * 1048576+40):=by rw [Ya];decide
theorem Zvt:Zgk 4611686018427387904=some true:=by decide+kernel

end Go.Proofs.YtdpdogdkolblnaaGreatDoor
