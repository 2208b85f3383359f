/-
  What functions of the program compute, as plain Lean functions (m_..), and proofs that they compute it (c_..). Printed by a program of the author; no conditions.
-/
import Derived.Test.YtbmjpjhbankpoaaGreatCodeSpanBFloat
import Derived.Test.YtbmjpjhbankpoaaGreatProg
import Derived.Test.YtbmjpjhbankpoaaGreatCodeSpanBBrief
import Derived.Test.YtbmjpjhbankpoaaGreatCodeSpanBBulk
import Derived.Test.YtbmjpjhbankpoaaGreatCodeSpanBView
import Derived.Test.YtbmjpjhbankpoaaGreatCodeSpanF4
set_option linter.unusedVariables false
set_option maxRecDepth 100000
set_option maxHeartbeats 2000000
namespace Go.Proofs.YtbmjpjhbankpoaaGreat
open Go Go.RowKit
open Go.IntKind (i8 i16 i32 i64 u8 u16 u32 u64)
open Go.Proofs.Tryz

theorem Zyw:Wr Tryz.prog 9 1 16:=⟨Tryz.t9,_,rfl,rfl,rfl,rfl,rfl⟩
theorem Zyp:Wr Tryz.prog 22 1 24:=⟨Tryz.t22,_,rfl,rfl,rfl,rfl,rfl⟩
theorem Zys:Wr Tryz.prog 40 1 24:=⟨Tryz.t40,_,rfl,rfl,rfl,rfl,rfl⟩
theorem Zyu:Wr Tryz.prog 56 1 24:=⟨Tryz.t56,_,rfl,rfl,rfl,rfl,rfl⟩
def Zd4 (N:Nat) (ah:R1) (ai:ByteArray) (aj:List ByteArray) (ak:List R6) (al:List R5) (ad:List R9) (ae:Int) (kk_L3:(ByteArray→Ra→(List R6)→(List R5)→(List R9)→Int→Option R3)):Nat→Int→(List ((Bool×R5)×R5))→Option R3
  | 0,_,_=>none
  | am+1,af,ab=>(Zk ah.2.2.2.2 ae).bind fun ac=>if (decide (af<(ac.length:Int)))=true then ((Zk ac af).bind fun ag=>(Zgs ((ag.1.1,ag.1.2),ag.2)).bind fun aa=>Zx ((ab.length+[((aa.1.1,(aa.1.2.1,aa.1.2.2)),(aa.2.1,aa.2.2))].length) * 56≤140737488355328∧ab.length+[((aa.1.1,(aa.1.2.1,aa.1.2.2)),(aa.2.1,aa.2.2))].length≤maxLen) ((Zd4 N ah ai aj ak al ad ae kk_L3 am) (i64.wrap (af+1)) (ab++[((aa.1.1,(aa.1.2.1,aa.1.2.2)),(aa.2.1,aa.2.2))]))) else (Zx ((ab.length+[((false,(0,([]:List Int))),([97].length,[97])),((false,(0,([]:List Int))),([98].length,[98]))].length) * 56≤140737488355328∧ab.length+[((false,(0,([]:List Int))),([97].length,[97])),((false,(0,([]:List Int))),([98].length,[98]))].length≤maxLen) (Zx ((0:Int)≤(ac.length:Int)∧(ac.length:Int)≤((ab++[((false,(0,([]:List Int))),([97].length,[97])),((false,(0,([]:List Int))),([98].length,[98]))]).length:Int)) (Zx ((ad.length+[((Int.toNat (ac.length:Int)),ab++[((false,(0,([]:List Int))),([97].length,[97])),((false,(0,([]:List Int))),([98].length,[98]))])].length) * 24≤140737488355328∧ad.length+[((Int.toNat (ac.length:Int)),ab++[((false,(0,([]:List Int))),([97].length,[97])),((false,(0,([]:List Int))),([98].length,[98]))])].length≤maxLen) (kk_L3 ai aj ak al (ad++[((Int.toNat (ac.length:Int)),ab++[((false,(0,([]:List Int))),([97].length,[97])),((false,(0,([]:List Int))),([98].length,[98]))])]) (i64.wrap (ae+1))))))
termination_by structural x=>x
def Zb4 (N:Nat) (aa:R1):Nat→ByteArray→Ra→(List R6)→(List R5)→(List R9)→Int→Option R3
  | 0,_,_,_,_,_,_=>none
  | ah+1,ab,ac,ad,ae,af,ag=>if (decide (ag<(aa.2.2.2.2.length:Int)))=true then (Zd4 N aa ab ac ad ae af ag (Zb4 N aa ah) N 0 ([]:List ((Bool×R5)×R5))) else (some (ab,((Int.toNat (aa.2.1.length:Int)),ac),ad,ae,af))
termination_by structural x=>x
def Zd3 (N:Nat) (ab:R1):Nat→ByteArray→Ra→(List R6)→(List R5)→(List R9)→Int→Option R3
  | 0,_,_,_,_,_,_=>none
  | ai+1,ae,af,ag,ac,ah,ad=>if (decide (ad<(ab.2.2.2.1.length:Int)))=true then ((Zk ab.2.2.2.1 ad).bind fun aa=>Zx ((([]:List Int).length+aa.length) * 8≤140737488355328∧([]:List Int).length+aa.length≤maxLen) (Zx (((([]:List Int)++aa).length+[(-95),(-96)].length) * 8≤140737488355328∧(([]:List Int)++aa).length+[(-95),(-96)].length≤maxLen) (Zx ((0:Int)≤(aa.length:Int)∧(aa.length:Int)≤(((([]:List Int)++aa)++[(-95),(-96)]).length:Int)) (Zx ((ac.length+[((Int.toNat (aa.length:Int)),(([]:List Int)++aa)++[(-95),(-96)])].length) * 24≤140737488355328∧ac.length+[((Int.toNat (aa.length:Int)),(([]:List Int)++aa)++[(-95),(-96)])].length≤maxLen) ((Zd3 N ab ai) ae af ag (ac++[((Int.toNat (aa.length:Int)),(([]:List Int)++aa)++[(-95),(-96)])]) ah (i64.wrap (ad+1))))))) else (Zb4 N ab N ae af ag ac ah 0)
termination_by structural x=>x
def Zd2 (N:Nat) (ab:R1):Nat→ByteArray→Ra→(List R6)→(List R5)→(List R9)→Int→Option R3
  | 0,_,_,_,_,_,_=>none
  | ai+1,ae,af,ac,ag,ah,ad=>if (decide (ad<(ab.2.2.1.length:Int)))=true then ((Zk ab.2.2.1 ad).bind fun aa=>Zx ((([]:List ByteArray).length+aa.length) * 16≤140737488355328∧([]:List ByteArray).length+aa.length≤maxLen) (Zx (((([]:List ByteArray)++aa).length+([⟨#[35,51]⟩,⟨#[35,52]⟩]:List ByteArray).length) * 16≤140737488355328∧(([]:List ByteArray)++aa).length+([⟨#[35,51]⟩,⟨#[35,52]⟩]:List ByteArray).length≤maxLen) (Zx ((0:Int)≤(aa.length:Int)∧(aa.length:Int)≤(((([]:List ByteArray)++aa)++([⟨#[35,51]⟩,⟨#[35,52]⟩]:List ByteArray)).length:Int)) (Zx ((ac.length+([((Int.toNat (aa.length:Int)),(([]:List ByteArray)++aa)++([⟨#[35,51]⟩,⟨#[35,52]⟩]:List ByteArray))]:List R6).length) * 24≤140737488355328∧ac.length+([((Int.toNat (aa.length:Int)),(([]:List ByteArray)++aa)++([⟨#[35,51]⟩,⟨#[35,52]⟩]:List ByteArray))]:List R6).length≤maxLen) ((Zd2 N ab ai) ae af (ac++([((Int.toNat (aa.length:Int)),(([]:List ByteArray)++aa)++([⟨#[35,51]⟩,⟨#[35,52]⟩]:List ByteArray))]:List R6)) ag ah (i64.wrap (ad+1))))))) else (Zd3 N ab N ae af ac ag ah 0)
termination_by structural x=>x
def Zgu (N:Nat) (aa:R1):Option R3:=
  Zx ((([]:List ByteArray).length+aa.2.1.length) * 16≤140737488355328∧([]:List ByteArray).length+aa.2.1.length≤maxLen) (Zx (((([]:List ByteArray)++aa.2.1).length+([⟨#[35,49]⟩,⟨#[35,50]⟩]:List ByteArray).length) * 16≤140737488355328∧(([]:List ByteArray)++aa.2.1).length+([⟨#[35,49]⟩,⟨#[35,50]⟩]:List ByteArray).length≤maxLen) (Zx ((0:Int)≤(aa.2.1.length:Int)∧(aa.2.1.length:Int)≤(((([]:List ByteArray)++aa.2.1)++([⟨#[35,49]⟩,⟨#[35,50]⟩]:List ByteArray)).length:Int)) (Zd2 N aa N aa.1 ((([]:List ByteArray)++aa.2.1)++([⟨#[35,49]⟩,⟨#[35,50]⟩]:List ByteArray)) ([]:List R6) ([]:List R5) ([]:List R9) 0)))
theorem Zxs {N b9 ca cb cc:Nat} {cd ce cf cg:Option Addr} {col:Zd} {w0:World} {ac:R1} {r:R3} (hm:Zgu N ac=some r) (ei:Sl Za.str col w0 cd b9 ac.2.1) (ch:Sl (Za.slice Za.str) col w0 ce ca ac.2.2.1) (ci:Sl (Za.slice (Za.int .i64)) col w0 cf cb ac.2.2.2.1) (bj:Sl (Za.slice (Za.pair (Za.pair Za.bool (Za.slice (Za.int .u32))) (Za.slice (Za.int .u32)))) col w0 cg cc ac.2.2.2.2):
    Calls Tryz.prog 15 #[(.agg #[.string ac.1,.slice cd ac.2.1.length b9,.slice ce ac.2.2.1.length ca,.slice cf ac.2.2.2.1.length cb,.slice cg ac.2.2.2.2.length cc])] w0 (fun e w'=>∃ (col':Zd) (ra1:Option Addr) (rc2:Nat) (ra4:Option Addr) (rc5:Nat) (ra7:Option Addr) (rc8:Nat) (ra10:Option Addr) (rc11:Nat),e= .returned ((.agg #[.string r.1,.slice ra1 ((r.2.1.2.take r.2.1.1).length) rc2,.slice ra4 r.2.2.1.length rc5,.slice ra7 r.2.2.2.1.length rc8,.slice ra10 r.2.2.2.2.length rc11]))∧Zf col w0 col' w'∧Sl Za.str col' w' ra1 rc2 r.2.1.2∧Sl (Za.view Za.str) col' w' ra4 rc5 r.2.2.1∧Sl (Za.view (Za.int .i64)) col' w' ra7 rc8 r.2.2.2.1∧Sl (Za.view (Za.pair (Za.pair Za.bool (Za.view (Za.int .u32))) (Za.view (Za.int .u32)))) col' w' ra10 rc11 r.2.2.2.2):=by
 refine Yd (m:=142) func15 rfl rfl rfl ?_;rw [Zgu.eq_1] at hm;have aa:=St.start col w0;refine go ?_;refine Xh (col:=(Zi col)) 1 rfl ?_;intro dt ig f6 f7 ab;refine Xp (col:=f6) #[.string (⟨#[]⟩),.slice none (([]:List ByteArray).length) 0,.slice none (([]:List R6).length) 0,.slice none (([]:List R5).length) 0,(.slice none (([]:List R9).length) 0)] 2 zeroValue27 ?_;intro du ih f8 fk ae;refine go ?_;refine Z3 ⟨_,_,rfl⟩ ?_;replace ab:=ab.gr fk;refine lW ((ab.atN).nth (q:=0) rfl)<|lV (.agg #[.string ac.1,.slice none (([]:List ByteArray).length) 0,.slice none (([]:List R6).length) 0,.slice none (([]:List R5).length) 0,(.slice none (([]:List R9).length) 0)]) (Ys (l:=[_,_,_,_,_]) (qs:=[(0,1),(1,1),(2,1),(3,1),(4,1)]) underlying27 zeroValue27 ⟨rfl,sizeOf9,rfl,sizeOf22,rfl,sizeOf23,rfl,sizeOf24,rfl,sizeOf25,trivial⟩ rfl)<|Xp (col:=f8) #[.string (⟨#[]⟩),.slice none (([]:List ByteArray).length) 0,.slice none (([]:List R6).length) 0,.slice none (([]:List R5).length) 0,(.slice none (([]:List R9).length) 0)] 3 zeroValue27 ?_;intro ax ii ij ej f9;refine Z7 f9 ?_;intro ik ek ga dv;refine go ?_;refine Z9 dv<|Z3 ⟨_,_,rfl⟩ ?_;replace ab:=(ab.gr ej).kp ek;refine lW ((ab.atN).nth (q:=1) rfl) ?_;obtain ⟨gb,hm⟩:=Zz hm;replace ei:=ei.keep (Zj.start col w0);replace aa:=(((aa.grow f7).grow fk).grow ej).kp ek ga;refine Wn (c:=4) Zc.nil (ei.ks aa).srcC gb ?_;intro fl fm il fn dw el;refine Z3 ⟨_,_,rfl⟩ ?_;replace dv:=dv.kpp dw;refine Zco (off:=1) (v:=(.slice fl ((([]:List ByteArray)++ac.2.1).length) fm)) dv sizeOf22 rfl rfl (by intro u hu;simp only [Value.cells,List.mem_cons,List.not_mem_nil,or_false] at hu;subst hu;rfl) rfl rfl ?_;intro gc dx gd cj;replace cj:Zn 27 3 fn gc ax #[.string ac.1,.slice fl ((([]:List ByteArray)++ac.2.1).length) fm,.slice none (([]:List R6).length) 0,.slice none (([]:List R5).length) 0,(.slice none (([]:List R9).length) 0)]:=cj;refine go ?_;refine Z9 cj<|Zqy (col:=fn) ([⟨#[35,49]⟩,⟨#[35,50]⟩]:List ByteArray) 5 ?_;intro im ge gf c5 gg;obtain ⟨fp,hm⟩:=Zz hm;replace el:=(el.kp dx).gr c5
 refine Zbd (col:=gf) (w:=ge) (r:=Za.str) (c:=4) (c2:=4) (el.ex) (gg.srcN NB.str) rfl underlying22 Zyw rfl rfl rfl fp.1 fp.2 (by decide) ?_;intro bw bx io fq dy em;refine Z3 ⟨_,_,rfl⟩ ?_;replace cj:=(cj.gr c5).kpp dy;refine Zco (off:=1) (v:=(.slice bw (((([]:List ByteArray)++ac.2.1)++([⟨#[35,49]⟩,⟨#[35,50]⟩]:List ByteArray)).length) bx)) cj sizeOf22 rfl rfl (by intro u hu;simp only [Value.cells,List.mem_cons,List.not_mem_nil,or_false] at hu;subst hu;rfl) rfl rfl ?_;intro gh dz gi d0;replace d0:Zn 27 3 fq gh ax #[.string ac.1,(.slice bw (((([]:List ByteArray)++ac.2.1)++([⟨#[35,49]⟩,⟨#[35,50]⟩]:List ByteArray)).length) bx),.slice none (([]:List R6).length) 0,.slice none (([]:List R5).length) 0,(.slice none (([]:List R9).length) 0)]:=d0;replace em:=em.kp dz;have d1:=em.new;refine go ?_;refine Z9 d0<|Z3 ⟨_,_,rfl⟩ ?_;replace ab:=((((ab.kpp dw).kp dx).gr c5).kpp dy).kp dz;refine lW ((ab.atN).nth (q:=1) rfl)<|go ?_;obtain ⟨en,hm⟩:=Zz hm;refine lv (v:=.slice bw (Int.toNat (ac.2.1.length:Int)) bx) rfl rfl (Vu underlying22 sizeOf9 rfl rfl en.1 (by have:=d1.lecap;have:=en.2;omega))<|.ld (d:=30) (v:=(.slice bw ((((([]:List ByteArray)++ac.2.1)++([⟨#[35,49]⟩,⟨#[35,50]⟩]:List ByteArray)).take (Int.toNat (ac.2.1.length:Int))).length) bx)) (congrArg (fun n=>Value.slice bw n bx) (List.length_take_of_le (show (Int.toNat (ac.2.1.length:Int))≤((([]:List ByteArray)++ac.2.1)++([⟨#[35,49]⟩,⟨#[35,50]⟩]:List ByteArray)).length by have:=en.2;omega)).symm) ?_;refine Z3 ⟨_,_,rfl⟩ ?_;refine Zco (off:=1) (v:=(.slice bw ((((([]:List ByteArray)++ac.2.1)++([⟨#[35,49]⟩,⟨#[35,50]⟩]:List ByteArray)).take (Int.toNat (ac.2.1.length:Int))).length) bx)) d0 sizeOf22 rfl rfl (by intro u hu;simp only [Value.cells,List.mem_cons,List.not_mem_nil,or_false] at hu;subst hu;rfl) rfl rfl ?_;intro gj d2 gk ad;replace ad:Zn 27 3 fq gj ax #[.string ac.1,(.slice bw ((((([]:List ByteArray)++ac.2.1)++([⟨#[35,49]⟩,⟨#[35,50]⟩]:List ByteArray)).take (Int.toNat (ac.2.1.length:Int))).length) bx),.slice none (([]:List R6).length) 0,.slice none (([]:List R5).length) 0,(.slice none (([]:List R9).length) 0)]:=ad;refine go ?_;replace ae:=(((((((ae.gr ej).kp ek).kpp dw).kp dx).gr c5).kpp dy).kp dz).kp d2;replace aa:=(((((aa.kpp dw).kp dx gd).grow c5).kpp dy).kp dz gi).kp d2 gk
 replace d1:=d1.kp d2;replace ab:=ab.kp d2;refine Zw [1,2,3,1000000] (fun n f a1=>∃ a2 d3 d4 d5 c6 eo ep ck d6 d7 c7 d8 d9 c8 eq cl,cl=n∧Zd2 N ac cl d3 c6 ck c7 c8 eq=some r∧St w0 (Zi col) a2 a1∧Zn 27 1 a2 a1 dt #[.string ac.1,.slice cd ac.2.1.length b9,.slice ce ac.2.2.1.length ca,.slice cf ac.2.2.2.1.length cb,.slice cg ac.2.2.2.2.length cc]∧Zn 27 2 a2 a1 du #[.string (⟨#[]⟩),.slice none (([]:List ByteArray).length) 0,.slice none (([]:List R6).length) 0,.slice none (([]:List R5).length) 0,(.slice none (([]:List R9).length) 0)]∧Zc Za.str 9 4 a2 a1 d4 d5 c6∧Zc (Za.view Za.str) 22 6 a2 a1 eo ep ck∧Zc (Za.view (Za.int .i64)) 40 7 a2 a1 d6 d7 c7∧Zc (Za.view (Za.pair (Za.pair Za.bool (Za.view (Za.int .u32))) (Za.view (Za.int .u32)))) 56 8 a2 a1 d8 d9 c8∧Zn 27 3 a2 a1 ax #[.string d3,(.slice d4 ((c6.take (Int.toNat (ac.2.1.length:Int))).length) d5),.slice eo ck.length ep,.slice d6 c7.length d7,.slice d8 c8.length d9]∧[4].map f=[.int .i64 eq]) N ⟨_,_,_,_,_,none,0,_,none,0,_,none,0,_,0,_,rfl,hm,aa,ab,ae,d1,Zc.nil,Zc.nil,Zc.nil,ad,rfl⟩ ?_;clear hm;intro n f a1 hI;obtain ⟨a2,d3,d4,d5,c6,eo,ep,ck,d6,d7,c7,d8,d9,c8,eq,cl,hn,hm,aa,ab,ae,am,bk,an,ao,ad,hs⟩:=hI;subst hn;refine .lL [4] hs ?_;replace ch:=ch.keep (Zj.start col w0);replace ci:=ci.keep (Zj.start col w0);replace bj:=bj.keep (Zj.start col w0)
 cases cl with
 | zero=>rw [Zd2.eq_1] at hm;cases hm
 | succ cl=>
  rw [Zd2.eq_2] at hm;refine go ?_;refine Z9 ab ?_;refine go ?_;refine Zp hm (fun hb hm=>go ?_) fun hb hm=>go ?_
  ·refine Z9 ab<|Xu rfl ?_;obtain ⟨ak,bz,hm⟩:=bZ hm;refine lI bz ((ch.ks aa).addr bz) ?_;obtain ⟨_,gl,gm⟩:=(ch.ks aa).atN bz;obtain ⟨⟨ip,iq,rfl,gp⟩,_⟩:=gl;refine lW gm.one ?_;obtain ⟨gs,hm⟩:=Zz hm;refine Wn (c:=9) Zc.nil gp.srcC gs ?_;intro ir it iu gt bm er;refine go ?_;refine Zqy (col:=gt) ([⟨#[35,51]⟩,⟨#[35,52]⟩]:List ByteArray) 10 ?_;intro iv iw ix a3 gu;obtain ⟨gv,hm⟩:=Zz hm;replace er:=er.gr a3;refine Wn er (gu.srcN NB.str) gv ?_;intro c9 da iy cn bn co;refine go ?_;refine Wa (col:=cn) [(0,1),(1,0),(2,1),(3,1),(4,0),(5,1),(6,1),(7,0),(8,1),(9,1),(10,3),(11,2),(12,1),(13,2)] (by kernel_rfl) (by kernel_rfl)<|xF ⟨_,_,rfl⟩ ?_;replace ad:=((ad.kpp bm).gr a3).kpp bn;refine xW (fun _ hC=>((ad.atN).nth (q:=2) rfl).gr (hC.bl cn)) ?_;refine xu rfl rfl (fun _=>Vs rfl) ?_;refine xF ⟨_,_,rfl⟩ ?_;replace ab:=((ab.kpp bm).gr a3).kpp bn;refine xW (fun _ hC=>((ab.atN).nth (q:=2) rfl).gr (hC.bl cn)) ?_;refine xu rfl rfl (fun _=>Vd rfl) ?_;replace aa:=((aa.kpp bm).grow a3).kpp bn;refine xu rfl rfl (fun _=>Y3 underlying23 sizeOf22 rfl rfl (Xl bz).1 (Xl bz).2.1 ((ch.ks aa).addr bz)) ?_;obtain ⟨_,gw,gx⟩:=(ch.ks aa).atN bz;obtain ⟨⟨iz,i0,rfl,i1⟩,_⟩:=gw;refine xW (fun _ hC=>gx.one.gr (hC.bl cn)) ?_;refine xu rfl rfl (fun _=>To underlying22 rfl) ?_;obtain ⟨es,hm⟩:=Zz hm;refine xu (v:=.slice c9 (Int.toNat (ak.length:Int)) da) rfl rfl (fun _=>Vu underlying22 sizeOf9 rfl rfl es.1 (by have:=co.lecap;have:=es.2;omega)) ?_;refine .ld (d:=58) (v:=(.slice c9 ((((([]:List ByteArray)++ak)++([⟨#[35,51]⟩,⟨#[35,52]⟩]:List ByteArray)).take (Int.toNat (ak.length:Int))).length) da)) (congrArg (fun n=>Value.slice c9 n da) (List.length_take_of_le (show (Int.toNat (ak.length:Int))≤((([]:List ByteArray)++ak)++([⟨#[35,51]⟩,⟨#[35,52]⟩]:List ByteArray)).length by have:=es.2;omega)).symm) ?_;refine xe rfl rfl ?_;intro i2 hC0;have hC:=hC0.bl cn;replace am:=(((am.kpp bm).gr a3).kpp bn).gr hC;replace am:=am.froz 9 (by decide);replace bk:=(((bk.kpp bm).gr a3).kpp bn).gr hC;replace bk:=bk.froz 9 (by decide);replace an:=(((an.kpp bm).gr a3).kpp bn).gr hC;replace an:=an.froz 9 (by decide);replace ao:=(((ao.kpp bm).gr a3).kpp bn).gr hC;replace ao:=ao.froz 9 (by decide);replace co:=co.gr hC;replace co:=(co).toSlF Zm.str;replace ab:=ab.gr hC;replace ab:=ab.froz 9 (by decide);replace ae:=(((ae.kpp bm).gr a3).kpp bn).gr hC
   replace ae:=ae.froz 9 (by decide);replace ad:=ad.gr hC;replace ad:=ad.froz 9 (by decide);replace aa:=aa.grow hC;replace aa:=aa.froz 9 (by decide) (by decide);refine Q8 (col:=(Xn 9 cn)) (r:=(Za.view Za.str)) (xs:=([((Int.toNat (ak.length:Int)),(([]:List ByteArray)++ak)++([⟨#[35,51]⟩,⟨#[35,52]⟩]:List ByteArray))]:List R6)) [(.slice c9 ((((([]:List ByteArray)++ak)++([⟨#[35,51]⟩,⟨#[35,52]⟩]:List ByteArray)).take (Int.toNat (ak.length:Int))).length) da)] 11 (Wt.ofF (Rows.consF (r:=(Za.view Za.str)) (x:=((Int.toNat (ak.length:Int)),(([]:List ByteArray)++ak)++([⟨#[35,51]⟩,⟨#[35,52]⟩]:List ByteArray))) (cs:=[(.slice c9 ((((([]:List ByteArray)++ak)++([⟨#[35,51]⟩,⟨#[35,52]⟩]:List ByteArray)).take (Int.toNat (ak.length:Int))).length) da)]) (Zi9 co) Rows.nil0)) ?_;intro i3 i4 et a4 eu;refine Zl<|Xo et hC0 a4<|xe rfl rfl ?_;intro gy hC0;have hC:=hC0.bl et;obtain ⟨fr,hm⟩:=Zz hm;replace bk:=(bk.gr a4).gr hC;replace eu:=eu.gr hC;refine Zbd (col:=et) (w:=gy) (r:=(Za.view Za.str)) (c:=6) (c2:=6) (bk.ex) (eu.srcN NB.view) rfl underlying23 Zyp rfl rfl rfl fr.1 fr.2 (by decide) ?_;intro ft fu i5 db b0 ew;refine Zl<|xk db<|xF ⟨_,_,rfl⟩ ?_;refine xe rfl rfl ?_;intro i6 hC0;replace am:=((am.gr a4).gr hC).kpp b0;replace an:=((an.gr a4).gr hC).kpp b0;replace ao:=((ao.gr a4).gr hC).kpp b0;replace ab:=((ab.gr a4).gr hC).kpp b0;replace ae:=((ae.gr a4).gr hC).kpp b0;replace ad:=((ad.gr a4).gr hC).kpp b0;replace aa:=((aa.grow a4).grow hC).kpp b0;have hC:=hC0.bl db;replace ad:=ad.gr hC;refine Zco (off:=2) (v:=(.slice ft ((ck++([((Int.toNat (ak.length:Int)),(([]:List ByteArray)++ak)++([⟨#[35,51]⟩,⟨#[35,52]⟩]:List ByteArray))]:List R6)).length) fu)) ad sizeOf23 rfl rfl (by intro u hu;simp only [Value.cells,List.mem_cons,List.not_mem_nil,or_false] at hu;subst hu;rfl) rfl rfl ?_;intro gz b1 g0 dc;replace dc:Zn 27 3 db gz ax #[.string d3,(.slice d4 ((c6.take (Int.toNat (ac.2.1.length:Int))).length) d5),(.slice ft ((ck++([((Int.toNat (ak.length:Int)),(([]:List ByteArray)++ak)++([⟨#[35,51]⟩,⟨#[35,52]⟩]:List ByteArray))]:List R6)).length) fu),.slice d6 c7.length d7,.slice d8 c8.length d9]:=dc;refine Zl<|xk db ?_;replace ew:=(ew.gr hC).kp b1;have ey:=ew.new;refine Y1 ?_;replace am:=(am.gr hC).kp b1;replace an:=(an.gr hC).kp b1;replace ao:=(ao.gr hC).kp b1
   replace ab:=(ab.gr hC).kp b1;replace ae:=(ae.gr hC).kp b1;replace aa:=(aa.grow hC).kp b1 g0;intro i7 hC;replace hC:=hC.bl db;refine go ?_;replace am:=am.gr hC;replace ey:=ey.gr hC;replace an:=an.gr hC;replace ao:=ao.gr hC;replace ab:=ab.gr hC;replace ae:=ae.gr hC;replace dc:=dc.gr hC;replace aa:=aa.grow hC;exact ⟨cl,by omega,rfl,⟨_,_,_,_,_,_,_,_,_,_,_,_,_,_,_,_,rfl,hm,aa,ab,ae,am,ey,an,ao,dc,rfl⟩⟩
  refine Zw [1,2,3,1000000] (fun n f a5=>∃ a6 ea eb ec dd ed ee de ez e0 cp ef eg df e1 cq,cq=n∧Zd3 N ac cq ea dd de cp df e1=some r∧St w0 (Zi col) a6 a5∧Zn 27 1 a6 a5 dt #[.string ac.1,.slice cd ac.2.1.length b9,.slice ce ac.2.2.1.length ca,.slice cf ac.2.2.2.1.length cb,.slice cg ac.2.2.2.2.length cc]∧Zn 27 2 a6 a5 du #[.string (⟨#[]⟩),.slice none (([]:List ByteArray).length) 0,.slice none (([]:List R6).length) 0,.slice none (([]:List R5).length) 0,(.slice none (([]:List R9).length) 0)]∧Zc Za.str 9 4 a6 a5 eb ec dd∧Zc (Za.view Za.str) 22 6 a6 a5 ed ee de∧Zc (Za.view (Za.int .i64)) 40 7 a6 a5 ez e0 cp∧Zc (Za.view (Za.pair (Za.pair Za.bool (Za.view (Za.int .u32))) (Za.view (Za.int .u32)))) 56 8 a6 a5 ef eg df∧Zn 27 3 a6 a5 ax #[.string ea,(.slice eb ((dd.take (Int.toNat (ac.2.1.length:Int))).length) ec),.slice ed de.length ee,.slice ez cp.length e0,.slice ef df.length eg]∧[6].map f=[.int .i64 e1]) N ⟨_,_,_,_,_,_,_,_,_,_,_,_,_,_,0,_,rfl,hm,aa,ab,ae,am,bk,an,ao,ad,rfl⟩ ?_;clear hm;intro n f a5 hI;obtain ⟨a6,ea,eb,ec,dd,ed,ee,de,ez,e0,cp,ef,eg,df,e1,cq,hn,hm,aa,ab,ae,ap,aq,bo,ar,ad,hs⟩:=hI;subst hn;refine .lL [6] hs ?_
  cases cq with
  | zero=>rw [Zd3.eq_1] at hm;cases hm
  | succ cq=>
   rw [Zd3.eq_2] at hm;refine go ?_;refine Z9 ab ?_;refine go ?_;refine Zp hm (fun hb hm=>go ?_) fun hb hm=>go ?_
   ·refine Z9 ab<|Xu rfl ?_;obtain ⟨al,b2,hm⟩:=bZ hm;refine lI b2 ((ci.ks aa).addr b2) ?_;obtain ⟨_,g1,g2⟩:=(ci.ks aa).atN b2;obtain ⟨⟨i8,i9,rfl,g3⟩,_⟩:=g1;refine lW g2.one ?_;obtain ⟨g4,hm⟩:=Zz hm;refine Wn (c:=12) Zc.nil g3.srcC g4 ?_;intro ja jb jc g5 bp e2;refine go ?_;refine Wu (col:=g5) [(-95),(-96)] 13 ?_;intro jd je jf a7 g6;obtain ⟨g7,hm⟩:=Zz hm;replace e2:=e2.gr a7;refine Wn e2 (g6.srcN (NB.int (k:=.i64))) g7 ?_;intro dg dh jg cr bq ct;refine go ?_;refine Wa (col:=cr) [(0,1),(1,0),(2,1),(3,1),(4,0),(5,1),(6,1),(7,0),(8,1),(9,1),(10,3),(11,2),(12,1),(13,2)] (by kernel_rfl) (by kernel_rfl)<|xF ⟨_,_,rfl⟩ ?_;replace ad:=((ad.kpp bp).gr a7).kpp bq;refine xW (fun _ hC=>((ad.atN).nth (q:=3) rfl).gr (hC.bl cr)) ?_;refine xu rfl rfl (fun _=>Vs rfl) ?_;refine xF ⟨_,_,rfl⟩ ?_;replace ab:=((ab.kpp bp).gr a7).kpp bq;refine xW (fun _ hC=>((ab.atN).nth (q:=3) rfl).gr (hC.bl cr)) ?_;refine xu rfl rfl (fun _=>Vd rfl) ?_;replace aa:=((aa.kpp bp).grow a7).kpp bq;refine xu rfl rfl (fun _=>Y3 underlying24 sizeOf40 rfl rfl (Xl b2).1 (Xl b2).2.1 ((ci.ks aa).addr b2)) ?_;obtain ⟨_,g8,g9⟩:=(ci.ks aa).atN b2;obtain ⟨⟨jh,ji,rfl,jj⟩,_⟩:=g8;refine xW (fun _ hC=>g9.one.gr (hC.bl cr)) ?_;refine xu rfl rfl (fun _=>To underlying40 rfl) ?_;obtain ⟨e3,hm⟩:=Zz hm;refine xu (v:=.slice dg (Int.toNat (al.length:Int)) dh) rfl rfl (fun _=>Vu underlying40 sizeOf3 rfl rfl e3.1 (by have:=ct.lecap;have:=e3.2;omega)) ?_;refine .ld (d:=88) (v:=(.slice dg ((((([]:List Int)++al)++[(-95),(-96)]).take (Int.toNat (al.length:Int))).length) dh)) (congrArg (fun n=>Value.slice dg n dh) (List.length_take_of_le (show (Int.toNat (al.length:Int))≤((([]:List Int)++al)++[(-95),(-96)]).length by have:=e3.2;omega)).symm) ?_;refine xe rfl rfl ?_;intro jk hC0;have hC:=hC0.bl cr;replace ap:=(((ap.kpp bp).gr a7).kpp bq).gr hC;replace ap:=ap.froz 12 (by decide);replace aq:=(((aq.kpp bp).gr a7).kpp bq).gr hC;replace aq:=aq.froz 12 (by decide);replace bo:=(((bo.kpp bp).gr a7).kpp bq).gr hC;replace bo:=bo.froz 12 (by decide);replace ar:=(((ar.kpp bp).gr a7).kpp bq).gr hC;replace ar:=ar.froz 12 (by decide);replace ct:=ct.gr hC;replace ct:=(ct).toSlF (Zm.int .i64);replace ab:=ab.gr hC;replace ab:=ab.froz 12 (by decide);replace ae:=(((ae.kpp bp).gr a7).kpp bq).gr hC
    replace ae:=ae.froz 12 (by decide);replace ad:=ad.gr hC;replace ad:=ad.froz 12 (by decide);replace aa:=aa.grow hC;replace aa:=aa.froz 12 (by decide) (by decide);refine Q8 (col:=(Xn 12 cr)) (r:=(Za.view (Za.int .i64))) (xs:=[((Int.toNat (al.length:Int)),(([]:List Int)++al)++[(-95),(-96)])]) [(.slice dg ((((([]:List Int)++al)++[(-95),(-96)]).take (Int.toNat (al.length:Int))).length) dh)] 14 (Wt.ofF (Rows.consF (r:=(Za.view (Za.int .i64))) (x:=((Int.toNat (al.length:Int)),(([]:List Int)++al)++[(-95),(-96)])) (cs:=[(.slice dg ((((([]:List Int)++al)++[(-95),(-96)]).take (Int.toNat (al.length:Int))).length) dh)]) (Zi9 ct) Rows.nil0)) ?_;intro jl jm e4 a8 e5;refine Zl<|Xo e4 hC0 a8<|xe rfl rfl ?_;intro ha hC0;have hC:=hC0.bl e4;obtain ⟨fv,hm⟩:=Zz hm;replace bo:=(bo.gr a8).gr hC;replace e5:=e5.gr hC;refine Zbd (col:=e4) (w:=ha) (r:=(Za.view (Za.int .i64))) (c:=7) (c2:=7) (bo.ex) (e5.srcN NB.view) rfl underlying24 Zys rfl rfl rfl fv.1 fv.2 (by decide) ?_;intro fw fx jn di b3 e6;refine Zl<|xk di<|xF ⟨_,_,rfl⟩ ?_;refine xe rfl rfl ?_;intro jo hC0;replace ap:=((ap.gr a8).gr hC).kpp b3;replace aq:=((aq.gr a8).gr hC).kpp b3;replace ar:=((ar.gr a8).gr hC).kpp b3;replace ab:=((ab.gr a8).gr hC).kpp b3;replace ae:=((ae.gr a8).gr hC).kpp b3;replace ad:=((ad.gr a8).gr hC).kpp b3;replace aa:=((aa.grow a8).grow hC).kpp b3;have hC:=hC0.bl di;replace ad:=ad.gr hC;refine Zco (off:=3) (v:=(.slice fw ((cp++[((Int.toNat (al.length:Int)),(([]:List Int)++al)++[(-95),(-96)])]).length) fx)) ad sizeOf24 rfl rfl (by intro u hu;simp only [Value.cells,List.mem_cons,List.not_mem_nil,or_false] at hu;subst hu;rfl) rfl rfl ?_;intro hc b4 hd dj;replace dj:Zn 27 3 di hc ax #[.string ea,(.slice eb ((dd.take (Int.toNat (ac.2.1.length:Int))).length) ec),.slice ed de.length ee,(.slice fw ((cp++[((Int.toNat (al.length:Int)),(([]:List Int)++al)++[(-95),(-96)])]).length) fx),.slice ef df.length eg]:=dj;refine Zl<|xk di ?_;replace e6:=(e6.gr hC).kp b4;have e7:=e6.new;refine Y1 ?_;replace ap:=(ap.gr hC).kp b4;replace aq:=(aq.gr hC).kp b4;replace ar:=(ar.gr hC).kp b4;replace ab:=(ab.gr hC).kp b4;replace ae:=(ae.gr hC).kp b4;replace aa:=(aa.grow hC).kp b4 hd;intro jp hC;replace hC:=hC.bl di;refine go ?_;replace ap:=ap.gr hC;replace aq:=aq.gr hC;replace e7:=e7.gr hC
    replace ar:=ar.gr hC;replace ab:=ab.gr hC;replace ae:=ae.gr hC;replace dj:=dj.gr hC;replace aa:=aa.grow hC;exact ⟨cq,by omega,rfl,⟨_,_,_,_,_,_,_,_,_,_,_,_,_,_,_,_,rfl,hm,aa,ab,ae,ap,aq,e7,ar,dj,rfl⟩⟩
   refine Zw [1,2,3,1000000] (fun n f a9=>∃ ba cu cv cw br cx cy bs cz c0 bt dk dl bb eh b5,b5=n∧Zb4 N ac b5 cu br bs bt bb eh=some r∧St w0 (Zi col) ba a9∧Zn 27 1 ba a9 dt #[.string ac.1,.slice cd ac.2.1.length b9,.slice ce ac.2.2.1.length ca,.slice cf ac.2.2.2.1.length cb,.slice cg ac.2.2.2.2.length cc]∧Zn 27 2 ba a9 du #[.string (⟨#[]⟩),.slice none (([]:List ByteArray).length) 0,.slice none (([]:List R6).length) 0,.slice none (([]:List R5).length) 0,(.slice none (([]:List R9).length) 0)]∧Zc Za.str 9 4 ba a9 cv cw br∧Zc (Za.view Za.str) 22 6 ba a9 cx cy bs∧Zc (Za.view (Za.int .i64)) 40 7 ba a9 cz c0 bt∧Zc (Za.view (Za.pair (Za.pair Za.bool (Za.view (Za.int .u32))) (Za.view (Za.int .u32)))) 56 8 ba a9 dk dl bb∧Zn 27 3 ba a9 ax #[.string cu,(.slice cv ((br.take (Int.toNat (ac.2.1.length:Int))).length) cw),.slice cx bs.length cy,.slice cz bt.length c0,.slice dk bb.length dl]∧[8].map f=[.int .i64 eh]) N ⟨_,_,_,_,_,_,_,_,_,_,_,_,_,_,0,_,rfl,hm,aa,ab,ae,ap,aq,bo,ar,ad,rfl⟩ ?_;clear hm;intro n f a9 hI;obtain ⟨ba,cu,cv,cw,br,cx,cy,bs,cz,c0,bt,dk,dl,bb,eh,b5,hn,hm,aa,ab,ae,af,ag,ah,ai,ad,hs⟩:=hI;subst hn;refine .lL [8] hs ?_
   cases b5 with
   | zero=>rw [Zb4.eq_1] at hm;cases hm
   | succ b5=>
    rw [Zb4.eq_2] at hm;refine go ?_;refine Z9 ab ?_;refine go ?_;refine Zp hm (fun hb hm=>go ?_) fun hb hm=>go ?_
    ·refine Zw [1,2,3,8,1000000] (fun n f ay=>∃ aw e8 e9 fa au c1,c1=n∧Zd4 N ac cu br bs bt bb eh (Zb4 N ac b5) c1 e8 au=some r∧St w0 (Zi col) aw ay∧Zn 27 1 aw ay dt #[.string ac.1,.slice cd ac.2.1.length b9,.slice ce ac.2.2.1.length ca,.slice cf ac.2.2.2.1.length cb,.slice cg ac.2.2.2.2.length cc]∧Zn 27 2 aw ay du #[.string (⟨#[]⟩),.slice none (([]:List ByteArray).length) 0,.slice none (([]:List R6).length) 0,.slice none (([]:List R5).length) 0,(.slice none (([]:List R9).length) 0)]∧Zc Za.str 9 4 aw ay cv cw br∧Zc (Za.view Za.str) 22 6 aw ay cx cy bs∧Zc (Za.view (Za.int .i64)) 40 7 aw ay cz c0 bt∧Zc (Za.view (Za.pair (Za.pair Za.bool (Za.view (Za.int .u32))) (Za.view (Za.int .u32)))) 56 8 aw ay dk dl bb∧Zn 27 3 aw ay ax #[.string cu,(.slice cv ((br.take (Int.toNat (ac.2.1.length:Int))).length) cw),.slice cx bs.length cy,.slice cz bt.length c0,.slice dk bb.length dl]∧Zc (Za.pair (Za.pair Za.bool (Za.view (Za.int .u32))) (Za.view (Za.int .u32))) 47 15 aw ay e9 fa au∧[10,9].map f=[.int .i64 e8,.slice e9 au.length fa]) N ⟨_,0,none,0,_,_,rfl,hm,aa,ab,ae,af,ag,ah,ai,ad,Zc.nil,rfl⟩ ?_;clear hm;intro n f ay hI;obtain ⟨aw,e8,e9,fa,au,c1,hn,hm,aa,ab,ae,af,ag,ah,ai,ad,av,hs⟩:=hI;subst hn;refine .lL [10,9] hs ?_
     cases c1 with
     | zero=>rw [Zd4.eq_1] at hm;cases hm
     | succ c1=>
      rw [Zd4.eq_2] at hm;refine go ?_;refine Z9 ab<|Xu rfl ?_;obtain ⟨bc,az,hm⟩:=bZ hm;refine lI az ((bj.ks aa).addr az) ?_;obtain ⟨_,he,hf⟩:=(bj.ks aa).atN az;obtain ⟨⟨jq,jr,rfl,js⟩,_⟩:=he;refine lW hf.one<|go ?_;refine Zp hm (fun hb hm=>go ?_) fun hb hm=>go ?_
      ·refine Z9 ab<|Xu rfl<|lI az ((bj.ks aa).addr az) ?_;obtain ⟨_,hg,hh⟩:=(bj.ks aa).atN az;obtain ⟨⟨jt,ju,rfl,fy⟩,_⟩:=hg;refine lW hh.one<|Xu rfl ?_;obtain ⟨fb,fc,hm⟩:=bZ hm;refine lI fc (fy.addr fc) ?_;obtain ⟨_,hi,hj⟩:=fy.atN fc;obtain ⟨_,_,rfl,hk,hl⟩:=Yx hi;obtain ⟨_,_,rfl,ho,hp⟩:=Yx hk;obtain ⟨rfl,_⟩:=ho;obtain ⟨⟨hq,hr,rfl,ht⟩,_⟩:=hp;obtain ⟨⟨hv,hw,rfl,hx⟩,_⟩:=hl;refine lV (.agg #[.bool fb.1.1,.slice hq fb.1.2.length hr,.slice hv fb.2.length hw]) (Xq isAgg47 sizeOf47 rfl rfl hj) ?_;obtain ⟨aj,hy,hm⟩:=bZ hm;refine Zh (Zxq hy ht hx) ?_;rintro _ jv ⟨hz,fz,f0,f1,f2,rfl,bd,h0,h1⟩;refine ⟨_,rfl,?_⟩;refine Q8 (col:=hz) (r:=(Za.pair (Za.pair Za.bool (Za.view (Za.int .u32))) (Za.view (Za.int .u32)))) (xs:=[((aj.1.1,(aj.1.2.1,aj.1.2.2)),(aj.2.1,aj.2.2))]) [(.agg #[.bool aj.1.1,.slice fz ((aj.1.2.2.take aj.1.2.1).length) f0,.slice f1 ((aj.2.2.take aj.2.1).length) f2])] 16 (Wt.ofF (Rows.consF (r:=(Za.pair (Za.pair Za.bool (Za.view (Za.int .u32))) (Za.view (Za.int .u32)))) (x:=((aj.1.1,(aj.1.2.1,aj.1.2.2)),(aj.2.1,aj.2.2))) (cs:=[.bool aj.1.1,.slice fz ((aj.1.2.2.take aj.1.2.1).length) f0,.slice f1 ((aj.2.2.take aj.2.1).length) f2]) (V4 (V4 (Tq aj.1.1) (Zi9 h0)) (Zi9 h1)) Rows.nil0)) ?_;intro jw jx jy be h2;obtain ⟨h3,hm⟩:=Zz hm;replace av:=(av.gr bd).gr be;refine Wn av (h2.srcN (NB.pair (NB.pair NB.bool NB.view) NB.view)) h3 ?_;intro jz j0 j1 j2 bu h4;refine go ?_;replace af:=((af.gr bd).gr be).kpp bu;replace ag:=((ag.gr bd).gr be).kpp bu;replace ah:=((ah.gr bd).gr be).kpp bu;replace ai:=((ai.gr bd).gr be).kpp bu;replace ab:=((ab.gr bd).gr be).kpp bu;replace ae:=((ae.gr bd).gr be).kpp bu;replace ad:=((ad.gr bd).gr be).kpp bu;replace aa:=((aa.grow bd).grow be).kpp bu;exact ⟨c1,by omega,rfl,⟨_,_,_,_,_,_,rfl,hm,aa,ab,ae,af,ag,ah,ai,ad,h4,rfl⟩⟩
      refine Wu (col:=aw) [97] 17 ?_;intro fd j3 h5 bf b6;refine lV (.agg #[.bool false,.slice none (([]:List Int).length) 0,.slice fd ([97].length) 1]) (Ys (l:=[_,_]) (qs:=[(0,2),(2,1)]) underlying47 zeroValue47 ⟨rfl,sizeOf45,rfl,sizeOf43,trivial⟩ rfl)<|Wu (col:=h5) [98] 18 ?_;intro fe j4 h6 a0 dm;refine lV (.agg #[.bool false,.slice none (([]:List Int).length) 0,.slice fe ([98].length) 1]) (Ys (l:=[_,_]) (qs:=[(0,2),(2,1)]) underlying47 zeroValue47 ⟨rfl,sizeOf45,rfl,sizeOf43,trivial⟩ rfl) ?_;replace af:=(af.gr bf).gr a0;replace af:=af.froz 17 (by decide);replace ag:=(ag.gr bf).gr a0;replace ag:=ag.froz 17 (by decide);replace ah:=(ah.gr bf).gr a0;replace ah:=ah.froz 17 (by decide);replace ai:=(ai.gr bf).gr a0;replace ai:=ai.froz 17 (by decide);replace av:=(av.gr bf).gr a0;replace av:=av.froz 17 (by decide);replace b6:=b6.gr a0;replace b6:=(b6).toSlF (Zm.int .u32);replace dm:=dm.froz 17 (by decide);replace ab:=(ab.gr bf).gr a0;replace ab:=ab.froz 17 (by decide);replace ae:=(ae.gr bf).gr a0;replace ae:=ae.froz 17 (by decide);replace ad:=(ad.gr bf).gr a0;replace ad:=ad.froz 17 (by decide);replace aa:=(aa.grow bf).grow a0;replace aa:=aa.froz 17 (by decide) (by decide);replace af:=af.froz 18 (by decide);replace ag:=ag.froz 18 (by decide);replace ah:=ah.froz 18 (by decide);replace ai:=ai.froz 18 (by decide);replace av:=av.froz 18 (by decide);replace b6:=b6.froz 18;replace dm:=(dm).toSlF (Zm.int .u32);replace ab:=ab.froz 18 (by decide);replace ae:=ae.froz 18 (by decide);replace ad:=ad.froz 18 (by decide);replace aa:=aa.froz 18 (by decide) (by decide)
      refine Q8 (col:=(Xn 18 (Xn 17 h6))) (r:=(Za.pair (Za.pair Za.bool (Za.view (Za.int .u32))) (Za.view (Za.int .u32)))) (xs:=[((false,(0,([]:List Int))),([97].length,[97])),((false,(0,([]:List Int))),([98].length,[98]))]) [(.agg #[.bool false,.slice none (([]:List Int).length) 0,.slice fd ([97].length) 1]),(.agg #[.bool false,.slice none (([]:List Int).length) 0,.slice fe ([98].length) 1])] 19 (Wt.ofF (Rows.consF (r:=(Za.pair (Za.pair Za.bool (Za.view (Za.int .u32))) (Za.view (Za.int .u32)))) (x:=((false,(0,([]:List Int))),([97].length,[97]))) (cs:=[.bool false,.slice none (([]:List Int).length) 0,.slice fd ([97].length) 1]) (V4 (V4 (Tq false) Ztn) (Zto b6)) (Rows.consF (r:=(Za.pair (Za.pair Za.bool (Za.view (Za.int .u32))) (Za.view (Za.int .u32)))) (x:=((false,(0,([]:List Int))),([98].length,[98]))) (cs:=[.bool false,.slice none (([]:List Int).length) 0,.slice fe ([98].length) 1]) (V4 (V4 (Tq false) Ztn) (Zto dm)) Rows.nil0))) ?_;intro j5 j6 j7 bg h7;obtain ⟨h8,hm⟩:=Zz hm;replace av:=av.gr bg;refine Wn av (h7.srcN (NB.pair (NB.pair NB.bool NB.view) NB.view)) h8 ?_;intro dn dp j8 c3 bv c4;refine go ?_;refine Wa (col:=c3) [(0,1),(1,0),(2,1),(3,1),(4,0),(5,1),(6,1),(7,0),(8,1),(9,1),(10,3),(11,2),(12,1),(13,2)] (by kernel_rfl) (by kernel_rfl)<|xF ⟨_,_,rfl⟩ ?_;replace ad:=(ad.gr bg).kpp bv;refine xW (fun _ hC=>((ad.atN).nth (q:=4) rfl).gr (hC.bl c3)) ?_;refine xu rfl rfl (fun _=>Vs rfl) ?_;refine xF ⟨_,_,rfl⟩ ?_;replace ab:=(ab.gr bg).kpp bv;refine xW (fun _ hC=>((ab.atN).nth (q:=4) rfl).gr (hC.bl c3)) ?_;refine xu rfl rfl (fun _=>Vd rfl) ?_;replace aa:=(aa.grow bg).kpp bv;refine xu rfl rfl (fun _=>Y3 underlying25 sizeOf56 rfl rfl (Xl az).1 (Xl az).2.1 ((bj.ks aa).addr az)) ?_;obtain ⟨_,h9,ia⟩:=(bj.ks aa).atN az;obtain ⟨⟨j9,ka,rfl,kb⟩,_⟩:=h9;refine xW (fun _ hC=>ia.one.gr (hC.bl c3)) ?_;refine xu rfl rfl (fun _=>To underlying56 rfl) ?_;obtain ⟨ff,hm⟩:=Zz hm;refine xu (v:=.slice dn (Int.toNat (bc.length:Int)) dp) rfl rfl (fun _=>Vu underlying56 sizeOf47 rfl rfl ff.1 (by have:=c4.lecap;have:=ff.2;omega)) ?_
      refine .ld (d:=137) (v:=(.slice dn (((au++[((false,(0,([]:List Int))),([97].length,[97])),((false,(0,([]:List Int))),([98].length,[98]))]).take (Int.toNat (bc.length:Int))).length) dp)) (congrArg (fun n=>Value.slice dn n dp) (List.length_take_of_le (show (Int.toNat (bc.length:Int))≤(au++[((false,(0,([]:List Int))),([97].length,[97])),((false,(0,([]:List Int))),([98].length,[98]))]).length by have:=ff.2;omega)).symm) ?_;refine xe rfl rfl ?_;intro kc hC0;have hC:=hC0.bl c3;replace af:=((af.gr bg).kpp bv).gr hC;replace af:=af.froz 15 (by decide);replace ag:=((ag.gr bg).kpp bv).gr hC;replace ag:=ag.froz 15 (by decide);replace ah:=((ah.gr bg).kpp bv).gr hC;replace ah:=ah.froz 15 (by decide);replace ai:=((ai.gr bg).kpp bv).gr hC;replace ai:=ai.froz 15 (by decide);replace c4:=c4.gr hC;replace c4:=(c4).toSlF (Zm.pair (Zm.pair Zm.bool Zm.view) Zm.view);replace ab:=ab.gr hC;replace ab:=ab.froz 15 (by decide);replace ae:=((ae.gr bg).kpp bv).gr hC;replace ae:=ae.froz 15 (by decide);replace ad:=ad.gr hC;replace ad:=ad.froz 15 (by decide);replace aa:=aa.grow hC;replace aa:=aa.froz 15 (by decide) (by decide);refine Q8 (col:=(Xn 15 c3)) (r:=(Za.view (Za.pair (Za.pair Za.bool (Za.view (Za.int .u32))) (Za.view (Za.int .u32))))) (xs:=[((Int.toNat (bc.length:Int)),au++[((false,(0,([]:List Int))),([97].length,[97])),((false,(0,([]:List Int))),([98].length,[98]))])]) [(.slice dn (((au++[((false,(0,([]:List Int))),([97].length,[97])),((false,(0,([]:List Int))),([98].length,[98]))]).take (Int.toNat (bc.length:Int))).length) dp)] 20 (Wt.ofF (Rows.consF (r:=(Za.view (Za.pair (Za.pair Za.bool (Za.view (Za.int .u32))) (Za.view (Za.int .u32))))) (x:=((Int.toNat (bc.length:Int)),au++[((false,(0,([]:List Int))),([97].length,[97])),((false,(0,([]:List Int))),([98].length,[98]))])) (cs:=[(.slice dn (((au++[((false,(0,([]:List Int))),([97].length,[97])),((false,(0,([]:List Int))),([98].length,[98]))]).take (Int.toNat (bc.length:Int))).length) dp)]) (Zi9 c4) Rows.nil0)) ?_;intro kd ke fg bh fh;refine Zl<|Xo fg hC0 bh<|xe rfl rfl ?_;intro ib hC0;have hC:=hC0.bl fg;obtain ⟨f3,hm⟩:=Zz hm;replace ai:=(ai.gr bh).gr hC;replace fh:=fh.gr hC;refine Zbd (col:=fg) (w:=ib) (r:=(Za.view (Za.pair (Za.pair Za.bool (Za.view (Za.int .u32))) (Za.view (Za.int .u32))))) (c:=8) (c2:=8) (ai.ex) (fh.srcN NB.view) rfl underlying25 Zyu rfl rfl rfl f3.1 f3.2 (by decide) ?_;intro f4 f5 kf dq b7 fi
      refine Zl<|xk dq<|xF ⟨_,_,rfl⟩ ?_;refine xe rfl rfl ?_;intro kg hC0;replace af:=((af.gr bh).gr hC).kpp b7;replace ag:=((ag.gr bh).gr hC).kpp b7;replace ah:=((ah.gr bh).gr hC).kpp b7;replace ab:=((ab.gr bh).gr hC).kpp b7;replace ae:=((ae.gr bh).gr hC).kpp b7;replace ad:=((ad.gr bh).gr hC).kpp b7;replace aa:=((aa.grow bh).grow hC).kpp b7;have hC:=hC0.bl dq;replace ad:=ad.gr hC;refine Zco (off:=4) (v:=(.slice f4 ((bb++[((Int.toNat (bc.length:Int)),au++[((false,(0,([]:List Int))),([97].length,[97])),((false,(0,([]:List Int))),([98].length,[98]))])]).length) f5)) ad sizeOf25 rfl rfl (by intro u hu;simp only [Value.cells,List.mem_cons,List.not_mem_nil,or_false] at hu;subst hu;rfl) rfl rfl ?_;intro ic b8 id dr;replace dr:Zn 27 3 dq ic ax #[.string cu,(.slice cv ((br.take (Int.toNat (ac.2.1.length:Int))).length) cw),.slice cx bs.length cy,.slice cz bt.length c0,(.slice f4 ((bb++[((Int.toNat (bc.length:Int)),au++[((false,(0,([]:List Int))),([97].length,[97])),((false,(0,([]:List Int))),([98].length,[98]))])]).length) f5)]:=dr;refine Zl<|xk dq ?_;replace fi:=(fi.gr hC).kp b8;have fj:=fi.new;refine Y1 ?_;replace af:=(af.gr hC).kp b8;replace ag:=(ag.gr hC).kp b8;replace ah:=(ah.gr hC).kp b8;replace ab:=(ab.gr hC).kp b8;replace ae:=(ae.gr hC).kp b8;replace aa:=(aa.grow hC).kp b8 id;intro kh hC;replace hC:=hC.bl dq;refine go ?_;replace af:=af.gr hC;replace ag:=ag.gr hC;replace ah:=ah.gr hC;replace fj:=fj.gr hC;replace ab:=ab.gr hC;replace ae:=ae.gr hC;replace dr:=dr.gr hC;replace aa:=aa.grow hC;exact ⟨b5,by omega,rfl,⟨_,_,_,_,_,_,_,_,_,_,_,_,_,_,_,_,rfl,hm,aa,ab,ae,af,ag,ah,fj,dr,rfl⟩⟩
    refine lV _ (Xj isAgg27 sizeOf27 ad)<|Z7 ae ?_;intro ki ds ie bi;refine go ?_;replace af:=af.kp ds;replace af:=(af).toSlF Zm.str;replace ag:=ag.kp ds;replace ag:=ag.froz 4 (by decide);replace ah:=ah.kp ds;replace ah:=ah.froz 4 (by decide);replace ai:=ai.kp ds;replace ai:=ai.froz 4 (by decide);replace bi:=bi.froz 4 (by decide);replace aa:=aa.kp ds ie;replace aa:=aa.froz 4 (by decide) (by decide);replace af:=af.froz 6;replace ag:=(ag).toSlF Zm.view;replace ah:=ah.froz 6 (by decide);replace ai:=ai.froz 6 (by decide);replace bi:=bi.froz 6 (by decide);replace aa:=aa.froz 6 (by decide) (by decide);replace af:=af.froz 7;replace ag:=ag.froz 7;replace ah:=(ah).toSlF Zm.view;replace ai:=ai.froz 7 (by decide);replace bi:=bi.froz 7 (by decide);replace aa:=aa.froz 7 (by decide) (by decide);replace af:=af.froz 8;replace ag:=ag.froz 8;replace ah:=ah.froz 8;replace ai:=(ai).toSlF Zm.view;replace bi:=bi.froz 8 (by decide);replace aa:=aa.froz 8 (by decide) (by decide);cases hm;exact ⟨rfl,_,ra bi.atN,_,_,_,_,_,_,_,_,_,rfl,aa.fin (cm []),aa.fs af,aa.fs ag,aa.fs ah,aa.fs ai⟩
def Ziv (aa:Bool):Option Bool:=
  some aa
def Zd8 (N:Nat) (n0:Nat) (aa:List ByteArray) (ac:List ByteArray) (ad:ByteArray) (ae:ByteArray):Nat→Int→Option Bool
  | 0,_=>none
  | af+1,ab=>if (decide (ab<(ac.length:Int)))=true then ((Zk (aa.take n0) ab).bind fun ag=>(Zk ac ab).bind fun ah=>if (!decide (ag=ah))=true then (some false) else ((Zd8 N n0 aa ac ad ae af) (i64.wrap (ab+1)))) else (Zx ((0:Int)≤(i64.wrap (((aa.take n0).length:Int)+2))∧(i64.wrap (((aa.take n0).length:Int)+2))≤(aa.length:Int)) ((Zk (aa.take (Int.toNat (i64.wrap (((aa.take n0).length:Int)+2)))) ((aa.take n0).length:Int)).bind fun ai=>if (decide (ai=ad))=true then ((Zk (aa.take (Int.toNat (i64.wrap (((aa.take n0).length:Int)+2)))) (i64.wrap (((aa.take n0).length:Int)+1))).bind fun aj=>Ziv (decide (aj=ae))) else (Ziv false)))
termination_by structural x=>x
def Zd7 (N:Nat) (n0:Nat) (aa:List ByteArray) (ab:List ByteArray) (ac:ByteArray) (ad:ByteArray):Option Bool:=
  if (!decide (((aa.take n0).length:Int)=(ab.length:Int)))=true then (some false) else (Zd8 N n0 aa ab ac ad N 0)
theorem Zo5 {N ae n0 aq:Nat} {a0 a1:Option Addr} {col:Zd} {w0:World} {ab af:Ra} {ah ag:ByteArray} {r:Bool} (hm:Zd7 N n0 ab af ah ag=some r) (h0:Sl Za.str col w0 a0 ae ab) (h1:Sl Za.str col w0 a1 aq af):
    Calls Tryz.prog 82 #[.slice a0 ((ab.take n0).length) ae,.slice a1 af.length aq,.string ah,.string ag] w0 (fun e w'=>e= .returned ((.bool r))∧Below w0.heap.size w0 w'):=by
 refine Xb 8 (m:=53) func82 rfl rfl rfl rfl rfl ?_;rw [Zd7.eq_1] at hm;have aa:=St.start col w0;refine go ?_;replace h0:=h0.keep (Zj.start col w0);replace h1:=h1.keep (Zj.start col w0);refine Zp hm (fun hb hm=>go ?_) fun hb hm=>go ?_
 ·cases hm;exact ⟨rfl,rfl,aa.below⟩
 refine Zw [0,1,2,3,1000000] (fun n f ar=>∃ ac ai ad,ad=n∧Zd8 N n0 ab af ah ag ad ai=some r∧St w0 (Zi col) ac ar∧[9].map f=[.int .i64 ai]) N ⟨_,0,_,rfl,hm,aa,rfl⟩ ?_;clear hm;intro n f ar hI;obtain ⟨ac,ai,ad,hn,hm,aa,hs⟩:=hI;subst hn;refine .lL [9] hs ?_
 cases ad with
 | zero=>rw [Zd8.eq_1] at hm;cases hm
 | succ ad=>
  rw [Zd8.eq_2] at hm;refine go ?_;refine Zp hm (fun hb hm=>go ?_) fun hb hm=>go ?_
  ·refine Wj (col:=ac) (by kernel_rfl) (by kernel_rfl)<|go ?_;obtain ⟨ax,aj,hm⟩:=bZ hm;refine qI aj (((h0.ks aa).take n0).addr aj)<|qW (fun _ hC=>(((h0.ks aa).take n0).gr (hC.bl ac)).atStr aj) ?_;refine go ?_;obtain ⟨ay,ak,hm⟩:=bZ hm;refine qI ak ((h1.ks aa).addr ak)<|qW (fun _ hC=>((h1.ks aa).gr (hC.bl ac)).atStr ak) ?_;refine go ?_;refine Yn ?_;intro az hC;replace hC:=hC.bl ac;replace aa:=aa.grow hC;refine Zp hm (fun hb hm=>go ?_) fun hb hm=>go ?_
   ·cases hm;exact ⟨rfl,rfl,aa.below⟩
   exact ⟨ad,by omega,rfl,⟨_,_,_,rfl,hm,aa,rfl⟩⟩
  obtain ⟨al,hm⟩:=Zz hm;refine lv (v:=.slice a0 (Int.toNat (i64.wrap (((ab.take n0).length:Int)+2))) ae) rfl rfl (Vu underlying22 sizeOf9 rfl rfl al.1 (by have:=(h0.ks aa).1.2;have:=al.2;omega))<|.ld (d:=35) (v:=(.slice a0 ((ab.take (Int.toNat (i64.wrap (((ab.take n0).length:Int)+2)))).length) ae)) (congrArg (fun n=>Value.slice a0 n ae) (List.length_take_of_le (show (Int.toNat (i64.wrap (((ab.take n0).length:Int)+2)))≤ab.length by have:=al.2;omega)).symm) ?_;refine T5 rfl<|Zl<|Zu ?_;refine Wp.cutK [1000000] (fun f au=>∃ av am,Ziv am=some r∧St w0 (Zi col) av au∧[8].map f=[.bool am]) ?_ ?_
  ·intro f au hJ;obtain ⟨av,am,hm,aa,hs⟩:=hJ;rw [Ziv.eq_1] at hm;refine .lL [8] hs<|Y4 ?_;cases hm;exact ⟨rfl,rfl,aa.below⟩
  refine go ?_;obtain ⟨a2,an,hm⟩:=bZ hm;refine lI an (((h0.ks aa).take (Int.toNat (i64.wrap (((ab.take n0).length:Int)+2)))).addr an)<|lW (((h0.ks aa).take (Int.toNat (i64.wrap (((ab.take n0).length:Int)+2)))).atStr an) ?_;refine go ?_;refine Xr hm (fun ao hm=>go ?_) fun ao hm=>go ?_
  ·obtain ⟨aw,ap,hm⟩:=bZ hm;refine lI ap (((h0.ks aa).take (Int.toNat (i64.wrap (((ab.take n0).length:Int)+2)))).addr ap) ?_;refine go ?_;refine lW (((h0.ks aa).take (Int.toNat (i64.wrap (((ab.take n0).length:Int)+2)))).atStr ap)<|go ?_;refine lV (.bool (decide (aw=ag))) (Z6 (congrArg Value.bool ao) rfl)<|go ?_;exact ⟨rfl,_,_,hm,aa,rfl⟩
  refine lV (.bool false) (Xg (congrArg Value.bool ao) rfl)<|go ?_;exact ⟨rfl,_,_,hm,aa,rfl⟩
def Za0 (N:Nat) (ab:R0) (ac:R0):Nat→Int→Option Bool
  | 0,_=>none
  | ad+1,aa=>if (decide (aa<(ab.1.2.length:Int)))=true then ((Zk ab.1.2 aa).bind fun ae=>(Zk ac.1.2 aa).bind fun af=>if (!decide (ae=af))=true then (some false) else ((Za0 N ab ac ad) (i64.wrap (aa+1)))) else (some true)
termination_by structural x=>x
def Zaz (N:Nat) (aa:R0) (ac:R0):Nat→Int→Option Bool
  | 0,_=>none
  | ad+1,ab=>if (decide (ab<(aa.2.length:Int)))=true then ((Zk aa.2 ab).bind fun ae=>(Zk ac.2 ab).bind fun af=>if (!decide (ae=af))=true then (some false) else ((Zaz N aa ac ad) (i64.wrap (ab+1)))) else (Za0 N aa ac N 0)
termination_by structural x=>x
def Zd6 (N:Nat) (aa:R0) (ab:R0) (ac:Bool):Option Bool:=
  if ac=true then (some false) else (Zaz N aa ab N 0)
def Ug (N:Nat) (aa:R0) (ab:R0):Option Bool:=
  if (!decide (aa.1.1=ab.1.1))=true then (Zd6 N aa ab true) else (if (!decide ((aa.1.2.length:Int)=(ab.1.2.length:Int)))=true then (Zd6 N aa ab true) else (Zd6 N aa ab (!decide ((aa.2.length:Int)=(ab.2.length:Int)))))
theorem Zck {N aj ak al am:Nat} {an ao ap aq:Option Addr} {col:Zd} {w0:World} {ac ad:R0} {r:Bool} (hm:Ug N ac ad=some r) (ar:Sl (Za.int .u32) col w0 an aj ac.1.2) (au:Sl (Za.int .u32) col w0 ao ak ac.2) (av:Sl (Za.int .u32) col w0 ap al ad.1.2) (aw:Sl (Za.int .u32) col w0 aq am ad.2):
    Calls Tryz.prog 25 #[(.agg #[.bool ac.1.1,.slice an ac.1.2.length aj,.slice ao ac.2.length ak]),(.agg #[.bool ad.1.1,.slice ap ad.1.2.length al,.slice aq ad.2.length am])] w0 (fun e w'=>e= .returned ((.bool r))∧Below w0.heap.size w0 w'):=by
 refine Xb 4 (m:=73) func25 rfl rfl rfl rfl rfl ?_;rw [Ug.eq_1] at hm;have aa:=St.start col w0;refine go ?_;refine Xh (col:=(Zi col)) 1 rfl ?_;intro a1 bf bd be ab;refine Xh (col:=bd) 2 rfl ?_;intro a2 bg bh bc ae;refine Zet rfl<|Zl<|Zu<|Zu ?_;replace ar:=ar.keep (Zj.start col w0);replace au:=au.keep (Zj.start col w0);replace av:=av.keep (Zj.start col w0);replace aw:=aw.keep (Zj.start col w0);replace aa:=(aa.grow be).grow bc;replace ab:=ab.gr bc;refine Wp.cutK [2,3,1000000] (fun f ax=>∃ ay a3,Zd6 N ac ad a3=some r∧St w0 (Zi col) ay ax∧Zn 47 1 ay ax a1 #[.bool ac.1.1,.slice an ac.1.2.length aj,.slice ao ac.2.length ak]∧Zn 47 2 ay ax a2 #[.bool ad.1.1,.slice ap ad.1.2.length al,.slice aq ad.2.length am]∧[33].map f=[.bool a3]) ?_ ?_
 ·intro f ax hJ;obtain ⟨ay,a3,hm,aa,ab,ae,hs⟩:=hJ;rw [Zd6.eq_1] at hm;refine .lL [33] hs ?_;refine Zp hm (fun hb hm=>go ?_) fun hb hm=>go ?_
  ·cases hm;exact ⟨rfl,rfl,aa.below⟩
  refine Zw [2,3,1000000] (fun n f az=>∃ af a4 ah,ah=n∧Zaz N ac ad ah a4=some r∧St w0 (Zi col) af az∧Zn 47 1 af az a1 #[.bool ac.1.1,.slice an ac.1.2.length aj,.slice ao ac.2.length ak]∧Zn 47 2 af az a2 #[.bool ad.1.1,.slice ap ad.1.2.length al,.slice aq ad.2.length am]∧[5].map f=[.int .i64 a4]) N ⟨_,0,_,rfl,hm,aa,ab,ae,rfl⟩ ?_;clear hm;intro n f az hI;obtain ⟨af,a4,ah,hn,hm,aa,ab,ae,hs⟩:=hI;subst hn;refine .lL [5] hs ?_
  cases ah with
  | zero=>rw [Zaz.eq_1] at hm;cases hm
  | succ ah=>
   rw [Zaz.eq_2] at hm;refine go ?_;refine Z9 ab ?_;refine go ?_;refine Zp hm (fun hb hm=>go ?_) fun hb hm=>go ?_
   ·refine Wj (col:=af) (by kernel_rfl) (by kernel_rfl)<|qF ⟨_,_,rfl⟩ ?_;refine qW (fun _ hC=>((ab.atN).nth (q:=2) rfl).gr (hC.bl af)) ?_;refine go ?_;obtain ⟨bi,a5,hm⟩:=bZ hm;refine qI a5 ((au.ks aa).addr a5)<|qW (fun _ hC=>((au.ks aa).gr (hC.bl af)).atInt a5) ?_;refine qF ⟨_,_,rfl⟩ ?_;refine qW (fun _ hC=>((ae.atN).nth (q:=2) rfl).gr (hC.bl af)) ?_;refine go ?_;obtain ⟨bj,a6,hm⟩:=bZ hm;refine qI a6 ((aw.ks aa).addr a6)<|qW (fun _ hC=>((aw.ks aa).gr (hC.bl af)).atInt a6) ?_;refine go ?_;refine Yn ?_;intro bk hC;replace hC:=hC.bl af;replace ab:=ab.gr hC;replace ae:=ae.gr hC;replace aa:=aa.grow hC;refine Zp hm (fun hb hm=>go ?_) fun hb hm=>go ?_
    ·cases hm;exact ⟨rfl,rfl,aa.below⟩
    exact ⟨ah,by omega,rfl,⟨_,_,_,rfl,hm,aa,ab,ae,rfl⟩⟩
   refine Zw [2,3,1000000] (fun n f a0=>∃ ag a7 ai,ai=n∧Za0 N ac ad ai a7=some r∧St w0 (Zi col) ag a0∧Zn 47 1 ag a0 a1 #[.bool ac.1.1,.slice an ac.1.2.length aj,.slice ao ac.2.length ak]∧Zn 47 2 ag a0 a2 #[.bool ad.1.1,.slice ap ad.1.2.length al,.slice aq ad.2.length am]∧[6].map f=[.int .i64 a7]) N ⟨_,0,_,rfl,hm,aa,ab,ae,rfl⟩ ?_;clear hm;intro n f a0 hI;obtain ⟨ag,a7,ai,hn,hm,aa,ab,ae,hs⟩:=hI;subst hn;refine .lL [6] hs ?_
   cases ai with
   | zero=>rw [Za0.eq_1] at hm;cases hm
   | succ ai=>
    rw [Za0.eq_2] at hm;refine go ?_;refine Z3 ⟨_,_,rfl⟩ ?_;refine Z3 (X9 ⟨_,_,rfl⟩) ?_;refine lW ((((ab.atN).part 0 2 _ rfl)).nth (q:=1) rfl)<|go ?_;refine Zp hm (fun hb hm=>go ?_) fun hb hm=>go ?_
    ·refine Wj (col:=ag) (by kernel_rfl) (by kernel_rfl)<|qF ⟨_,_,rfl⟩ ?_;refine qF (X9 ⟨_,_,rfl⟩) ?_;refine qW (fun _ hC=>((((ab.atN).part 0 2 _ rfl)).nth (q:=1) rfl).gr (hC.bl ag)) ?_;refine go ?_;obtain ⟨bm,a8,hm⟩:=bZ hm;refine qI a8 ((ar.ks aa).addr a8)<|qW (fun _ hC=>((ar.ks aa).gr (hC.bl ag)).atInt a8) ?_;refine qF ⟨_,_,rfl⟩ ?_;refine qF (X9 ⟨_,_,rfl⟩) ?_;refine qW (fun _ hC=>((((ae.atN).part 0 2 _ rfl)).nth (q:=1) rfl).gr (hC.bl ag)) ?_;refine go ?_;obtain ⟨bn,a9,hm⟩:=bZ hm;refine qI a9 ((av.ks aa).addr a9)<|qW (fun _ hC=>((av.ks aa).gr (hC.bl ag)).atInt a9) ?_;refine go ?_;refine Yn ?_;intro bo hC;replace hC:=hC.bl ag;replace ab:=ab.gr hC;replace ae:=ae.gr hC;replace aa:=aa.grow hC;refine Zp hm (fun hb hm=>go ?_) fun hb hm=>go ?_
     ·cases hm;exact ⟨rfl,rfl,aa.below⟩
     exact ⟨ai,by omega,rfl,⟨_,_,_,rfl,hm,aa,ab,ae,rfl⟩⟩
    cases hm;exact ⟨rfl,rfl,aa.below⟩
 refine Wk<|Z3 ⟨_,_,rfl⟩ ?_;refine Z3 (X9 ⟨_,_,rfl⟩) ?_;refine lW ((((ab.atN).part 0 2 _ rfl)).nth (q:=0) rfl)<|Z3 ⟨_,_,rfl⟩ ?_;refine Z3 (X9 ⟨_,_,rfl⟩) ?_;refine lW ((((ae.atN).part 0 2 _ rfl)).nth (q:=0) rfl)<|go ?_;refine Xr hm (fun ba hm=>go ?_) fun ba hm=>go ?_
 ·refine lV (.bool true) (Z6 (congrArg Value.bool ba) rfl)<|Xt rfl<|lP 25 rfl rfl<|lP 25 rfl rfl<|lP 25 rfl rfl<|lP 25 rfl rfl<|lP 25 rfl rfl<|lP 25 rfl rfl<|lP 25 rfl rfl<|lV (.bool true) (Z6 rfl rfl)<|Zl ?_;exact ⟨rfl,_,_,hm,aa,ab,ae,rfl⟩
 refine Z3 ⟨_,_,rfl⟩ ?_;refine go ?_;refine Z3 (X9 ⟨_,_,rfl⟩) ?_;refine go ?_;refine lW ((((ab.atN).part 0 2 _ rfl)).nth (q:=1) rfl)<|go ?_;refine Z3 ⟨_,_,rfl⟩ ?_;refine go ?_;refine Z3 (X9 ⟨_,_,rfl⟩) ?_;refine go ?_;refine lW ((((ae.atN).part 0 2 _ rfl)).nth (q:=1) rfl)<|go ?_;refine lV (.bool (!decide ((ac.1.2.length:Int)=(ad.1.2.length:Int)))) (Xg (congrArg Value.bool ba) rfl)<|Xt rfl ?_;refine Xr hm (fun bb hm=>go ?_) fun bb hm=>go ?_
 ·refine lV (.bool true) (Z6 (congrArg Value.bool bb) rfl)<|Zl ?_;exact ⟨rfl,_,_,hm,aa,ab,ae,rfl⟩
 refine Z3 ⟨_,_,rfl⟩ ?_;refine go ?_;refine lW ((ab.atN).nth (q:=2) rfl)<|go ?_;refine Z3 ⟨_,_,rfl⟩ ?_;refine go ?_;refine lW ((ae.atN).nth (q:=2) rfl)<|go ?_;refine lV (.bool (!decide ((ac.2.length:Int)=(ad.2.length:Int)))) (Xg (congrArg Value.bool bb) rfl)<|Zl ?_;exact ⟨rfl,_,_,hm,aa,ab,ae,rfl⟩
def Zit (aa:Int) (kk_L2:(Int→Option Bool)) (ab:Bool):Option Bool:=
  if ab=true then (some false) else (kk_L2 (i64.wrap (aa+1)))
def Zd1 (N:Nat) (ad:R3) (af:R1) (ab:Int) (kk_L2:(Int→Option Bool)) (aa:List Int):Nat→Int→Option Bool
  | 0,_=>none
  | ah+1,ac=>if (decide (ac<(aa.length:Int)))=true then ((Zk ad.2.2.2.1 ab).bind fun ag=>(Zk (ag.2.take ag.1) ac).bind fun ai=>(Zk af.2.2.2.1 ab).bind fun aj=>(Zk aj ac).bind fun ak=>if (!decide (ai=ak))=true then (some false) else ((Zd1 N ad af ab kk_L2 aa ah) (i64.wrap (ac+1)))) else ((Zk ad.2.2.2.1 ab).bind fun ae=>Zx ((0:Int)≤(i64.wrap ((aa.length:Int)+2))∧(i64.wrap ((aa.length:Int)+2))≤(ae.2.length:Int)) ((Zk (ae.2.take (Int.toNat (i64.wrap ((aa.length:Int)+2)))) (aa.length:Int)).bind fun al=>if (!decide (al=(-95)))=true then (Zit ab kk_L2 true) else ((Zk (ae.2.take (Int.toNat (i64.wrap ((aa.length:Int)+2)))) (i64.wrap ((aa.length:Int)+1))).bind fun am=>Zit ab kk_L2 (!decide (am=(-96))))))
termination_by structural x=>x
def Zb3 (aa:Int) (kk_L5:(Int→Option Bool)) (ab:Bool):Option Bool:=
  if ab=true then (some false) else (kk_L5 (i64.wrap (aa+1)))
def Zdz (aa:Int) (kk_L4:(Int→Option Bool)) (ab:Bool):Option Bool:=
  if ab=true then (some false) else (kk_L4 (i64.wrap (aa+1)))
def Sf (N:Nat) (ae:R3) (af:R1) (ab:Int) (kk_L4:(Int→Option Bool)) (ac:R8):Nat→Int→Option Bool
  | 0,_=>none
  | ag+1,ad=>if (decide (ad<(ac.length:Int)))=true then ((Zk ae.2.2.2.2 ab).bind fun al=>(Zk (al.2.take al.1) ad).bind fun aa=>Zx ((0:Int)≤(i64.wrap (((aa.1.2.2.take aa.1.2.1).length:Int)+2))∧(i64.wrap (((aa.1.2.2.take aa.1.2.1).length:Int)+2))≤(aa.1.2.2.length:Int)) (Zx ((0:Int)≤(i64.wrap (((aa.2.2.take aa.2.1).length:Int)+2))∧(i64.wrap (((aa.2.2.take aa.2.1).length:Int)+2))≤(aa.2.2.length:Int)) ((Zk af.2.2.2.2 ab).bind fun am=>(Zk am ad).bind fun aj=>(Ug N ((aa.1.1,aa.1.2.2.take aa.1.2.1),aa.2.2.take aa.2.1) ((aj.1.1,aj.1.2),aj.2)).bind fun an=>if (!an)=true then (Zb3 ad (Sf N ae af ab kk_L4 ac ag) true) else ((Zk (aa.1.2.2.take (Int.toNat (i64.wrap (((aa.1.2.2.take aa.1.2.1).length:Int)+2)))) (i64.wrap (((aa.1.2.2.take (Int.toNat (i64.wrap (((aa.1.2.2.take aa.1.2.1).length:Int)+2)))).length:Int) - 1))).bind fun ao=>if (!decide (ao=902))=true then (Zb3 ad (Sf N ae af ab kk_L4 ac ag) true) else ((Zk (aa.1.2.2.take (Int.toNat (i64.wrap (((aa.1.2.2.take aa.1.2.1).length:Int)+2)))) (i64.wrap (((aa.1.2.2.take (Int.toNat (i64.wrap (((aa.1.2.2.take aa.1.2.1).length:Int)+2)))).length:Int) - 2))).bind fun ap=>if (!decide (ap=901))=true then (Zb3 ad (Sf N ae af ab kk_L4 ac ag) true) else ((Zk (aa.2.2.take (Int.toNat (i64.wrap (((aa.2.2.take aa.2.1).length:Int)+2)))) (i64.wrap (((aa.2.2.take (Int.toNat (i64.wrap (((aa.2.2.take aa.2.1).length:Int)+2)))).length:Int) - 1))).bind fun aq=>if (!decide (aq=904))=true then (Zb3 ad (Sf N ae af ab kk_L4 ac ag) true) else ((Zk (aa.2.2.take (Int.toNat (i64.wrap (((aa.2.2.take aa.2.1).length:Int)+2)))) (i64.wrap (((aa.2.2.take (Int.toNat (i64.wrap (((aa.2.2.take aa.2.1).length:Int)+2)))).length:Int) - 2))).bind fun ar=>Zb3 ad (Sf N ae af ab kk_L4 ac ag) (!decide (ar=903))))))))) else ((Zk ae.2.2.2.2 ab).bind fun ak=>Zx ((0:Int)≤(i64.wrap ((ac.length:Int)+2))∧(i64.wrap ((ac.length:Int)+2))≤(ak.2.length:Int)) ((Zk (ak.2.take (Int.toNat (i64.wrap ((ac.length:Int)+2)))) (ac.length:Int)).bind fun ah=>if (!decide (((ah.2.2.take ah.2.1).length:Int)=1))=true then (Zdz ab kk_L4 true) else ((Zk (ah.2.2.take ah.2.1) 0).bind fun au=>if (!decide (au=97))=true then (Zdz ab kk_L4 true) else ((Zk (ak.2.take (Int.toNat (i64.wrap ((ac.length:Int)+2)))) (i64.wrap ((ac.length:Int)+1))).bind fun ai=>if (!decide (((ai.2.2.take ai.2.1).length:Int)=1))=true then (Zdz ab kk_L4 true) else ((Zk (ai.2.2.take ai.2.1) 0).bind fun av=>Zdz ab kk_L4 (!decide (av=98)))))))
termination_by structural x=>x
def S0 (N:Nat) (ac:R3) (aa:R1):Nat→Int→Option Bool
  | 0,_=>none
  | af+1,ab=>if (decide (ab<(aa.2.2.2.2.length:Int)))=true then ((Zk aa.2.2.2.2 ab).bind fun ad=>(Zk ac.2.2.2.2 ab).bind fun ae=>if (!decide (((ae.2.take ae.1).length:Int)=(ad.length:Int)))=true then (some false) else (Sf N ac aa ab (S0 N ac aa af) ad N 0)) else (some true)
termination_by structural x=>x
def Qx (N:Nat) (ab:R3) (aa:R1):Nat→Int→Option Bool
  | 0,_=>none
  | af+1,ac=>if (decide (ac<(aa.2.2.2.1.length:Int)))=true then ((Zk aa.2.2.2.1 ac).bind fun ad=>(Zk ab.2.2.2.1 ac).bind fun ae=>if (!decide (((ae.2.take ae.1).length:Int)=(ad.length:Int)))=true then (some false) else (Zd1 N ab aa ac (Qx N ab aa af) ad N 0)) else (S0 N ab aa N 0)
termination_by structural x=>x
def Zd0 (N:Nat) (ac:R3) (aa:R1):Nat→Int→Option Bool
  | 0,_=>none
  | ae+1,ab=>if (decide (ab<(aa.2.2.1.length:Int)))=true then ((Zk ac.2.2.1 ab).bind fun ad=>(Zk aa.2.2.1 ab).bind fun af=>(Zd7 N ad.1 ad.2 af (⟨#[35,51]⟩) (⟨#[35,52]⟩)).bind fun ag=>if (!ag)=true then (some false) else ((Zd0 N ac aa ae) (i64.wrap (ab+1)))) else (Qx N ac aa N 0)
termination_by structural x=>x
def Zb2 (N:Nat) (aa:R3) (ab:R1) (ac:Bool):Option Bool:=
  if ac=true then (some false) else (Zd0 N aa ab N 0)
def Zdy (N:Nat) (aa:R3) (ab:R1):Option Bool:=
  if (!decide (aa.1=ab.1))=true then (Zb2 N aa ab true) else (if (!decide ((aa.2.2.1.length:Int)=(ab.2.2.1.length:Int)))=true then (Zb2 N aa ab true) else (if (!decide ((aa.2.2.2.1.length:Int)=(ab.2.2.2.1.length:Int)))=true then (Zb2 N aa ab true) else (if (!decide ((aa.2.2.2.2.length:Int)=(ab.2.2.2.2.length:Int)))=true then (Zb2 N aa ab true) else ((Zd7 N aa.2.1.1 aa.2.1.2 ab.2.1 (⟨#[35,49]⟩) (⟨#[35,50]⟩)).bind fun ac=>Zb2 N aa ab (!ac)))))
theorem Zo4 {N al am an ao ap aq ar au:Nat} {av aw ax ay az a0 a1 a2:Option Addr} {col:Zd} {w0:World} {ab:R3} {ac:R1} {r:Bool} (hm:Zdy N ab ac=some r) (cp:Sl Za.str col w0 av al ab.2.1.2) (b1:Sl (Za.view Za.str) col w0 aw am ab.2.2.1) (ba:Sl (Za.view (Za.int .i64)) col w0 ax an ab.2.2.2.1) (bb:Sl (Za.view (Za.pair (Za.pair Za.bool (Za.view (Za.int .u32))) (Za.view (Za.int .u32)))) col w0 ay ao ab.2.2.2.2) (cq:Sl Za.str col w0 az ap ac.2.1) (b2:Sl (Za.slice Za.str) col w0 a0 aq ac.2.2.1) (bi:Sl (Za.slice (Za.int .i64)) col w0 a1 ar ac.2.2.2.1) (bj:Sl (Za.slice (Za.pair (Za.pair Za.bool (Za.slice (Za.int .u32))) (Za.slice (Za.int .u32)))) col w0 a2 au ac.2.2.2.2):
    Calls Tryz.prog 19 #[(.agg #[.string ab.1,.slice av ((ab.2.1.2.take ab.2.1.1).length) al,.slice aw ab.2.2.1.length am,.slice ax ab.2.2.2.1.length an,.slice ay ab.2.2.2.2.length ao]),(.agg #[.string ac.1,.slice az ac.2.1.length ap,.slice a0 ac.2.2.1.length aq,.slice a1 ac.2.2.2.1.length ar,.slice a2 ac.2.2.2.2.length au])] w0 (fun e w'=>e= .returned ((.bool r))∧Below w0.heap.size w0 w'):=by
 refine Xb 4 (m:=283) func19 rfl rfl rfl rfl rfl ?_;rw [Zdy.eq_1] at hm;have aa:=St.start col w0;refine go ?_;refine Xh (col:=(Zi col)) 1 rfl ?_;intro a7 ha ed ee ad;refine Xh (col:=ed) 2 rfl ?_;intro a8 ef d9 ea ae;refine Zet rfl<|Zl<|Zu<|Zu ?_;replace cp:=cp.keep (Zj.start col w0);replace b1:=b1.keep (Zj.start col w0);replace ba:=ba.keep (Zj.start col w0);replace bb:=bb.keep (Zj.start col w0);replace cq:=cq.keep (Zj.start col w0);replace b2:=b2.keep (Zj.start col w0);replace bi:=bi.keep (Zj.start col w0);replace bj:=bj.keep (Zj.start col w0);replace aa:=(aa.grow ee).grow ea;replace ad:=ad.gr ea;refine Wp.cutK [2,3,1000000] (fun f b3=>∃ b4 cr,Zb2 N ab ac cr=some r∧St w0 (Zi col) b4 b3∧Zn 27 1 b4 b3 a7 #[.string ab.1,.slice av ((ab.2.1.2.take ab.2.1.1).length) al,.slice aw ab.2.2.1.length am,.slice ax ab.2.2.2.1.length an,.slice ay ab.2.2.2.2.length ao]∧Zn 27 2 b4 b3 a8 #[.string ac.1,.slice az ac.2.1.length ap,.slice a0 ac.2.2.1.length aq,.slice a1 ac.2.2.2.1.length ar,.slice a2 ac.2.2.2.2.length au]∧[56].map f=[.bool cr]) ?_ ?_
 ·intro f b3 hJ;obtain ⟨b4,cr,hm,aa,ad,ae,hs⟩:=hJ;rw [Zb2.eq_1] at hm;refine .lL [56] hs ?_;refine Zp hm (fun hb hm=>go ?_) fun hb hm=>go ?_
  ·cases hm;exact ⟨rfl,rfl,aa.below⟩
  refine Zw [2,3,1000000] (fun n f bp=>∃ ak cs bk,bk=n∧Zd0 N ab ac bk cs=some r∧St w0 (Zi col) ak bp∧Zn 27 1 ak bp a7 #[.string ab.1,.slice av ((ab.2.1.2.take ab.2.1.1).length) al,.slice aw ab.2.2.1.length am,.slice ax ab.2.2.2.1.length an,.slice ay ab.2.2.2.2.length ao]∧Zn 27 2 ak bp a8 #[.string ac.1,.slice az ac.2.1.length ap,.slice a0 ac.2.2.1.length aq,.slice a1 ac.2.2.2.1.length ar,.slice a2 ac.2.2.2.2.length au]∧[5].map f=[.int .i64 cs]) N ⟨_,0,_,rfl,hm,aa,ad,ae,rfl⟩ ?_;clear hm;intro n f bp hI;obtain ⟨ak,cs,bk,hn,hm,aa,ad,ae,hs⟩:=hI;subst hn;refine .lL [5] hs ?_
  cases bk with
  | zero=>rw [Zd0.eq_1] at hm;cases hm
  | succ bk=>
   rw [Zd0.eq_2] at hm;refine go ?_;refine Z9 ae ?_;refine go ?_;refine Zp hm (fun hb hm=>go ?_) fun hb hm=>go ?_
   ·refine Wj (col:=ak) (by kernel_rfl) (by kernel_rfl)<|qF ⟨_,_,rfl⟩ ?_;refine qW (fun _ hC=>((ad.atN).nth (q:=2) rfl).gr (hC.bl ak)) ?_;refine go ?_;obtain ⟨eg,ct,hm⟩:=bZ hm;refine qI ct ((b1.ks aa).addr ct) ?_;obtain ⟨_,eh,ei⟩:=(b1.ks aa).atN ct;obtain ⟨⟨ej,ek,rfl,cu⟩,_⟩:=eh;replace cu:Sl Za.str ak bp ej ek eg.2:=cu;refine qW (fun _ hC=>ei.one.gr (hC.bl ak)) ?_;refine qF ⟨_,_,rfl⟩ ?_;refine qW (fun _ hC=>((ae.atN).nth (q:=2) rfl).gr (hC.bl ak)) ?_;refine go ?_;obtain ⟨hc,cv,hm⟩:=bZ hm;refine qI cv ((b2.ks aa).addr cv) ?_;obtain ⟨_,el,em⟩:=(b2.ks aa).atN cv;obtain ⟨⟨hd,he,rfl,en⟩,_⟩:=el;refine qW (fun _ hC=>em.one.gr (hC.bl ak)) ?_;obtain ⟨eo,ep,hm⟩:=bZ hm;refine qc (v:=(.bool eo)) rfl (fun _ hC=>⟨_,_,Zs5 call82 rfl rfl rfl rfl,(Zo5 ep (cu.gr (hC.bl ak)) (en.gr (hC.bl ak)):).mono fun _ _ h=>⟨h.1,hC.trans (.of_below h.2)⟩⟩) ?_;refine go ?_;refine Yn ?_;intro hf hC;replace hC:=hC.bl ak;replace ad:=ad.gr hC;replace ae:=ae.gr hC;replace aa:=aa.grow hC;refine Zp hm (fun hb hm=>go ?_) fun hb hm=>go ?_
    ·cases hm;exact ⟨rfl,rfl,aa.below⟩
    exact ⟨bk,by omega,rfl,⟨_,_,_,rfl,hm,aa,ad,ae,rfl⟩⟩
   refine Zw [2,3,1000000] (fun n f b5=>∃ b6 bq bc,bc=n∧Qx N ab ac bc bq=some r∧St w0 (Zi col) b6 b5∧Zn 27 1 b6 b5 a7 #[.string ab.1,.slice av ((ab.2.1.2.take ab.2.1.1).length) al,.slice aw ab.2.2.1.length am,.slice ax ab.2.2.2.1.length an,.slice ay ab.2.2.2.2.length ao]∧Zn 27 2 b6 b5 a8 #[.string ac.1,.slice az ac.2.1.length ap,.slice a0 ac.2.2.1.length aq,.slice a1 ac.2.2.2.1.length ar,.slice a2 ac.2.2.2.2.length au]∧[6].map f=[.int .i64 bq]) N ⟨_,0,_,rfl,hm,aa,ad,ae,rfl⟩ ?_;clear hm;intro n f b5 hI;obtain ⟨b6,bq,bc,hn,hm,aa,ad,ae,hs⟩:=hI;subst hn;refine .lL [6] hs ?_
   cases bc with
   | zero=>rw [Qx.eq_1] at hm;cases hm
   | succ bc=>
    rw [Qx.eq_2] at hm;refine go ?_;refine Z9 ae ?_;refine go ?_;refine Zp hm (fun hb hm=>go ?_) fun hb hm=>go ?_
    ·refine Z9 ae<|Xu rfl ?_;obtain ⟨bd,cw,hm⟩:=bZ hm;refine lI cw ((bi.ks aa).addr cw) ?_;obtain ⟨_,eq,er⟩:=(bi.ks aa).atN cw;obtain ⟨⟨hg,hh,rfl,hi⟩,_⟩:=eq;refine lW er.one<|go ?_;refine Z9 ad<|Xu rfl ?_;obtain ⟨hj,cx,hm⟩:=bZ hm;refine lI cx ((ba.ks aa).addr cx) ?_;obtain ⟨_,es,et⟩:=(ba.ks aa).atN cx;obtain ⟨⟨hk,hl,rfl,ho⟩,_⟩:=es;refine lW et.one<|go ?_;refine Zp hm (fun hb hm=>go ?_) fun hb hm=>go ?_
     ·cases hm;exact ⟨rfl,rfl,aa.below⟩
     refine Zw [2,3,6,7,1000000] (fun n f bm=>∃ aj cy bn,bn=n∧Zd1 N ab ac bq (Qx N ab ac bc) bd bn cy=some r∧St w0 (Zi col) aj bm∧Zn 27 1 aj bm a7 #[.string ab.1,.slice av ((ab.2.1.2.take ab.2.1.1).length) al,.slice aw ab.2.2.1.length am,.slice ax ab.2.2.2.1.length an,.slice ay ab.2.2.2.2.length ao]∧Zn 27 2 aj bm a8 #[.string ac.1,.slice az ac.2.1.length ap,.slice a0 ac.2.2.1.length aq,.slice a1 ac.2.2.2.1.length ar,.slice a2 ac.2.2.2.2.length au]∧[8].map f=[.int .i64 cy]) N ⟨_,0,_,rfl,hm,aa,ad,ae,rfl⟩ ?_;clear hm;intro n f bm hI;obtain ⟨aj,cy,bn,hn,hm,aa,ad,ae,hs⟩:=hI;subst hn;refine .lL [8] hs ?_
     cases bn with
     | zero=>rw [Zd1.eq_1] at hm;cases hm
     | succ bn=>
      rw [Zd1.eq_2] at hm;refine go ?_;refine Zp hm (fun hb hm=>go ?_) fun hb hm=>go ?_
      ·refine Wj (col:=aj) (by kernel_rfl) (by kernel_rfl)<|qF ⟨_,_,rfl⟩ ?_;refine qW (fun _ hC=>((ad.atN).nth (q:=3) rfl).gr (hC.bl aj)) ?_;refine go ?_;obtain ⟨cz,c0,hm⟩:=bZ hm;refine qI c0 ((ba.ks aa).addr c0) ?_;obtain ⟨_,eu,ew⟩:=(ba.ks aa).atN c0;obtain ⟨⟨ey,ez,rfl,b7⟩,_⟩:=eu;replace b7:Sl (Za.int .i64) aj bm ey ez cz.2:=b7;refine qW (fun _ hC=>ew.one.gr (hC.bl aj)) ?_;refine go ?_;obtain ⟨hp,c1,hm⟩:=bZ hm;refine qI c1 ((b7.take cz.1).addr c1)<|qW (fun _ hC=>((b7.take cz.1).gr (hC.bl aj)).atInt c1) ?_;refine qF ⟨_,_,rfl⟩ ?_;refine qW (fun _ hC=>((ae.atN).nth (q:=3) rfl).gr (hC.bl aj)) ?_;refine go ?_;obtain ⟨hq,c2,hm⟩:=bZ hm;refine qI c2 ((bi.ks aa).addr c2) ?_;obtain ⟨_,e0,e1⟩:=(bi.ks aa).atN c2;obtain ⟨⟨hr,ht,rfl,eb⟩,_⟩:=e0;refine qW (fun _ hC=>e1.one.gr (hC.bl aj)) ?_;refine go ?_;obtain ⟨hu,c3,hm⟩:=bZ hm;refine qI c3 (eb.addr c3)<|qW (fun _ hC=>(eb.gr (hC.bl aj)).atInt c3) ?_;refine go ?_;refine Yn ?_;intro hv hC;replace hC:=hC.bl aj;replace ad:=ad.gr hC;replace ae:=ae.gr hC;replace aa:=aa.grow hC;refine Zp hm (fun hb hm=>go ?_) fun hb hm=>go ?_
       ·cases hm;exact ⟨rfl,rfl,aa.below⟩
       exact ⟨bn,by omega,rfl,⟨_,_,_,rfl,hm,aa,ad,ae,rfl⟩⟩
      refine Z9 ad<|Xu rfl ?_;obtain ⟨c4,c5,hm⟩:=bZ hm;refine lI c5 ((ba.ks aa).addr c5) ?_;obtain ⟨_,e2,e3⟩:=(ba.ks aa).atN c5;obtain ⟨⟨b8,b9,rfl,bg⟩,_⟩:=e2;replace bg:Sl (Za.int .i64) aj bm b8 b9 c4.2:=bg;refine lW e3.one<|go ?_;obtain ⟨c6,hm⟩:=Zz hm;refine lv (v:=.slice b8 (Int.toNat (i64.wrap ((bd.length:Int)+2))) b9) rfl rfl (Vu underlying40 sizeOf3 rfl rfl c6.1 (by have:=bg.1.2;have:=c6.2;omega))<|.ld (d:=126) (v:=(.slice b8 ((c4.2.take (Int.toNat (i64.wrap ((bd.length:Int)+2)))).length) b9)) (congrArg (fun n=>Value.slice b8 n b9) (List.length_take_of_le (show (Int.toNat (i64.wrap ((bd.length:Int)+2)))≤c4.2.length by have:=c6.2;omega)).symm) ?_;refine T5 rfl<|Zl<|Zu ?_;refine Wp.cutK [2,3,6,1000000] (fun f ca=>∃ cb c7,Zit bq (Qx N ab ac bc) c7=some r∧St w0 (Zi col) cb ca∧Zn 27 1 cb ca a7 #[.string ab.1,.slice av ((ab.2.1.2.take ab.2.1.1).length) al,.slice aw ab.2.2.1.length am,.slice ax ab.2.2.2.1.length an,.slice ay ab.2.2.2.2.length ao]∧Zn 27 2 cb ca a8 #[.string ac.1,.slice az ac.2.1.length ap,.slice a0 ac.2.2.1.length aq,.slice a1 ac.2.2.2.1.length ar,.slice a2 ac.2.2.2.2.length au]∧[139].map f=[.bool c7]) ?_ ?_
      ·intro f ca hJ;obtain ⟨cb,c7,hm,aa,ad,ae,hs⟩:=hJ;rw [Zit.eq_1] at hm;refine .lL [139] hs ?_;refine Zp hm (fun hb hm=>go ?_) fun hb hm=>go ?_
       ·cases hm;exact ⟨rfl,rfl,aa.below⟩
       exact ⟨bc,by omega,rfl,⟨_,_,_,rfl,hm,aa,ad,ae,rfl⟩⟩
      refine go ?_;obtain ⟨hw,c8,hm⟩:=bZ hm;refine lI c8 ((bg.take (Int.toNat (i64.wrap ((bd.length:Int)+2)))).addr c8)<|lW ((bg.take (Int.toNat (i64.wrap ((bd.length:Int)+2)))).atInt c8) ?_;refine go ?_;refine Xr hm (fun c9 hm=>go ?_) fun c9 hm=>go ?_
      ·refine lV (.bool true) (Z6 (congrArg Value.bool c9) rfl)<|Zl ?_;exact ⟨rfl,_,_,hm,aa,ad,ae,rfl⟩
      obtain ⟨e4,da,hm⟩:=bZ hm;refine lI da ((bg.take (Int.toNat (i64.wrap ((bd.length:Int)+2)))).addr da) ?_;refine go ?_;refine lW ((bg.take (Int.toNat (i64.wrap ((bd.length:Int)+2)))).atInt da)<|go ?_;refine lV (.bool (!decide (e4=(-96)))) (Xg (congrArg Value.bool c9) rfl)<|Zl ?_;exact ⟨rfl,_,_,hm,aa,ad,ae,rfl⟩
    refine Zw [2,3,1000000] (fun n f cc=>∃ cd bo a9,a9=n∧S0 N ab ac a9 bo=some r∧St w0 (Zi col) cd cc∧Zn 27 1 cd cc a7 #[.string ab.1,.slice av ((ab.2.1.2.take ab.2.1.1).length) al,.slice aw ab.2.2.1.length am,.slice ax ab.2.2.2.1.length an,.slice ay ab.2.2.2.2.length ao]∧Zn 27 2 cd cc a8 #[.string ac.1,.slice az ac.2.1.length ap,.slice a0 ac.2.2.1.length aq,.slice a1 ac.2.2.2.1.length ar,.slice a2 ac.2.2.2.2.length au]∧[10].map f=[.int .i64 bo]) N ⟨_,0,_,rfl,hm,aa,ad,ae,rfl⟩ ?_;clear hm;intro n f cc hI;obtain ⟨cd,bo,a9,hn,hm,aa,ad,ae,hs⟩:=hI;subst hn;refine .lL [10] hs ?_
    cases a9 with
    | zero=>rw [S0.eq_1] at hm;cases hm
    | succ a9=>
     rw [S0.eq_2] at hm;refine go ?_;refine Z9 ae ?_;refine go ?_;refine Zp hm (fun hb hm=>go ?_) fun hb hm=>go ?_
     ·refine Z9 ae<|Xu rfl ?_;obtain ⟨ah,db,hm⟩:=bZ hm;refine lI db ((bj.ks aa).addr db) ?_;obtain ⟨_,e5,e6⟩:=(bj.ks aa).atN db;obtain ⟨⟨hx,hy,rfl,hz⟩,_⟩:=e5;refine lW e6.one<|go ?_;refine Z9 ad<|Xu rfl ?_;obtain ⟨h0,dc,hm⟩:=bZ hm;refine lI dc ((bb.ks aa).addr dc) ?_;obtain ⟨_,e7,e8⟩:=(bb.ks aa).atN dc;obtain ⟨⟨h1,h2,rfl,h3⟩,_⟩:=e7;refine lW e8.one<|go ?_;refine Zp hm (fun hb hm=>go ?_) fun hb hm=>go ?_
      ·cases hm;exact ⟨rfl,rfl,aa.below⟩
      refine Zw [10,11,2,3,1000000] (fun n f a4=>∃ a3 ce bh,bh=n∧Sf N ab ac bo (S0 N ab ac a9) ah bh ce=some r∧St w0 (Zi col) a3 a4∧Zn 27 1 a3 a4 a7 #[.string ab.1,.slice av ((ab.2.1.2.take ab.2.1.1).length) al,.slice aw ab.2.2.1.length am,.slice ax ab.2.2.2.1.length an,.slice ay ab.2.2.2.2.length ao]∧Zn 27 2 a3 a4 a8 #[.string ac.1,.slice az ac.2.1.length ap,.slice a0 ac.2.2.1.length aq,.slice a1 ac.2.2.2.1.length ar,.slice a2 ac.2.2.2.2.length au]∧[12].map f=[.int .i64 ce]) N ⟨_,0,_,rfl,hm,aa,ad,ae,rfl⟩ ?_;clear hm;intro n f a4 hI;obtain ⟨a3,ce,bh,hn,hm,aa,ad,ae,hs⟩:=hI;subst hn;refine .lL [12] hs ?_
      cases bh with
      | zero=>rw [Sf.eq_1] at hm;cases hm
      | succ bh=>
       rw [Sf.eq_2] at hm;refine go ?_;refine Zp hm (fun hb hm=>go ?_) fun hb hm=>go ?_
       ·refine Z9 ad<|Xu rfl ?_;obtain ⟨dd,de,hm⟩:=bZ hm;refine lI de ((bb.ks aa).addr de) ?_;obtain ⟨_,e9,fa⟩:=(bb.ks aa).atN de;obtain ⟨⟨fb,fc,rfl,cf⟩,_⟩:=e9;replace cf:Sl (Za.pair (Za.pair Za.bool (Za.view (Za.int .u32))) (Za.view (Za.int .u32))) a3 a4 fb fc dd.2:=cf;refine lW fa.one<|Xu rfl ?_;obtain ⟨af,df,hm⟩:=bZ hm;refine lI df ((cf.take dd.1).addr df) ?_;obtain ⟨_,fd,fe⟩:=(cf.take dd.1).atN df;obtain ⟨_,_,rfl,ff,fg⟩:=Yx fd;obtain ⟨_,_,rfl,fh,fi⟩:=Yx ff;obtain ⟨rfl,_⟩:=fh;obtain ⟨⟨br,bs,rfl,a5⟩,_⟩:=fi;replace a5:Sl (Za.int .u32) a3 a4 br bs af.1.2.2:=a5;obtain ⟨⟨bt,bu,rfl,a6⟩,_⟩:=fg;replace a6:Sl (Za.int .u32) a3 a4 bt bu af.2.2:=a6;refine lV (.agg #[.bool af.1.1,.slice br ((af.1.2.2.take af.1.2.1).length) bs,.slice bt ((af.2.2.take af.2.1).length) bu]) (Xq isAgg47 sizeOf47 rfl rfl fe)<|Xp (col:=a3) #[.bool false,.slice none (([]:List Int).length) 0,.slice none (([]:List Int).length) 0] 3 zeroValue47 ?_;intro h4 h5 ag bv fj;refine Z7 fj ?_;intro h6 bw fk bx;refine go ?_;refine Z3 ⟨_,_,rfl⟩ ?_;refine Z3 (X9 ⟨_,_,rfl⟩) ?_;refine lW ((((bx.atN).part 0 2 _ rfl)).nth (q:=1) rfl)<|Z3 ⟨_,_,rfl⟩ ?_;refine Z3 (X9 ⟨_,_,rfl⟩) ?_;refine lW ((((bx.atN).part 0 2 _ rfl)).nth (q:=1) rfl)<|go ?_;obtain ⟨dg,hm⟩:=Zz hm;replace a5:=(a5.gr bv).kp bw;refine lv (v:=.slice br (Int.toNat (i64.wrap (((af.1.2.2.take af.1.2.1).length:Int)+2))) bs) rfl rfl (Vu underlying43 sizeOf79 rfl rfl dg.1 (by have:=a5.1.2;have:=dg.2;omega))<|.ld (d:=182) (v:=(.slice br ((af.1.2.2.take (Int.toNat (i64.wrap (((af.1.2.2.take af.1.2.1).length:Int)+2)))).length) bs)) (congrArg (fun n=>Value.slice br n bs) (List.length_take_of_le (show (Int.toNat (i64.wrap (((af.1.2.2.take af.1.2.1).length:Int)+2)))≤af.1.2.2.length by have:=dg.2;omega)).symm) ?_;refine go ?_;refine Z9 bx<|Z9 bx ?_;refine go ?_;obtain ⟨dh,hm⟩:=Zz hm;replace a6:=(a6.gr bv).kp bw
        refine lv (v:=.slice bt (Int.toNat (i64.wrap (((af.2.2.take af.2.1).length:Int)+2))) bu) rfl rfl (Vu underlying43 sizeOf79 rfl rfl dh.1 (by have:=a6.1.2;have:=dh.2;omega))<|.ld (d:=189) (v:=(.slice bt ((af.2.2.take (Int.toNat (i64.wrap (((af.2.2.take af.2.1).length:Int)+2)))).length) bu)) (congrArg (fun n=>Value.slice bt n bu) (List.length_take_of_le (show (Int.toNat (i64.wrap (((af.2.2.take af.2.1).length:Int)+2)))≤af.2.2.length by have:=dh.2;omega)).symm) ?_;refine T5 rfl<|Zl<|Zu ?_;replace ad:=(ad.gr bv).kp bw;replace ae:=(ae.gr bv).kp bw;replace aa:=(aa.grow bv).kp bw fk;refine Wp.cutK [10,11,12,2,3,1000000] (fun f cg=>∃ ch di,Zb3 ce (Sf N ab ac bo (S0 N ab ac a9) ah bh) di=some r∧St w0 (Zi col) ch cg∧Zn 27 1 ch cg a7 #[.string ab.1,.slice av ((ab.2.1.2.take ab.2.1.1).length) al,.slice aw ab.2.2.1.length am,.slice ax ab.2.2.2.1.length an,.slice ay ab.2.2.2.2.length ao]∧Zn 27 2 ch cg a8 #[.string ac.1,.slice az ac.2.1.length ap,.slice a0 ac.2.2.1.length aq,.slice a1 ac.2.2.2.1.length ar,.slice a2 ac.2.2.2.2.length au]∧[236].map f=[.bool di]) ?_ ?_
        ·intro f cg hJ;obtain ⟨ch,di,hm,aa,ad,ae,hs⟩:=hJ;rw [Zb3.eq_1] at hm;refine .lL [236] hs ?_;refine Zp hm (fun hb hm=>go ?_) fun hb hm=>go ?_
         ·cases hm;exact ⟨rfl,rfl,aa.below⟩
         exact ⟨bh,by omega,rfl,⟨_,_,_,rfl,hm,aa,ad,ae,rfl⟩⟩
        refine Wj (col:=ag) (by kernel_rfl) (by kernel_rfl)<|qv rfl (fun _ hC=>Xj isAgg47 sizeOf47 (bx.gr (hC.bl ag))) ?_;refine qF ⟨_,_,rfl⟩ ?_;refine qW (fun _ hC=>((ae.atN).nth (q:=4) rfl).gr (hC.bl ag)) ?_;refine go ?_;obtain ⟨h7,dj,hm⟩:=bZ hm;refine qI dj ((bj.ks aa).addr dj) ?_;obtain ⟨_,fl,fm⟩:=(bj.ks aa).atN dj;obtain ⟨⟨h8,h9,rfl,ec⟩,_⟩:=fl;refine qW (fun _ hC=>fm.one.gr (hC.bl ag)) ?_;refine go ?_;obtain ⟨dk,dl,hm⟩:=bZ hm;refine qI dl (ec.addr dl) ?_;obtain ⟨_,fn,fp⟩:=ec.atN dl;obtain ⟨_,_,rfl,fq,fr⟩:=Yx fn;obtain ⟨_,_,rfl,ft,fu⟩:=Yx fq;obtain ⟨rfl,_⟩:=ft;obtain ⟨⟨fv,fw,rfl,fx⟩,_⟩:=fu;obtain ⟨⟨fy,fz,rfl,f0⟩,_⟩:=fr;refine qv (v:=(.agg #[.bool dk.1.1,.slice fv dk.1.2.length fw,.slice fy dk.2.length fz])) rfl (fun _ hC=>Xq isAgg47 sizeOf47 rfl rfl (fp.gr (hC.bl ag))) ?_;obtain ⟨f1,f2,hm⟩:=bZ hm;refine qc (v:=(.bool f1)) rfl (fun _ hC=>⟨_,_,Q1 call25 rfl rfl,(Zck f2 ((a5.take af.1.2.1).gr (hC.bl ag)) ((a6.take af.2.1).gr (hC.bl ag)) (fx.gr (hC.bl ag)) (f0.gr (hC.bl ag)):).mono fun _ _ h=>⟨h.1,hC.trans (.of_below h.2)⟩⟩) ?_;refine go ?_;refine Xr hm (fun dm hm=>go ?_) fun dm hm=>go ?_
        ·refine qv (v:=(.bool true)) rfl (fun _ hC=>Z6 (congrArg Value.bool dm) rfl) ?_;refine go ?_;refine qP 210 rfl rfl<|qP 210 rfl rfl<|qP 210 rfl rfl<|qP 210 rfl rfl<|qP 210 rfl rfl<|qP 210 rfl rfl<|qP 210 rfl rfl<|qv (v:=(.bool true)) rfl (fun _ hC=>Z6 rfl rfl) ?_;refine go ?_;refine qP 219 rfl rfl<|qP 219 rfl rfl<|qP 219 rfl rfl<|qP 219 rfl rfl<|qP 219 rfl rfl<|qP 219 rfl rfl<|qP 219 rfl rfl<|qv (v:=(.bool true)) rfl (fun _ hC=>Z6 rfl rfl) ?_;refine go ?_;refine qP 228 rfl rfl<|qP 228 rfl rfl<|qP 228 rfl rfl<|qP 228 rfl rfl<|qP 228 rfl rfl<|qP 228 rfl rfl<|qP 228 rfl rfl<|qv (v:=(.bool true)) rfl (fun _ hC=>Z6 rfl rfl) ?_;refine Yn ?_;intro ia hC;replace hC:=hC.bl ag;replace ad:=ad.gr hC;replace ae:=ae.gr hC;replace aa:=aa.grow hC;exact ⟨rfl,_,_,hm,aa,ad,ae,rfl⟩
        obtain ⟨f3,dn,hm⟩:=bZ hm;refine qI dn ((a5.take (Int.toNat (i64.wrap (((af.1.2.2.take af.1.2.1).length:Int)+2)))).addr dn) ?_;refine go ?_;refine qW (fun _ hC=>((a5.take (Int.toNat (i64.wrap (((af.1.2.2.take af.1.2.1).length:Int)+2)))).gr (hC.bl ag)).atInt dn) ?_;refine go ?_;refine qv (v:=(.bool (!decide (f3=902)))) rfl (fun _ hC=>Xg (congrArg Value.bool dm) rfl) ?_;refine go ?_;refine Xr hm (fun dp hm=>go ?_) fun dp hm=>go ?_
        ·refine qv (v:=(.bool true)) rfl (fun _ hC=>Z6 (congrArg Value.bool dp) rfl) ?_;refine go ?_;refine qP 219 rfl rfl<|qP 219 rfl rfl<|qP 219 rfl rfl<|qP 219 rfl rfl<|qP 219 rfl rfl<|qP 219 rfl rfl<|qP 219 rfl rfl<|qv (v:=(.bool true)) rfl (fun _ hC=>Z6 rfl rfl) ?_;refine go ?_;refine qP 228 rfl rfl<|qP 228 rfl rfl<|qP 228 rfl rfl<|qP 228 rfl rfl<|qP 228 rfl rfl<|qP 228 rfl rfl<|qP 228 rfl rfl<|qv (v:=(.bool true)) rfl (fun _ hC=>Z6 rfl rfl) ?_;refine Yn ?_;intro ib hC;replace hC:=hC.bl ag;replace ad:=ad.gr hC;replace ae:=ae.gr hC;replace aa:=aa.grow hC;exact ⟨rfl,_,_,hm,aa,ad,ae,rfl⟩
        obtain ⟨f4,dq,hm⟩:=bZ hm;refine qI dq ((a5.take (Int.toNat (i64.wrap (((af.1.2.2.take af.1.2.1).length:Int)+2)))).addr dq) ?_;refine go ?_;refine qW (fun _ hC=>((a5.take (Int.toNat (i64.wrap (((af.1.2.2.take af.1.2.1).length:Int)+2)))).gr (hC.bl ag)).atInt dq) ?_;refine go ?_;refine qv (v:=(.bool (!decide (f4=901)))) rfl (fun _ hC=>Xg (congrArg Value.bool dp) rfl) ?_;refine go ?_;refine Xr hm (fun dr hm=>go ?_) fun dr hm=>go ?_
        ·refine qv (v:=(.bool true)) rfl (fun _ hC=>Z6 (congrArg Value.bool dr) rfl) ?_;refine go ?_;refine qP 228 rfl rfl<|qP 228 rfl rfl<|qP 228 rfl rfl<|qP 228 rfl rfl<|qP 228 rfl rfl<|qP 228 rfl rfl<|qP 228 rfl rfl<|qv (v:=(.bool true)) rfl (fun _ hC=>Z6 rfl rfl) ?_;refine Yn ?_;intro ic hC;replace hC:=hC.bl ag;replace ad:=ad.gr hC;replace ae:=ae.gr hC;replace aa:=aa.grow hC;exact ⟨rfl,_,_,hm,aa,ad,ae,rfl⟩
        obtain ⟨f5,ds,hm⟩:=bZ hm;refine qI ds ((a6.take (Int.toNat (i64.wrap (((af.2.2.take af.2.1).length:Int)+2)))).addr ds) ?_;refine go ?_;refine qW (fun _ hC=>((a6.take (Int.toNat (i64.wrap (((af.2.2.take af.2.1).length:Int)+2)))).gr (hC.bl ag)).atInt ds) ?_;refine go ?_;refine qv (v:=(.bool (!decide (f5=904)))) rfl (fun _ hC=>Xg (congrArg Value.bool dr) rfl) ?_;refine go ?_;refine Xr hm (fun dt hm=>go ?_) fun dt hm=>go ?_
        ·refine qv (v:=(.bool true)) rfl (fun _ hC=>Z6 (congrArg Value.bool dt) rfl) ?_;refine Yn ?_;intro id hC;replace hC:=hC.bl ag;replace ad:=ad.gr hC;replace ae:=ae.gr hC;replace aa:=aa.grow hC;exact ⟨rfl,_,_,hm,aa,ad,ae,rfl⟩
        obtain ⟨f6,du,hm⟩:=bZ hm;refine qI du ((a6.take (Int.toNat (i64.wrap (((af.2.2.take af.2.1).length:Int)+2)))).addr du) ?_;refine go ?_;refine qW (fun _ hC=>((a6.take (Int.toNat (i64.wrap (((af.2.2.take af.2.1).length:Int)+2)))).gr (hC.bl ag)).atInt du) ?_;refine go ?_;refine qv (v:=(.bool (!decide (f6=903)))) rfl (fun _ hC=>Xg (congrArg Value.bool dt) rfl) ?_;refine Yn ?_;intro ie hC;replace hC:=hC.bl ag;replace ad:=ad.gr hC;replace ae:=ae.gr hC;replace aa:=aa.grow hC;exact ⟨rfl,_,_,hm,aa,ad,ae,rfl⟩
       refine Z9 ad<|Xu rfl ?_;obtain ⟨dv,dw,hm⟩:=bZ hm;refine lI dw ((bb.ks aa).addr dw) ?_;obtain ⟨_,f7,f8⟩:=(bb.ks aa).atN dw;obtain ⟨⟨ci,cj,rfl,ai⟩,_⟩:=f7;replace ai:Sl (Za.pair (Za.pair Za.bool (Za.view (Za.int .u32))) (Za.view (Za.int .u32))) a3 a4 ci cj dv.2:=ai;refine lW f8.one<|go ?_;obtain ⟨dx,hm⟩:=Zz hm;refine lv (v:=.slice ci (Int.toNat (i64.wrap ((ah.length:Int)+2))) cj) rfl rfl (Vu underlying56 sizeOf47 rfl rfl dx.1 (by have:=ai.1.2;have:=dx.2;omega))<|.ld (d:=244) (v:=(.slice ci ((dv.2.take (Int.toNat (i64.wrap ((ah.length:Int)+2)))).length) cj)) (congrArg (fun n=>Value.slice ci n cj) (List.length_take_of_le (show (Int.toNat (i64.wrap ((ah.length:Int)+2)))≤dv.2.length by have:=dx.2;omega)).symm) ?_;refine T5 rfl<|Zl<|Zu ?_;refine Wp.cutK [10,2,3,1000000] (fun f ck=>∃ cl dy,Zdz bo (S0 N ab ac a9) dy=some r∧St w0 (Zi col) cl ck∧Zn 27 1 cl ck a7 #[.string ab.1,.slice av ((ab.2.1.2.take ab.2.1.1).length) al,.slice aw ab.2.2.1.length am,.slice ax ab.2.2.2.1.length an,.slice ay ab.2.2.2.2.length ao]∧Zn 27 2 cl ck a8 #[.string ac.1,.slice az ac.2.1.length ap,.slice a0 ac.2.2.1.length aq,.slice a1 ac.2.2.2.1.length ar,.slice a2 ac.2.2.2.2.length au]∧[282].map f=[.bool dy]) ?_ ?_
       ·intro f ck hJ;obtain ⟨cl,dy,hm,aa,ad,ae,hs⟩:=hJ;rw [Zdz.eq_1] at hm;refine .lL [282] hs ?_;refine Zp hm (fun hb hm=>go ?_) fun hb hm=>go ?_
        ·cases hm;exact ⟨rfl,rfl,aa.below⟩
        exact ⟨a9,by omega,rfl,⟨_,_,_,rfl,hm,aa,ad,ae,rfl⟩⟩
       refine go ?_;obtain ⟨dz,be,hm⟩:=bZ hm;refine lI be ((ai.take (Int.toNat (i64.wrap ((ah.length:Int)+2)))).addr be)<|Z3 (X9 ((ai.take (Int.toNat (i64.wrap ((ah.length:Int)+2)))).addr be)) ?_;obtain ⟨_,f9,ga⟩:=(ai.take (Int.toNat (i64.wrap ((ah.length:Int)+2)))).atN be;obtain ⟨_,_,rfl,gb,gc⟩:=Yx f9;obtain ⟨_,_,rfl,gd,ge⟩:=Yx gb;obtain ⟨rfl,_⟩:=gd;obtain ⟨⟨ig,ih,rfl,ii⟩,_⟩:=ge;obtain ⟨⟨ij,ik,rfl,il⟩,_⟩:=gc;refine lW ((ga).nth (q:=2) rfl)<|go ?_;refine Xr hm (fun d0 hm=>go ?_) fun d0 hm=>go ?_
       ·refine lV (.bool true) (Z6 (congrArg Value.bool d0) rfl)<|Xt rfl<|lP 262 rfl rfl<|lP 262 rfl rfl<|lP 262 rfl rfl<|lP 262 rfl rfl<|lP 262 rfl rfl<|lP 262 rfl rfl<|lP 262 rfl rfl<|lP 262 rfl rfl<|lV (.bool true) (Z6 rfl rfl)<|Xt rfl<|lP 272 rfl rfl<|lP 272 rfl rfl<|lP 272 rfl rfl<|lP 272 rfl rfl<|lP 272 rfl rfl<|lP 272 rfl rfl<|lP 272 rfl rfl<|lP 272 rfl rfl<|lP 272 rfl rfl<|lV (.bool true) (Z6 rfl rfl)<|Zl ?_;exact ⟨rfl,_,_,hm,aa,ad,ae,rfl⟩
       refine lI be ((ai.take (Int.toNat (i64.wrap ((ah.length:Int)+2)))).addr be) ?_;refine go ?_;refine Z3 (X9 ((ai.take (Int.toNat (i64.wrap ((ah.length:Int)+2)))).addr be)) ?_;refine go ?_;obtain ⟨_,gf,gg⟩:=(ai.take (Int.toNat (i64.wrap ((ah.length:Int)+2)))).atN be;obtain ⟨_,_,rfl,gh,gi⟩:=Yx gf;obtain ⟨_,_,rfl,gj,gk⟩:=Yx gh;obtain ⟨rfl,_⟩:=gj;obtain ⟨⟨im,io,rfl,ip⟩,_⟩:=gk;obtain ⟨⟨gl,gm,rfl,cn⟩,_⟩:=gi;replace cn:Sl (Za.int .u32) a3 a4 gl gm dz.2.2:=cn;refine lW ((gg).nth (q:=2) rfl)<|go ?_;obtain ⟨gp,d1,hm⟩:=bZ hm;refine lI d1 ((cn.take dz.2.1).addr d1) ?_;refine go ?_;refine lW ((cn.take dz.2.1).atInt d1)<|go ?_;refine lV (.bool (!decide (gp=97))) (Xg (congrArg Value.bool d0) rfl)<|Xt rfl ?_;refine Xr hm (fun d2 hm=>go ?_) fun d2 hm=>go ?_
       ·refine lV (.bool true) (Z6 (congrArg Value.bool d2) rfl)<|Xt rfl<|lP 272 rfl rfl<|lP 272 rfl rfl<|lP 272 rfl rfl<|lP 272 rfl rfl<|lP 272 rfl rfl<|lP 272 rfl rfl<|lP 272 rfl rfl<|lP 272 rfl rfl<|lP 272 rfl rfl<|lV (.bool true) (Z6 rfl rfl)<|Zl ?_;exact ⟨rfl,_,_,hm,aa,ad,ae,rfl⟩
       obtain ⟨bz,bf,hm⟩:=bZ hm;refine lI bf ((ai.take (Int.toNat (i64.wrap ((ah.length:Int)+2)))).addr bf) ?_;refine go ?_;refine Z3 (X9 ((ai.take (Int.toNat (i64.wrap ((ah.length:Int)+2)))).addr bf)) ?_;refine go ?_;obtain ⟨_,gs,gt⟩:=(ai.take (Int.toNat (i64.wrap ((ah.length:Int)+2)))).atN bf;obtain ⟨_,_,rfl,gu,gv⟩:=Yx gs;obtain ⟨_,_,rfl,gw,gx⟩:=Yx gu;obtain ⟨rfl,_⟩:=gw;obtain ⟨⟨iq,ir,rfl,it⟩,_⟩:=gx;obtain ⟨⟨iu,iv,rfl,iw⟩,_⟩:=gv;refine lW ((gt).nth (q:=2) rfl)<|go ?_;refine lV (.bool (!decide (((bz.2.2.take bz.2.1).length:Int)=1))) (Xg (congrArg Value.bool d2) rfl)<|Xt rfl ?_;refine Xr hm (fun d3 hm=>go ?_) fun d3 hm=>go ?_
       ·refine lV (.bool true) (Z6 (congrArg Value.bool d3) rfl)<|Zl ?_;exact ⟨rfl,_,_,hm,aa,ad,ae,rfl⟩
       refine lI bf ((ai.take (Int.toNat (i64.wrap ((ah.length:Int)+2)))).addr bf) ?_;refine go ?_;refine Z3 (X9 ((ai.take (Int.toNat (i64.wrap ((ah.length:Int)+2)))).addr bf)) ?_;refine go ?_;obtain ⟨_,gy,gz⟩:=(ai.take (Int.toNat (i64.wrap ((ah.length:Int)+2)))).atN bf;obtain ⟨_,_,rfl,g0,g1⟩:=Yx gy;obtain ⟨_,_,rfl,g2,g3⟩:=Yx g0;obtain ⟨rfl,_⟩:=g2;obtain ⟨⟨ix,iy,rfl,iz⟩,_⟩:=g3;obtain ⟨⟨g4,g5,rfl,co⟩,_⟩:=g1;replace co:Sl (Za.int .u32) a3 a4 g4 g5 bz.2.2:=co;refine lW ((gz).nth (q:=2) rfl)<|go ?_;obtain ⟨g6,d4,hm⟩:=bZ hm;refine lI d4 ((co.take bz.2.1).addr d4) ?_;refine go ?_;refine lW ((co.take bz.2.1).atInt d4)<|go ?_;refine lV (.bool (!decide (g6=98))) (Xg (congrArg Value.bool d3) rfl)<|Zl ?_;exact ⟨rfl,_,_,hm,aa,ad,ae,rfl⟩
     cases hm;exact ⟨rfl,rfl,aa.below⟩
 refine Wk<|Z9 ad<|Z9 ae ?_;refine go ?_;refine Xr hm (fun d5 hm=>go ?_) fun d5 hm=>go ?_
 ·refine lV (.bool true) (Z6 (congrArg Value.bool d5) rfl)<|Xt rfl<|lP 31 rfl rfl<|lP 31 rfl rfl<|lP 31 rfl rfl<|lP 31 rfl rfl<|lP 31 rfl rfl<|lP 31 rfl rfl<|lP 31 rfl rfl<|lV (.bool true) (Z6 rfl rfl)<|Xt rfl<|lP 40 rfl rfl<|lP 40 rfl rfl<|lP 40 rfl rfl<|lP 40 rfl rfl<|lP 40 rfl rfl<|lP 40 rfl rfl<|lP 40 rfl rfl<|lV (.bool true) (Z6 rfl rfl)<|Xt rfl<|lP 49 rfl rfl<|lP 49 rfl rfl<|lP 49 rfl rfl<|lP 49 rfl rfl<|lP 49 rfl rfl<|lP 49 rfl rfl<|lV (.bool true) (Z6 rfl rfl)<|Zl ?_;exact ⟨rfl,_,_,hm,aa,ad,ae,rfl⟩
 refine Z3 ⟨_,_,rfl⟩ ?_;refine go ?_;refine lW ((ad.atN).nth (q:=2) rfl)<|go ?_;refine Z3 ⟨_,_,rfl⟩ ?_;refine go ?_;refine lW ((ae.atN).nth (q:=2) rfl)<|go ?_;refine lV (.bool (!decide ((ab.2.2.1.length:Int)=(ac.2.2.1.length:Int)))) (Xg (congrArg Value.bool d5) rfl)<|Xt rfl ?_;refine Xr hm (fun d6 hm=>go ?_) fun d6 hm=>go ?_
 ·refine lV (.bool true) (Z6 (congrArg Value.bool d6) rfl)<|Xt rfl<|lP 40 rfl rfl<|lP 40 rfl rfl<|lP 40 rfl rfl<|lP 40 rfl rfl<|lP 40 rfl rfl<|lP 40 rfl rfl<|lP 40 rfl rfl<|lV (.bool true) (Z6 rfl rfl)<|Xt rfl<|lP 49 rfl rfl<|lP 49 rfl rfl<|lP 49 rfl rfl<|lP 49 rfl rfl<|lP 49 rfl rfl<|lP 49 rfl rfl<|lV (.bool true) (Z6 rfl rfl)<|Zl ?_;exact ⟨rfl,_,_,hm,aa,ad,ae,rfl⟩
 refine Z3 ⟨_,_,rfl⟩ ?_;refine go ?_;refine lW ((ad.atN).nth (q:=3) rfl)<|go ?_;refine Z3 ⟨_,_,rfl⟩ ?_;refine go ?_;refine lW ((ae.atN).nth (q:=3) rfl)<|go ?_;refine lV (.bool (!decide ((ab.2.2.2.1.length:Int)=(ac.2.2.2.1.length:Int)))) (Xg (congrArg Value.bool d6) rfl)<|Xt rfl ?_;refine Xr hm (fun d7 hm=>go ?_) fun d7 hm=>go ?_
 ·refine lV (.bool true) (Z6 (congrArg Value.bool d7) rfl)<|Xt rfl<|lP 49 rfl rfl<|lP 49 rfl rfl<|lP 49 rfl rfl<|lP 49 rfl rfl<|lP 49 rfl rfl<|lP 49 rfl rfl<|lV (.bool true) (Z6 rfl rfl)<|Zl ?_;exact ⟨rfl,_,_,hm,aa,ad,ae,rfl⟩
 refine Z3 ⟨_,_,rfl⟩ ?_;refine go ?_;refine lW ((ad.atN).nth (q:=4) rfl)<|go ?_;refine Z3 ⟨_,_,rfl⟩ ?_;refine go ?_;refine lW ((ae.atN).nth (q:=4) rfl)<|go ?_;refine lV (.bool (!decide ((ab.2.2.2.2.length:Int)=(ac.2.2.2.2.length:Int)))) (Xg (congrArg Value.bool d7) rfl)<|Xt rfl ?_;refine Xr hm (fun d8 hm=>go ?_) fun d8 hm=>go ?_
 ·refine lV (.bool true) (Z6 (congrArg Value.bool d8) rfl)<|Zl ?_;exact ⟨rfl,_,_,hm,aa,ad,ae,rfl⟩
 refine Z3 ⟨_,_,rfl⟩ ?_;refine go ?_;refine lW ((ad.atN).nth (q:=1) rfl)<|go ?_;refine Z3 ⟨_,_,rfl⟩ ?_;refine go ?_;refine lW ((ae.atN).nth (q:=1) rfl)<|go ?_;obtain ⟨g7,g8,hm⟩:=bZ hm;refine Zh (Zo5 g8 (cp.ks aa) (cq.ks aa)) ?_;rintro _ g9 ⟨rfl,b0⟩;refine ⟨_,rfl,?_⟩;replace b0:Zf d9 ef d9 g9:=.of_below b0;refine go ?_;refine lV (.bool (!g7)) (Xg (congrArg Value.bool d8) rfl)<|Zl ?_;replace ad:=ad.gr b0;replace ae:=ae.gr b0;replace aa:=aa.grow b0;exact ⟨rfl,_,_,hm,aa,ad,ae,rfl⟩
abbrev Zhf:=ByteArray×List ByteArray×List Ra×List R2×List (List QV)
abbrev VQ:=(Bool×R5)×R5
def Yk {α:Type} (ms l:List α):Nat×List α:=(l.length,l++ms)
def Vc (x:QV):VQ:=((x.1.1,Yk [901,902] x.1.2),Yk [903,904] x.2)
def Qy (k:Int):VQ:=((false,(0,[])),([k].length,[k]))
def Wz (t:List QV):Nat×List VQ:=(t.length,t.map Vc++[Qy 97,Qy 98])
def Yr (n:Zhf):ByteArray×R6×List R6×List R5×List (Nat×List VQ):=
 (n.1,Yk [⟨#[35,49]⟩,⟨#[35,50]⟩] n.2.1,n.2.2.1.map (Yk [⟨#[35,51]⟩,⟨#[35,52]⟩]),n.2.2.2.1.map (Yk [-95,-96]),n.2.2.2.2.map Wz)
structure Zjl (n:Zhf):Prop where
 nm:n.2.1.length≤1048576
 vn:n.2.2.1.length≤1048576
 vl:∀ l ∈ n.2.2.1,l.length≤1048576
 pn:n.2.2.2.1.length≤1048576
 pl:∀ l ∈ n.2.2.2.1,l.length≤1048576
 tn:n.2.2.2.2.length≤1048576
 tl:∀ t ∈ n.2.2.2.2,t.length≤1048576
 tm:∀ t ∈ n.2.2.2.2,∀ x ∈ t,x.1.2.length≤1048576∧x.2.length≤1048576
theorem Zg8 {α:Type} (ms l:List α):Xf (Yk ms l)=l:=by rw [Xf,Yk];exact List.take_left
theorem Zz5 {α:Type} (ms:List α) (L:List (List α)):(L.map (Yk ms)).map Xf=L:=by
 rw [List.map_map]
 conv=>rhs;rw [← List.map_id L]
 exact List.map_congr_left fun l _=>Zg8 ms l
theorem Z2o (x:QV):Prod.map (Prod.map id Xf) Xf (Vc x)=x:=by
 rw [Vc];simp only [Prod.map,id,Zg8]
theorem Z2p (t:List QV):Vf (Prod.map (Prod.map id Xf) Xf) (Wz t)=t:=by
 rw [Vf,Wz]
 show List.map _ (List.take t.length (t.map Vc++_))=t
 rw [show t.length=(t.map Vc).length by rw [List.length_map],List.take_left,List.map_map]
 conv=>rhs;rw [← List.map_id t]
 exact List.map_congr_left fun x _=>Z2o x
theorem Zz6 (T:List (List QV)):(T.map Wz).map (Vf (Prod.map (Prod.map id Xf) Xf))=T:=by
 rw [List.map_map]
 conv=>rhs;rw [← List.map_id T]
 exact List.map_congr_left fun t _=>Z2p t
theorem Zvp (n:Zhf):((Yr n).1,(Yr n).2.1.2.take (Yr n).2.1.1,(Yr n).2.2.1.map Xf,(Yr n).2.2.2.1.map Xf,(Yr n).2.2.2.2.map (Vf (Prod.map (Prod.map id Xf) Xf)))=n:=by
 rw [Yr]
 simp only [Zz5,Zz6]
 have:=Zg8 [⟨#[35,49]⟩,⟨#[35,50]⟩] n.2.1
 rw [Xf] at this
 rw [this]
theorem Zyh {x:QV} (h1:x.1.2.length≤1048576) (h2:x.2.length≤1048576):Zgs x=some (Vc x):=by
 rw [Zgs,Z5 (by simp only [List.length_nil,maxLen];omega),Z5 (by simp only [List.length_append,List.length_nil,List.length_cons,maxLen];omega),Z5 (by simp only [List.length_nil,maxLen];omega),Z5 (by simp only [List.length_append,List.length_nil,List.length_cons,maxLen];omega),Z5 (by simp only [List.length_append,List.length_nil,List.length_cons];omega),Z5 (by simp only [List.length_append,List.length_nil,List.length_cons];omega),Vc,Yk,Yk,List.nil_append,List.nil_append,Int.toNat_natCast,Int.toNat_natCast]
section
variable {N:Nat} {n:Zhf} (hs:Zjl n) (hN:1048577<N)
include hs hN
omit hN in
theorem Zrb {m4:ByteArray} {m5:List ByteArray} {m9:List R6} {m13:List R5} {m17:List (Nat×List VQ)} {i:Nat} (hi:i<n.2.2.2.2.length) (hm:m17.length≤1048576) (hib:i≤1048576) (kk:ByteArray→List ByteArray→List R6→List R5→List (Nat×List VQ)→Int→Option (ByteArray×R6×List R6×List R5×List (Nat×List VQ))):∀ (f k:Nat) (l:List VQ),k≤n.2.2.2.2[i].length→n.2.2.2.2[i].length<f+k→l=(n.2.2.2.2[i].take k).map Vc→
  Zd4 N n m4 m5 m9 m13 m17 (i:Int) kk f (k:Int) l=kk m4 m5 m9 m13 (m17++[Wz n.2.2.2.2[i]]) ((i:Int)+1)
 | 0,k,l,h1,h2,_=>by omega
 | f+1,k,l,h1,h2,h3=>by
  have ht:=hs.tl _ (List.getElem_mem hi)
  have hl:l.length=k:=by rw [h3,List.length_map,List.length_take];omega
  rw [Zd4.eq_2,Zv hi,Option.bind_some]
  by_cases hk:k<n.2.2.2.2[i].length
  ·obtain ⟨x1,x2⟩:=hs.tm _ (List.getElem_mem hi) _ (List.getElem_mem hk)
   have hc:Zgs (((n.2.2.2.2[i][k]).1.1,(n.2.2.2.2[i][k]).1.2),(n.2.2.2.2[i][k]).2)=some (Vc n.2.2.2.2[i][k]):=Zyh (x:=n.2.2.2.2[i][k]) x1 x2
   rw [if_pos (decide_eq_true (by omega)),Zv hk,Option.bind_some,hc,Option.bind_some,Z5 (by simp only [List.length_singleton,maxLen];omega),Zq (by omega)]
   exact Zrb hi hm hib kk f (k+1) _ (by omega) (by omega) (by rw [h3,List.take_add_one,List.getElem?_eq_getElem hk,Option.toList_some,List.map_append];rfl)
  ·have hk2:k=n.2.2.2.2[i].length:=by omega
   rw [if_neg (by rw [decide_eq_false (by omega)];decide),Z5 (by simp only [List.length_cons,List.length_nil,maxLen];omega),Z5 (by simp only [List.length_append,List.length_cons,List.length_nil];omega),Z5 (by simp only [List.length_singleton,maxLen];omega),Zq (by omega),Int.toNat_natCast,h3,hk2,List.take_length]
   rfl
theorem Zra {m4:ByteArray} {m5:List ByteArray} {m9:List R6} {m13:List R5}:∀ (f i:Nat) (m17:List (Nat×List VQ)),i≤n.2.2.2.2.length→n.2.2.2.2.length<f+i→m17=(n.2.2.2.2.take i).map Wz→
  Zb4 N n f m4 m5 m9 m13 m17 (i:Int)=some (m4,(n.2.1.length,m5),m9,m13,n.2.2.2.2.map Wz)
 | 0,i,m17,h1,h2,_=>by omega
 | f+1,i,m17,h1,h2,h3=>by
  have htn:=hs.tn
  have hl:m17.length=i:=by rw [h3,List.length_map,List.length_take];omega
  rw [Zb4.eq_2]
  by_cases hi:i<n.2.2.2.2.length
  ·have ht:=hs.tl _ (List.getElem_mem hi)
   rw [if_pos (decide_eq_true (by omega)),show (0:Int)=((0:Nat):Int) from rfl,Zrb hs hi (by omega) (by omega) _ N 0 [] (by omega) (by omega) (by simp)]
   exact Zra f (i+1) _ (by omega) (by omega) (by rw [h3,List.take_add_one,List.getElem?_eq_getElem hi,Option.toList_some,List.map_append];rfl)
  ·rw [if_neg (by rw [decide_eq_false (by omega)];decide),h3,List.take_of_length_le (by omega),Int.toNat_natCast]
theorem Zq9 {m4:ByteArray} {m5:List ByteArray} {m9:List R6}:∀ (f i:Nat) (m13:List R5),i≤n.2.2.2.1.length→n.2.2.2.1.length<f+i→m13=(n.2.2.2.1.take i).map (Yk [-95,-96])→
  Zd3 N n f m4 m5 m9 m13 [] (i:Int)=some (m4,(n.2.1.length,m5),m9,n.2.2.2.1.map (Yk [-95,-96]),n.2.2.2.2.map Wz)
 | 0,i,m13,h1,h2,_=>by omega
 | f+1,i,m13,h1,h2,h3=>by
  have hpn:=hs.pn;have htn:=hs.tn
  have hl:m13.length=i:=by rw [h3,List.length_map,List.length_take];omega
  rw [Zd3.eq_2]
  by_cases hi:i<n.2.2.2.1.length
  ·have ht:=hs.pl _ (List.getElem_mem hi)
   rw [if_pos (decide_eq_true (by omega)),Zv hi,Option.bind_some,Z5 (by simp only [List.length_nil,maxLen];omega),Z5 (by simp only [List.length_append,List.length_nil,List.length_cons,maxLen];omega),Z5 (by simp only [List.length_append,List.length_nil,List.length_cons];omega),Z5 (by simp only [List.length_singleton,maxLen];omega),Zq (by omega)]
   exact Zq9 f (i+1) _ (by omega) (by omega) (by rw [h3,List.take_add_one,List.getElem?_eq_getElem hi,Option.toList_some,List.map_append];rfl)
  ·rw [if_neg (by rw [decide_eq_false (by omega)];decide),show (0:Int)=((0:Nat):Int) from rfl,Zra hs hN N 0 [] (by omega) (by omega) (by simp),h3,List.take_of_length_le (by omega)]
theorem Zq8 {m4:ByteArray} {m5:List ByteArray}:∀ (f i:Nat) (m9:List R6),i≤n.2.2.1.length→n.2.2.1.length<f+i→m9=(n.2.2.1.take i).map (Yk [⟨#[35,51]⟩,⟨#[35,52]⟩])→
  Zd2 N n f m4 m5 m9 [] [] (i:Int)=some (m4,(n.2.1.length,m5),n.2.2.1.map (Yk [⟨#[35,51]⟩,⟨#[35,52]⟩]),n.2.2.2.1.map (Yk [-95,-96]),n.2.2.2.2.map Wz)
 | 0,i,m9,h1,h2,_=>by omega
 | f+1,i,m9,h1,h2,h3=>by
  have hpn:=hs.vn;have htn:=hs.pn
  have hl:m9.length=i:=by rw [h3,List.length_map,List.length_take];omega
  rw [Zd2.eq_2]
  by_cases hi:i<n.2.2.1.length
  ·have ht:=hs.vl _ (List.getElem_mem hi)
   rw [if_pos (decide_eq_true (by omega)),Zv hi,Option.bind_some,Z5 (by simp only [List.length_nil,maxLen];omega),Z5 (by simp only [List.length_append,List.length_nil,List.length_cons,maxLen];omega),Z5 (by simp only [List.length_append,List.length_nil,List.length_cons];omega),Z5 (by simp only [List.length_singleton,maxLen];omega),Zq (by omega)]
   exact Zq8 f (i+1) _ (by omega) (by omega) (by rw [h3,List.take_add_one,List.getElem?_eq_getElem hi,Option.toList_some,List.map_append];rfl)
  ·rw [if_neg (by rw [decide_eq_false (by omega)];decide),show (0:Int)=((0:Nat):Int) from rfl,Zq9 hs hN N 0 [] (by omega) (by omega) (by simp),h3,List.take_of_length_le (by omega)]
theorem Zzv:Zgu N n=some (Yr n):=by
 have hnm:=hs.nm;have hvn:=hs.vn
 rw [Zgu,Z5 (by simp only [List.length_nil,maxLen];omega),Z5 (by simp only [List.length_append,List.length_nil,List.length_cons,maxLen];omega),Z5 (by simp only [List.length_append,List.length_nil,List.length_cons];omega),show (0:Int)=((0:Nat):Int) from rfl,Zq8 hs hN N 0 [] (by omega) (by omega) (by simp)]
 rfl
end
theorem Zln {α:Type} (ms l:List α):(Yk ms l).2.take (Yk ms l).1=l:=Zg8 ms l
theorem Zmt {α:Type} (ms l:List α):(Yk ms l).2.length=l.length+ms.length:=by rw [Yk];exact List.length_append
theorem Zem {α:Type} {ms l:List α} {j k:Nat} (hj:j<ms.length) (hk:l.length+j<k):Zk ((l++ms).take k) ((l.length+j:Nat):Int)=some ms[j]:=by
 rw [Vh,List.getElem?_take,if_pos hk,List.getElem?_append_right (by omega),show l.length+j - l.length=j by omega,List.getElem?_eq_getElem hj]
theorem Zvf {N:Nat} {l:List ByteArray} {one two:ByteArray} (hl:l.length≤1048576):∀ (f i:Nat),i≤l.length→l.length<f+i→Zd8 N l.length (l++[one,two]) l one two f (i:Int)=some true
 | 0,i,h1,h2=>by omega
 | f+1,i,h1,h2=>by
  have e:(l++[one,two]).take l.length=l:=List.take_left
  rw [Zd8.eq_2,e]
  by_cases hi:i<l.length
  ·rw [if_pos (decide_eq_true (by omega)),Zv hi,Option.bind_some,Option.bind_some,if_neg (by rw [decide_eq_true rfl];decide),Zq (by omega)]
   exact Zvf hl f (i+1) (by omega) (by omega)
  ·have a0:=Zem (ms:=[one,two]) (l:=l) (j:=0) (k:=l.length+2) (by simp) (by omega)
   have a1:=Zem (ms:=[one,two]) (l:=l) (j:=1) (k:=l.length+2) (by simp) (by omega)
   rw [if_neg (by rw [decide_eq_false (by omega)];decide),Zq (x:=(l.length:Int)+2) (by omega),Z5 (by simp only [List.length_append,List.length_cons,List.length_nil];omega),show Int.toNat ((l.length:Int)+2)=l.length+2 by omega]
   simp only [Nat.add_zero] at a0
   rw [a0,Option.bind_some,show [one,two][0]=one from rfl,if_pos (decide_eq_true rfl),Zq (by omega),show (l.length:Int)+1=((l.length+1:Nat):Int) by omega,a1,Option.bind_some,Ziv]
   simp
theorem Zvg {N:Nat} {l:List ByteArray} {one two:ByteArray} (hl:l.length≤1048576) (hN:1048577<N):Zd7 N (Yk [one,two] l).1 (Yk [one,two] l).2 l one two=some true:=by
 have e:(l++[one,two]).take l.length=l:=List.take_left
 rw [Zd7,Yk,e,if_neg (by rw [decide_eq_true rfl];decide)]
 exact Zvf hl N 0 (by omega) (by omega)
theorem Zuy {N:Nat} {x:QV} (h1:x.1.2.length≤1048576):∀ (f i:Nat),i≤x.1.2.length→x.1.2.length<f+i→Za0 N x x f (i:Int)=some true
 | 0,i,g1,g2=>by omega
 | f+1,i,g1,g2=>by
  rw [Za0.eq_2]
  by_cases hi:i<x.1.2.length
  ·rw [if_pos (decide_eq_true (by omega)),Zv hi,Option.bind_some,Option.bind_some,if_neg (by rw [decide_eq_true rfl];decide),Zq (by omega)]
   exact Zuy h1 f (i+1) (by omega) (by omega)
  ·rw [if_neg (by rw [decide_eq_false (by omega)];decide)]
theorem Zux {N:Nat} {x:QV} (h1:x.1.2.length≤1048576) (h2:x.2.length≤1048576) (hN:1048577<N):∀ (f i:Nat),i≤x.2.length→x.2.length<f+i→Zaz N x x f (i:Int)=some true
 | 0,i,g1,g2=>by omega
 | f+1,i,g1,g2=>by
  rw [Zaz.eq_2]
  by_cases hi:i<x.2.length
  ·rw [if_pos (decide_eq_true (by omega)),Zv hi,Option.bind_some,Option.bind_some,if_neg (by rw [decide_eq_true rfl];decide),Zq (by omega)]
   exact Zux h1 h2 hN f (i+1) (by omega) (by omega)
  ·rw [if_neg (by rw [decide_eq_false (by omega)];decide)]
   exact Zuy h1 N 0 (by omega) (by omega)
theorem Z19 {N:Nat} {x:QV} (h1:x.1.2.length≤1048576) (h2:x.2.length≤1048576) (hN:1048577<N):Ug N x x=some true:=by
 rw [Ug,if_neg (by rw [decide_eq_true rfl];decide),if_neg (by rw [decide_eq_true rfl];decide),Zd6,if_neg (by rw [decide_eq_true rfl];decide)]
 exact Zux h1 h2 hN N 0 (by omega) (by omega)
section
variable {N:Nat} {n:Zhf} (hs:Zjl n) (hN:1048577<N)
include hs hN
theorem Zqv {i:Nat} (hi:i<n.2.2.2.2.length) (kk:Int→Option Bool):∀ (f j:Nat),j≤n.2.2.2.2[i].length→n.2.2.2.2[i].length<f+j→
  Sf N (Yr n) n (i:Int) kk n.2.2.2.2[i] f (j:Int)=kk ((i:Int)+1)
 | 0,j,h1,h2=>by omega
 | f+1,j,h1,h2=>by
  have ht:=hs.tl _ (List.getElem_mem hi)
  have htn:=hs.tn
  have hm:Zk (Yr n).2.2.2.2 (i:Int)=some (Wz n.2.2.2.2[i]):=by
   rw [Vh]
   show (n.2.2.2.2.map Wz)[i]?=_
   rw [List.getElem?_map,List.getElem?_eq_getElem hi];rfl
  rw [Sf.eq_2,hm,Option.bind_some,Option.bind_some]
  generalize hT:n.2.2.2.2[i]=t at *
  by_cases hj:j<t.length
  ·have hmem:t ∈ n.2.2.2.2:=by rw [← hT];exact List.getElem_mem hi
   obtain ⟨x1,x2⟩:=hs.tm _ hmem _ (List.getElem_mem hj)
   have e1:Zk ((Wz t).2.take (Wz t).1) (j:Int)=some (Vc t[j]):=by
    rw [Vh,Wz,List.getElem?_take,if_pos hj,List.getElem?_append_left (by rw [List.length_map];exact hj),List.getElem?_map,List.getElem?_eq_getElem hj];rfl
   rw [if_pos (decide_eq_true (by omega)),e1,Option.bind_some]
   obtain ⟨x,hx⟩:∃ x,x=t[j]:=⟨_,rfl⟩
   rw [← hx] at x1 x2 ⊢
   have v1:(Vc x).1.2.2.take (Vc x).1.2.1=x.1.2:=Zg8 _ _
   have v2:(Vc x).2.2.take (Vc x).2.1=x.2:=Zg8 _ _
   have l1:(Vc x).1.2.2.length=x.1.2.length+2:=Zmt _ _
   have l2:(Vc x).2.2.length=x.2.length+2:=Zmt _ _
   have hat:Zk n.2.2.2.2 (i:Int)=some t:=by rw [Zv hi,hT]
   have sm:Ug N (((Vc x).1.1,x.1.2),x.2) ((x.1.1,x.1.2),x.2)=some true:=Z19 (x:=x) x1 x2 hN
   have t1:(Vc x).1.2.2.take (x.1.2.length+2)=x.1.2++[901,902]:=List.take_of_length_le (by rw [l1];omega)
   have t2:(Vc x).2.2.take (x.2.length+2)=x.2++[903,904]:=List.take_of_length_le (by rw [l2];omega)
   have q:∀ (l:List Int) (a b:Int),Zk (l++[a,b]) ((l.length:Int)+2 - 1)=some b∧Zk (l++[a,b]) ((l.length:Int)+2 - 2)=some a:=fun l a b=>by
    constructor
    ·rw [show (l.length:Int)+2 - 1=((l.length+1:Nat):Int) by omega,Vh,List.getElem?_append_right (by omega),show l.length+1 - l.length=1 by omega];rfl
    ·rw [show (l.length:Int)+2 - 2=((l.length:Nat):Int) by omega,Vh,List.getElem?_append_right (by omega),show l.length - l.length=0 by omega];rfl
   have ql:∀ (l:List Int) (a b:Int),((l++[a,b]).length:Int)=(l.length:Int)+2:=fun l a b=>by simp
   rw [v1,v2,l1,l2,Zq (x:=(x.1.2.length:Int)+2) (by omega),Zq (x:=(x.2.length:Int)+2) (by omega),Z5 (by omega),Z5 (by omega),hat,Option.bind_some,Zv hj,Option.bind_some,← hx,sm,Option.bind_some,if_neg (by decide),
    show Int.toNat ((x.1.2.length:Int)+2)=x.1.2.length+2 by omega,show Int.toNat ((x.2.length:Int)+2)=x.2.length+2 by omega,t1,t2,ql,ql,Zq (x:=(x.1.2.length:Int)+2 - 1) (by omega),Zq (x:=(x.1.2.length:Int)+2 - 2) (by omega),Zq (x:=(x.2.length:Int)+2 - 1) (by omega),Zq (x:=(x.2.length:Int)+2 - 2) (by omega),
    (q x.1.2 901 902).1,Option.bind_some,if_neg (by decide),(q x.1.2 901 902).2,Option.bind_some,if_neg (by decide),(q x.2 903 904).1,Option.bind_some,if_neg (by decide),(q x.2 903 904).2,Option.bind_some,Zb3,if_neg (by decide),Zq (by omega)]
   have ih:=Zqv hi kk f (j+1) (by rw [hT];omega) (by rw [hT];omega)
   rw [hT] at ih
   exact ih
  ·have b0:Zk ((Wz t).2.take (t.length+2)) (t.length:Int)=some (Qy 97):=by
    have:=Zem (ms:=[Qy 97,Qy 98]) (l:=t.map Vc) (j:=0) (k:=t.length+2) (by simp) (by rw [List.length_map];omega)
    rw [List.length_map,Nat.add_zero] at this
    exact this
   have b1:Zk ((Wz t).2.take (t.length+2)) ((t.length:Int)+1)=some (Qy 98):=by
    have:=Zem (ms:=[Qy 97,Qy 98]) (l:=t.map Vc) (j:=1) (k:=t.length+2) (by simp) (by rw [List.length_map];omega)
    rw [List.length_map] at this
    exact this
   have bl:(Wz t).2.length=t.length+2:=by rw [Wz];simp
   have c0:∀ k:Int,(Qy k).2.2.take (Qy k).2.1=[k]:=fun k=>rfl
   rw [if_neg (by rw [decide_eq_false (by omega)];decide),Zq (x:=(t.length:Int)+2) (by omega),Z5 (by omega),show Int.toNat ((t.length:Int)+2)=t.length+2 by omega,b0,Option.bind_some,c0,if_neg (by decide),show Zk [(97:Int)] 0=some 97 from rfl,Option.bind_some,if_neg (by decide),Zq (x:=(t.length:Int)+1) (by omega),b1,Option.bind_some,c0,if_neg (by decide),show Zk [(98:Int)] 0=some 98 from rfl,Option.bind_some,Zdz,if_neg (by decide),Zq (by omega)]
theorem Zqu:∀ (f i:Nat),i≤n.2.2.2.2.length→n.2.2.2.2.length<f+i→S0 N (Yr n) n f (i:Int)=some true
 | 0,i,h1,h2=>by omega
 | f+1,i,h1,h2=>by
  have htn:=hs.tn
  rw [S0.eq_2]
  by_cases hi:i<n.2.2.2.2.length
  ·have ht:=hs.tl _ (List.getElem_mem hi)
   have hm:Zk (Yr n).2.2.2.2 (i:Int)=some (Wz n.2.2.2.2[i]):=by
    rw [Vh]
    show (n.2.2.2.2.map Wz)[i]?=_
    rw [List.getElem?_map,List.getElem?_eq_getElem hi];rfl
   have hl:((Wz n.2.2.2.2[i]).2.take (Wz n.2.2.2.2[i]).1).length=n.2.2.2.2[i].length:=by rw [Wz,List.length_take];simp
   have h5:=Zqv hs hN hi (S0 N (Yr n) n f) N 0 (by omega) (by omega)
   rw [show ((0:Nat):Int)=0 from rfl] at h5
   rw [if_pos (decide_eq_true (by omega)),Zv hi,Option.bind_some,hm,Option.bind_some,hl,if_neg (by rw [decide_eq_true rfl];decide),h5]
   exact Zqu f (i+1) (by omega) (by omega)
  ·rw [if_neg (by rw [decide_eq_false (by omega)];decide)]
omit hN in
theorem Zqt {i:Nat} (hi:i<n.2.2.2.1.length) (kk:Int→Option Bool):∀ (f j:Nat),j≤n.2.2.2.1[i].length→n.2.2.2.1[i].length<f+j→Zd1 N (Yr n) n (i:Int) kk n.2.2.2.1[i] f (j:Int)=kk ((i:Int)+1)
 | 0,j,h1,h2=>by omega
 | f+1,j,h1,h2=>by
  have ht:=hs.pl _ (List.getElem_mem hi)
  have hpn:=hs.pn
  have hm:Zk (Yr n).2.2.2.1 (i:Int)=some (Yk [-95,-96] n.2.2.2.1[i]):=by
   rw [Vh]
   show (n.2.2.2.1.map (Yk [-95,-96]))[i]?=_
   rw [List.getElem?_map,List.getElem?_eq_getElem hi];rfl
  rw [Zd1.eq_2,hm,Option.bind_some,Option.bind_some,Zln]
  by_cases hj:j<n.2.2.2.1[i].length
  ·rw [if_pos (decide_eq_true (by omega)),Zv hj,Option.bind_some,Zv hi,Option.bind_some,Zv hj,Option.bind_some,if_neg (by rw [decide_eq_true rfl];decide),Zq (by omega)]
   exact Zqt hi kk f (j+1) (by omega) (by omega)
  ·have a0:=Zem (ms:=[-95,-96]) (l:=n.2.2.2.1[i]) (j:=0) (k:=n.2.2.2.1[i].length+2) (by simp) (by omega)
   have a1:=Zem (ms:=[-95,-96]) (l:=n.2.2.2.1[i]) (j:=1) (k:=n.2.2.2.1[i].length+2) (by simp) (by omega)
   simp only [Nat.add_zero] at a0
   have hl:(Yk [-95,-96] n.2.2.2.1[i]).2=n.2.2.2.1[i]++[-95,-96]:=rfl
   rw [if_neg (by rw [decide_eq_false (by omega)];decide),Zq (x:=(n.2.2.2.1[i].length:Int)+2) (by omega),Z5 (by rw [Zmt];simp only [List.length_cons,List.length_nil];omega),show Int.toNat ((n.2.2.2.1[i].length:Int)+2)=n.2.2.2.1[i].length+2 by omega,hl,a0,Option.bind_some,if_neg (by decide),Zq (by omega),show (n.2.2.2.1[i].length:Int)+1=((n.2.2.2.1[i].length+1:Nat):Int) by omega,a1,Option.bind_some,Zit,if_neg (by decide),Zq (by omega)]
theorem Zqs:∀ (f i:Nat),i≤n.2.2.2.1.length→n.2.2.2.1.length<f+i→Qx N (Yr n) n f (i:Int)=some true
 | 0,i,h1,h2=>by omega
 | f+1,i,h1,h2=>by
  have htn:=hs.pn;have htn2:=hs.tn
  rw [Qx.eq_2]
  by_cases hi:i<n.2.2.2.1.length
  ·have ht:=hs.pl _ (List.getElem_mem hi)
   have hm:Zk (Yr n).2.2.2.1 (i:Int)=some (Yk [-95,-96] n.2.2.2.1[i]):=by
    rw [Vh]
    show (n.2.2.2.1.map (Yk [-95,-96]))[i]?=_
    rw [List.getElem?_map,List.getElem?_eq_getElem hi];rfl
   have h5:=Zqt (N:=N) hs hi (Qx N (Yr n) n f) N 0 (by omega) (by omega)
   rw [show ((0:Nat):Int)=0 from rfl] at h5
   rw [if_pos (decide_eq_true (by omega)),Zv hi,Option.bind_some,hm,Option.bind_some,Zln,if_neg (by rw [decide_eq_true rfl];decide),h5]
   exact Zqs f (i+1) (by omega) (by omega)
  ·rw [if_neg (by rw [decide_eq_false (by omega)];decide)]
   exact Zqu hs hN N 0 (by omega) (by omega)
theorem Zqr:∀ (f i:Nat),i≤n.2.2.1.length→n.2.2.1.length<f+i→Zd0 N (Yr n) n f (i:Int)=some true
 | 0,i,h1,h2=>by omega
 | f+1,i,h1,h2=>by
  have htn:=hs.vn;have htn2:=hs.pn
  rw [Zd0.eq_2]
  by_cases hi:i<n.2.2.1.length
  ·have ht:=hs.vl _ (List.getElem_mem hi)
   have hm:Zk (Yr n).2.2.1 (i:Int)=some (Yk [⟨#[35,51]⟩,⟨#[35,52]⟩] n.2.2.1[i]):=by
    rw [Vh]
    show (n.2.2.1.map (Yk [⟨#[35,51]⟩,⟨#[35,52]⟩]))[i]?=_
    rw [List.getElem?_map,List.getElem?_eq_getElem hi];rfl
   rw [if_pos (decide_eq_true (by omega)),hm,Option.bind_some,Zv hi,Option.bind_some,Zvg ht hN,Option.bind_some,if_neg (by decide),Zq (by omega)]
   exact Zqr f (i+1) (by omega) (by omega)
  ·rw [if_neg (by rw [decide_eq_false (by omega)];decide)]
   exact Zqs hs hN N 0 (by omega) (by omega)
theorem Zzl:Zdy N (Yr n) n=some true:=by
 have h1:=hs.nm;have h2:=hs.vn
 have l1:(Yr n).2.2.1.length=n.2.2.1.length:=by show (n.2.2.1.map _).length=_;rw [List.length_map]
 have l2:(Yr n).2.2.2.1.length=n.2.2.2.1.length:=by show (n.2.2.2.1.map _).length=_;rw [List.length_map]
 have l3:(Yr n).2.2.2.2.length=n.2.2.2.2.length:=by show (n.2.2.2.2.map _).length=_;rw [List.length_map]
 have t1:Zd7 N (Yr n).2.1.1 (Yr n).2.1.2 n.2.1 (⟨#[35,49]⟩) (⟨#[35,50]⟩)=some true:=Zvg h1 hN
 rw [Zdy,l1,l2,l3,if_neg (by rw [show (Yr n).1=n.1 from rfl,decide_eq_true rfl];decide),if_neg (by rw [decide_eq_true rfl];decide),if_neg (by rw [decide_eq_true rfl];decide),if_neg (by rw [decide_eq_true rfl];decide),t1,Option.bind_some,Zb2,if_neg (by decide)]
 exact Zqr hs hN N 0 (by omega) (by omega)
end
theorem Zpt:Wr Tryz.prog 79 1 4:=⟨Tryz.t79,_,rfl,rfl,rfl,rfl,rfl⟩
def Zdt (N:Nat) (ad:Int) (ab:Int) (kk_L1:(R8→Int→Int→Option Rf)):Nat→R8→Int→Option Rf
  | 0,_,_=>none
  | af+1,ae,ac=>(Zk ae ab).bind fun aa=>if (decide (ac<(aa.2.length:Int)))=true then ((Zk aa.2 ac).bind fun ah=>(some (aa.2.set (Int.toNat ac) (u32.wrap (ad+1)))).bind fun ag=>(Zdt N ad ab kk_L1 af) (ae.set (Int.toNat ab) ((aa.1.1,aa.1.2),ag)) (i64.wrap (ac+1))) else (kk_L1 ae (u32.wrap (ad+2)) (i64.wrap (ab+1)))
termination_by structural x=>x
def Zds (N:Nat) (ad:Int) (ab:Int) (kk_L1:(R8→Int→Int→Option Rf)):Nat→R8→Int→Option Rf
  | 0,_,_=>none
  | af+1,ae,ac=>(Zk ae ab).bind fun aa=>if (decide (ac<(aa.1.2.length:Int)))=true then ((Zk aa.1.2 ac).bind fun ah=>(some (aa.1.2.set (Int.toNat ac) ad)).bind fun ag=>(Zds N ad ab kk_L1 af) (ae.set (Int.toNat ab) ((aa.1.1,ag),aa.2)) (i64.wrap (ac+1))) else (Zdt N ad ab kk_L1 N ae 0)
termination_by structural x=>x
def Zdv (N:Nat) (ab:Int) (kk_L4:(Int→Option Rf)):Nat→R2→Int→Option Rf
  | 0,_,_=>none
  | ad+1,aa,ac=>if (decide (ac<12))=true then (Zx ((aa.length+[8].length) * 4≤140737488355328∧aa.length+[8].length≤maxLen) ((Zdv N ab kk_L4 ad) (aa++[8]) (i64.wrap (ac+1)))) else (kk_L4 (i64.wrap (ab+1)))
termination_by structural x=>x
def Zdu (N:Nat) (ab:Int) (kk_L4:(Int→Option Rf)) (ac:R0):Nat→R2→Int→Option Rf
  | 0,_,_=>none
  | ae+1,aa,ad=>if (decide (ad<12))=true then (Zx ((aa.length+[7].length) * 4≤140737488355328∧aa.length+[7].length≤maxLen) ((Zdu N ab kk_L4 ac ae) (aa++[7]) (i64.wrap (ad+1)))) else (Zdv N ab kk_L4 N ac.2 0)
termination_by structural x=>x
def Zdx (N:Nat) (aa:List R0) (ab:Int) (ac:Int) (kk_L7:(Int→Int→Option Rf)):Nat→Int→Option Rf
  | 0,_=>none
  | af+1,ad=>(Zk aa ab).bind fun ae=>if (decide (ad<(ae.2.length:Int)))=true then ((Zk ae.2 ad).bind fun ag=>if (!decide (ag=(u32.wrap (ac+1))))=true then (some (false,aa)) else ((Zdx N aa ab ac kk_L7 af) (i64.wrap (ad+1)))) else (kk_L7 (i64.wrap (ab+1)) (u32.wrap (ac+2)))
termination_by structural x=>x
def Zdw (N:Nat) (aa:List R0) (ab:Int) (ac:Int) (kk_L7:(Int→Int→Option Rf)):Nat→Int→Option Rf
  | 0,_=>none
  | af+1,ad=>(Zk aa ab).bind fun ae=>if (decide (ad<(ae.1.2.length:Int)))=true then ((Zk ae.1.2 ad).bind fun ag=>if (!decide (ag=ac))=true then (some (false,aa)) else ((Zdw N aa ab ac kk_L7 af) (i64.wrap (ad+1)))) else (Zdx N aa ab ac kk_L7 N 0)
termination_by structural x=>x
def Sz (N:Nat) (aa:List R0):Nat→Int→Int→Option Rf
  | 0,_,_=>none
  | ac+1,ab,ad=>if (decide (ab<(aa.length:Int)))=true then (Zdw N aa ab ad (Sz N aa ac) N 0) else (some (true,aa))
termination_by structural x=>x
def Sy (N:Nat) (aa:List R0):Nat→Int→Option Rf
  | 0,_=>none
  | ad+1,ab=>if (decide (ab<(aa.length:Int)))=true then ((Zk aa ab).bind fun ac=>Zdu N ab (Sy N aa ad) ac N ac.1.2 0) else (Sz N aa N 0 1000)
termination_by structural x=>x
def Qw (N:Nat):Nat→R8→Int→Int→Option Rf
  | 0,_,_,_=>none
  | ac+1,aa,ad,ab=>if (decide (ab<(aa.length:Int)))=true then (Zds N ad ab (Qw N ac) N aa 0) else (Sy N aa N 0)
termination_by structural x=>x
def Zgt (N:Nat) (aa:R8):Option Rf:=
  Qw N N aa 1000 0
theorem Zxr {N ac:Nat} {a0:Option Addr} {col:Zd} {w0:World} {aj:R8} {r:Rf} (qc0:Nat) (hm:Zgt N aj=some r) (hd:Sq [qc0]=true) (h0:Zc (Za.pair (Za.pair Za.bool (Za.row 79 (Za.int .u32))) (Za.row 79 (Za.int .u32))) 47 qc0 col w0 a0 ac aj):
    Calls Tryz.prog 27 #[.slice a0 aj.length ac] w0 (fun e w'=>∃ (col':Zd),e= .returned ((.bool r.1))∧Z2 (pS [qc0]) col w0 col' w'∧Zc (Za.pair (Za.pair Za.bool (Za.row 79 (Za.int .u32))) (Za.row 79 (Za.int .u32))) 47 qc0 col' w' a0 ac r.2∧r.2.length=aj.length):=by
 refine Xb 2 (m:=144) func27 rfl rfl rfl rfl rfl ?_;rw [Zgt.eq_1] at hm;have aa:=St.startL (l:=[qc0]) rfl col w0;replace h0:=h0.startL (Q7 hd 0 rfl) (Q6 hd 0 rfl);refine go ?_;refine Zw [1000000] (fun n f b3=>∃ b4 ad aq af au,au=n∧Qw N au ad aq af=some r∧St w0 (Xm [qc0] col) b4 b3∧Zc (Za.pair (Za.pair Za.bool (Za.row 79 (Za.int .u32))) (Za.row 79 (Za.int .u32))) 47 440 b4 b3 a0 ac ad∧ad.length=aj.length∧ad.length=aj.length∧[0,3,4].map f=[.slice a0 ad.length ac,.int .u32 aq,.int .i64 af]) N ⟨_,_,1000,0,_,rfl,hm,aa,h0,rfl,rfl,rfl⟩ ?_;clear hm;intro n f b3 hI;obtain ⟨b4,ad,aq,af,au,hn,hm,aa,ab,dp,bo,hs⟩:=hI;subst hn;refine .lL [0,3,4] hs ?_
 cases au with
 | zero=>rw [Qw.eq_1] at hm;cases hm
 | succ au=>
  rw [Qw.eq_2] at hm;refine go ?_;refine Zp hm (fun hb hm=>go ?_) fun hb hm=>go ?_
  ·refine Zw [3,4,1000000] (fun n f bp=>∃ b5 ak bq a3,a3=n∧Zds N aq af (Qw N au) a3 ak bq=some r∧St w0 (Xm [qc0] col) b5 bp∧Zc (Za.pair (Za.pair Za.bool (Za.row 79 (Za.int .u32))) (Za.row 79 (Za.int .u32))) 47 440 b5 bp a0 ac ak∧ak.length=aj.length∧ak.length=aj.length∧[0,5].map f=[.slice a0 ak.length ac,.int .i64 bq]) N ⟨_,_,0,_,rfl,hm,aa,ab,dp,bo,rfl⟩ ?_;clear hm;intro n f bp hI;obtain ⟨b5,ak,bq,a3,hn,hm,aa,ar,cx,dq,hs⟩:=hI;subst hn;refine .lL [0,5] hs ?_
   cases a3 with
   | zero=>rw [Zds.eq_1] at hm;cases hm
   | succ a3=>
    rw [Zds.eq_2] at hm;refine go ?_;obtain ⟨ah,ao,hm⟩:=bZ hm;refine lI ao (ar.addr ao)<|Z3 (X9 (ar.addr ao)) ?_;refine Z3 (X9 (X9 (ar.addr ao))) ?_;obtain ⟨_,dr,ds⟩:=ar.atN ao;obtain ⟨_,_,rfl,dt,du⟩:=dr.parts;obtain ⟨_,_,rfl,dv,dw⟩:=dt.parts;obtain rfl:=dv.bool;obtain ⟨f0,f1,rfl,f2⟩:=dw.row;obtain ⟨f3,f4,rfl,f5⟩:=du.row;refine lW ((((ds).part 0 2 _ rfl)).nth (q:=1) rfl)<|go ?_;refine Zp hm (fun hb hm=>go ?_) fun hb hm=>go ?_
    ·refine lI ao (ar.addr ao)<|Z3 (X9 (ar.addr ao)) ?_;refine Z3 (X9 (X9 (ar.addr ao))) ?_;obtain ⟨_,f6,dx,al,dy⟩:=ar.open_ 1 (by decide) ao;obtain ⟨_,_,cy,rfl,cz,dz,d0⟩:=dy.split 2 (by decide);obtain ⟨_,_,rfl,d1,d2⟩:=dz.parts;obtain rfl:=d1.bool;obtain ⟨c0,c1,rfl,c3⟩:=d2.row;obtain ⟨c4,c5,rfl,b6⟩:=d0.row;replace al:=al.kpp cz;replace al:Yc (Za.pair (Za.pair Za.bool (Za.row 79 (Za.int .u32))) (Za.row 79 (Za.int .u32))) 47 440 cy bp a0 ac ak (Int.toNat af) [.bool ah.1.1,.slice c0 ah.1.2.length c1,.slice c4 ah.2.length c5]:=al;refine lW ((((al.atN).part 0 2 _ rfl)).nth (q:=1) rfl)<|go ?_;obtain ⟨f7,b7,hm⟩:=bZ hm;refine lI b7 (c3.addr b7) ?_;obtain ⟨a4,br,hm⟩:=bZ hm;have br:a4=ah.1.2.set (Int.toNat bq) aq:=(Option.some.inj br).symm;refine Yv (x1:=aq) c3 b7 ?_;intro d3 b8 d4 c6;rw [← br] at c6;replace al:=al.kp b8;replace al:Yc (Za.pair (Za.pair Za.bool (Za.row 79 (Za.int .u32))) (Za.row 79 (Za.int .u32))) 47 440 cy d3 a0 ac ak (Int.toNat af) [.bool ah.1.1,.slice c0 a4.length c1,.slice c4 ah.2.length c5]:=by rw [← (show ah.1.2.length=a4.length by rw [br,List.length_set])];exact al
     replace b6:=b6.kp b8;have d5:=X3.join (X3.joinL (Tq ah.1.1) c6.has) b6.has (by decide) (by decide);replace al:=al.recol 2 1 (by decide);replace aa:=((aa.kpp dx).kpp cz).kp b8 d4;replace aa:=aa.recol 2 1 (by decide) (by decide);have d6:=al.close d5 (by decide) (by decide);have c7:(ak.set (Int.toNat af) ((ah.1.1,a4),ah.2)).length=aj.length:=by rw [List.length_set];exact cx
     replace aa:=aa.recol 1 440 (by decide) (by decide);refine .ld (d:=0) (v:=(.slice a0 ((ak.set (Int.toNat af) ((ah.1.1,a4),ah.2)).length) ac)) (congrArg (fun n=>Value.slice a0 n ac) (show ak.length=(ak.set (Int.toNat af) ((ah.1.1,a4),ah.2)).length by simp only [List.length_set])) ?_;refine go ?_;exact ⟨a3,by omega,rfl,⟨_,_,_,_,rfl,hm,aa,d6,c7,c7,rfl⟩⟩
    refine Zw [3,4,1000000] (fun n f bs=>∃ b9 am bt a5,a5=n∧Zdt N aq af (Qw N au) a5 am bt=some r∧St w0 (Xm [qc0] col) b9 bs∧Zc (Za.pair (Za.pair Za.bool (Za.row 79 (Za.int .u32))) (Za.row 79 (Za.int .u32))) 47 440 b9 bs a0 ac am∧am.length=aj.length∧am.length=aj.length∧[0,6].map f=[.slice a0 am.length ac,.int .i64 bt]) N ⟨_,_,0,_,rfl,hm,aa,ar,cx,dq,rfl⟩ ?_;clear hm;intro n f bs hI;obtain ⟨b9,am,bt,a5,hn,hm,aa,a1,c8,d7,hs⟩:=hI;subst hn;refine .lL [0,6] hs ?_
    cases a5 with
    | zero=>rw [Zdt.eq_1] at hm;cases hm
    | succ a5=>
     rw [Zdt.eq_2] at hm;refine go ?_;obtain ⟨ai,av,hm⟩:=bZ hm;refine lI av (a1.addr av)<|Z3 (X9 (a1.addr av)) ?_;obtain ⟨_,d8,d9⟩:=a1.atN av;obtain ⟨_,_,rfl,ea,eb⟩:=d8.parts;obtain ⟨_,_,rfl,ec,ed⟩:=ea.parts;obtain rfl:=ec.bool;obtain ⟨f8,f9,rfl,ga⟩:=ed.row;obtain ⟨gb,gc,rfl,gd⟩:=eb.row;refine lW ((d9).nth (q:=2) rfl)<|go ?_;refine Zp hm (fun hb hm=>go ?_) fun hb hm=>go ?_
     ·refine lI av (a1.addr av)<|Z3 (X9 (a1.addr av)) ?_;obtain ⟨_,ge,ee,an,ef⟩:=a1.open_ 3 (by decide) av;obtain ⟨_,_,c9,rfl,da,eg,eh⟩:=ef.split 4 (by decide);obtain ⟨_,_,rfl,ei,ej⟩:=eg.parts;obtain rfl:=ei.bool;obtain ⟨db,dc,rfl,ca⟩:=ej.row;obtain ⟨dd,de,rfl,df⟩:=eh.row;replace an:=an.kpp da;replace an:Yc (Za.pair (Za.pair Za.bool (Za.row 79 (Za.int .u32))) (Za.row 79 (Za.int .u32))) 47 440 c9 bs a0 ac am (Int.toNat af) [.bool ai.1.1,.slice db ai.1.2.length dc,.slice dd ai.2.length de]:=an;refine lW ((an.atN).nth (q:=2) rfl)<|go ?_;obtain ⟨gf,cb,hm⟩:=bZ hm;refine lI cb (df.addr cb) ?_;obtain ⟨a6,bu,hm⟩:=bZ hm;have bu:a6=ai.2.set (Int.toNat bt) (u32.wrap (aq+1)):=(Option.some.inj bu).symm;refine Yv (x1:=u32.wrap (aq+1)) df cb ?_;intro ek cc el dg;rw [← bu] at dg;replace an:=an.kp cc;replace an:Yc (Za.pair (Za.pair Za.bool (Za.row 79 (Za.int .u32))) (Za.row 79 (Za.int .u32))) 47 440 c9 ek a0 ac am (Int.toNat af) [.bool ai.1.1,.slice db ai.1.2.length dc,.slice dd a6.length de]:=by rw [← (show ai.2.length=a6.length by rw [bu,List.length_set])];exact an
      replace ca:=ca.kp cc;have em:=X3.join (X3.joinL (Tq ai.1.1) ca.has) dg.has (by decide) (by decide);replace an:=an.recol 4 3 (by decide);replace aa:=((aa.kpp ee).kpp da).kp cc el;replace aa:=aa.recol 4 3 (by decide) (by decide);have en:=an.close em (by decide) (by decide);have dh:(am.set (Int.toNat af) ((ai.1.1,ai.1.2),a6)).length=aj.length:=by rw [List.length_set];exact c8
      replace aa:=aa.recol 3 440 (by decide) (by decide);refine .ld (d:=0) (v:=(.slice a0 ((am.set (Int.toNat af) ((ai.1.1,ai.1.2),a6)).length) ac)) (congrArg (fun n=>Value.slice a0 n ac) (show am.length=(am.set (Int.toNat af) ((ai.1.1,ai.1.2),a6)).length by simp only [List.length_set])) ?_;refine go ?_;exact ⟨a5,by omega,rfl,⟨_,_,_,_,rfl,hm,aa,en,dh,dh,rfl⟩⟩
     exact ⟨au,by omega,rfl,⟨_,_,_,_,_,rfl,hm,aa,a1,c8,d7,rfl⟩⟩
  refine Zw [0,1000000] (fun n f bv=>∃ cd aw ax,ax=n∧Sy N ad ax aw=some r∧St w0 (Xm [qc0] col) cd bv∧Zc (Za.pair (Za.pair Za.bool (Za.row 79 (Za.int .u32))) (Za.row 79 (Za.int .u32))) 47 440 cd bv a0 ac ad∧[7].map f=[.int .i64 aw]) N ⟨_,0,_,rfl,hm,aa,ab,rfl⟩ ?_;clear hm;intro n f bv hI;obtain ⟨cd,aw,ax,hn,hm,aa,ab,hs⟩:=hI;subst hn;refine .lL [7] hs ?_
  cases ax with
  | zero=>rw [Sy.eq_1] at hm;cases hm
  | succ ax=>
   rw [Sy.eq_2] at hm;refine go ?_;refine Zp hm (fun hb hm=>go ?_) fun hb hm=>go ?_
   ·obtain ⟨ag,a2,hm⟩:=bZ hm;refine lI a2 (ab.addr a2)<|Z3 (X9 (ab.addr a2)) ?_;refine Z3 (X9 (X9 (ab.addr a2))) ?_;obtain ⟨_,gg,eo,ae,ep⟩:=ab.open_ 5 (by decide) a2;obtain ⟨_,_,eq,rfl,di,er,es⟩:=ep.split 6 (by decide);obtain ⟨_,_,rfl,et,eu⟩:=er.parts;obtain rfl:=et.bool;obtain ⟨bf,bg,rfl,ew⟩:=eu.row;obtain ⟨bh,bi,rfl,a7⟩:=es.row;replace ae:=ae.kpp di;replace ae:Yc (Za.pair (Za.pair Za.bool (Za.row 79 (Za.int .u32))) (Za.row 79 (Za.int .u32))) 47 440 eq bv a0 ac ad (Int.toNat aw) [.bool ag.1.1,.slice bf ag.1.2.length bg,.slice bh ag.2.length bi]:=ae;refine lW ((((ae.atN).part 0 2 _ rfl)).nth (q:=1) rfl)<|go ?_;refine lI a2 (ae.addr)<|Z3 (X9 (ae.addr)) ?_;refine lW ((ae.atN).nth (q:=2) rfl)<|go ?_;have ey:=ew.ex;replace aa:=(aa.kpp eo).kpp di;refine Zw [0,7,9,1000000] (fun n f bj=>∃ a8 ce cf bw cg a9,a9=n∧Zdu N aw (Sy N ad ax) ag a9 bw cg=some r∧St w0 (Xm [qc0] col) a8 bj∧Ex (Za.int .u32) 79 5 a8 bj bf bg ag.1.2 ce cf bw∧Zc (Za.int .u32) 79 6 a8 bj bh bi ag.2∧Yc (Za.pair (Za.pair Za.bool (Za.row 79 (Za.int .u32))) (Za.row 79 (Za.int .u32))) 47 440 a8 bj a0 ac ad (Int.toNat aw) [.bool ag.1.1,.slice bf ag.1.2.length bg,.slice bh ag.2.length bi]∧[10,8].map f=[.int .i64 cg,.slice ce bw.length cf]) N ⟨_,_,_,_,0,_,rfl,hm,aa,ey,a7,ae,rfl⟩ ?_;clear hm;intro n f bj hI;obtain ⟨a8,ce,cf,bw,cg,a9,hn,hm,aa,bx,a7,ae,hs⟩:=hI;subst hn;refine .lL [10,8] hs ?_
    cases a9 with
    | zero=>rw [Zdu.eq_1] at hm;cases hm
    | succ a9=>
     rw [Zdu.eq_2] at hm;refine go ?_;refine Zp hm (fun hb hm=>go ?_) fun hb hm=>go ?_
     ·refine Wu (col:=a8) [7] 7 ?_;intro gh ez e0 bz e1;obtain ⟨dj,hm⟩:=Zz hm;replace bx:=bx.gr bz;refine Zbd (col:=e0) (w:=ez) (r:=(Za.int .u32)) (c:=5) (c2:=5) bx (e1.srcN (NB.int (k:=.u32))) rfl underlying43 Zpt rfl rfl rfl dj.1 dj.2 (by decide) ?_;intro gi gj gk gl ch e2;refine go ?_;replace ae:=(ae.gr bz).kpp ch;replace a7:=(a7.gr bz).kpp ch;replace aa:=(aa.grow bz).kpp ch;exact ⟨a9,by omega,rfl,⟨_,_,_,_,_,_,rfl,hm,aa,e2,a7,ae,rfl⟩⟩
     have ba:=bx.old;refine go ?_;have e3:=a7.ex;refine Zw [0,7,1000000] (fun n f bk=>∃ bb ci cj b0 ck bc,bc=n∧Zdv N aw (Sy N ad ax) bc b0 ck=some r∧St w0 (Xm [qc0] col) bb bk∧Zc (Za.int .u32) 79 5 bb bk bf bg ag.1.2∧Ex (Za.int .u32) 79 6 bb bk bh bi ag.2 ci cj b0∧Yc (Za.pair (Za.pair Za.bool (Za.row 79 (Za.int .u32))) (Za.row 79 (Za.int .u32))) 47 440 bb bk a0 ac ad (Int.toNat aw) [.bool ag.1.1,.slice bf ag.1.2.length bg,.slice bh ag.2.length bi]∧[11,9].map f=[.int .i64 ck,.slice ci b0.length cj]) N ⟨_,_,_,_,0,_,rfl,hm,aa,ba,e3,ae,rfl⟩ ?_;clear hm;intro n f bk hI;obtain ⟨bb,ci,cj,b0,ck,bc,hn,hm,aa,ba,b1,ae,hs⟩:=hI;subst hn;refine .lL [11,9] hs ?_
     cases bc with
     | zero=>rw [Zdv.eq_1] at hm;cases hm
     | succ bc=>
      rw [Zdv.eq_2] at hm;refine go ?_;refine Zp hm (fun hb hm=>go ?_) fun hb hm=>go ?_
      ·refine Wu (col:=bb) [8] 8 ?_;intro gm e4 e5 b2 e6;obtain ⟨dk,hm⟩:=Zz hm;replace b1:=b1.gr b2;refine Zbd (col:=e5) (w:=e4) (r:=(Za.int .u32)) (c:=6) (c2:=6) b1 (e6.srcN (NB.int (k:=.u32))) rfl underlying43 Zpt rfl rfl rfl dk.1 dk.2 (by decide) ?_;intro gp gs gt gu cl e7;refine go ?_;replace ae:=(ae.gr b2).kpp cl;replace ba:=(ba.gr b2).kpp cl;replace aa:=(aa.grow b2).kpp cl;exact ⟨bc,by omega,rfl,⟨_,_,_,_,_,_,rfl,hm,aa,ba,e7,ae,rfl⟩⟩
      have e8:=b1.old;have e9:=X3.join (X3.joinL (Tq ag.1.1) ba.has) e8.has (by decide) (by decide);replace ae:=ae.recol 6 5 (by decide);replace aa:=aa.recol 6 5 (by decide) (by decide);have dl:=ae.close e9 (by decide) (by decide);rw [Z2c a2] at dl;replace aa:=aa.recol 5 440 (by decide) (by decide);refine go ?_;exact ⟨ax,by omega,rfl,⟨_,_,_,rfl,hm,aa,dl,rfl⟩⟩
   refine Zw [0,1000000] (fun n f cn=>∃ co bm bn ay,ay=n∧Sz N ad ay bm bn=some r∧St w0 (Xm [qc0] col) co cn∧Zc (Za.pair (Za.pair Za.bool (Za.row 79 (Za.int .u32))) (Za.row 79 (Za.int .u32))) 47 440 co cn a0 ac ad∧[12,3].map f=[.int .i64 bm,.int .u32 bn]) N ⟨_,0,1000,_,rfl,hm,aa,ab,rfl⟩ ?_;clear hm;intro n f cn hI;obtain ⟨co,bm,bn,ay,hn,hm,aa,ab,hs⟩:=hI;subst hn;refine .lL [12,3] hs ?_
   cases ay with
   | zero=>rw [Sz.eq_1] at hm;cases hm
   | succ ay=>
    rw [Sz.eq_2] at hm;refine go ?_;refine Zp hm (fun hb hm=>go ?_) fun hb hm=>go ?_
    ·refine Zw [0,12,3,1000000] (fun n f cp=>∃ cq cr bd,bd=n∧Zdw N ad bm bn (Sz N ad ay) bd cr=some r∧St w0 (Xm [qc0] col) cq cp∧Zc (Za.pair (Za.pair Za.bool (Za.row 79 (Za.int .u32))) (Za.row 79 (Za.int .u32))) 47 440 cq cp a0 ac ad∧[13].map f=[.int .i64 cr]) N ⟨_,0,_,rfl,hm,aa,ab,rfl⟩ ?_;clear hm;intro n f cp hI;obtain ⟨cq,cr,bd,hn,hm,aa,ab,hs⟩:=hI;subst hn;refine .lL [13] hs ?_
     cases bd with
     | zero=>rw [Zdw.eq_1] at hm;cases hm
     | succ bd=>
      rw [Zdw.eq_2] at hm;refine go ?_;obtain ⟨gv,ap,hm⟩:=bZ hm;refine lI ap (ab.addr ap)<|Z3 (X9 (ab.addr ap)) ?_;refine Z3 (X9 (X9 (ab.addr ap))) ?_;obtain ⟨_,fa,fb⟩:=ab.atN ap;obtain ⟨_,_,rfl,fc,fd⟩:=fa.parts;obtain ⟨_,_,rfl,fe,ff⟩:=fc.parts;obtain rfl:=fe.bool;obtain ⟨gw,gx,rfl,gy⟩:=ff.row;obtain ⟨gz,g0,rfl,g1⟩:=fd.row;refine lW ((((fb).part 0 2 _ rfl)).nth (q:=1) rfl)<|go ?_;refine Zp hm (fun hb hm=>go ?_) fun hb hm=>go ?_
      ·refine lI ap (ab.addr ap)<|Z3 (X9 (ab.addr ap)) ?_;refine Z3 (X9 (X9 (ab.addr ap))) ?_;obtain ⟨_,fg,fh⟩:=ab.atN ap;obtain ⟨_,_,rfl,fi,fj⟩:=fg.parts;obtain ⟨_,_,rfl,fk,fl⟩:=fi.parts;obtain rfl:=fk.bool;obtain ⟨g2,g3,rfl,dm⟩:=fl.row;obtain ⟨g4,g5,rfl,g6⟩:=fj.row;refine lW ((((fh).part 0 2 _ rfl)).nth (q:=1) rfl)<|Xu rfl ?_;obtain ⟨g7,cs,hm⟩:=bZ hm;refine lI cs (dm.addr cs)<|lW (dm.atInt cs) ?_;refine go ?_;refine Zp hm (fun hb hm=>go ?_) fun hb hm=>go ?_
       ·cases hm;exact ⟨rfl,_,rfl,aa.finL rfl (cm [(440,qc0)]),aa.foL ab,bo⟩
       exact ⟨bd,by omega,rfl,⟨_,_,_,rfl,hm,aa,ab,rfl⟩⟩
      refine Zw [0,12,3,1000000] (fun n f ct=>∃ cu cv be,be=n∧Zdx N ad bm bn (Sz N ad ay) be cv=some r∧St w0 (Xm [qc0] col) cu ct∧Zc (Za.pair (Za.pair Za.bool (Za.row 79 (Za.int .u32))) (Za.row 79 (Za.int .u32))) 47 440 cu ct a0 ac ad∧[14].map f=[.int .i64 cv]) N ⟨_,0,_,rfl,hm,aa,ab,rfl⟩ ?_;clear hm;intro n f ct hI;obtain ⟨cu,cv,be,hn,hm,aa,ab,hs⟩:=hI;subst hn;refine .lL [14] hs ?_
      cases be with
      | zero=>rw [Zdx.eq_1] at hm;cases hm
      | succ be=>
       rw [Zdx.eq_2] at hm;refine go ?_;obtain ⟨g8,az,hm⟩:=bZ hm;refine lI az (ab.addr az)<|Z3 (X9 (ab.addr az)) ?_;obtain ⟨_,fm,fn⟩:=ab.atN az;obtain ⟨_,_,rfl,fp,fq⟩:=fm.parts;obtain ⟨_,_,rfl,fr,ft⟩:=fp.parts;obtain rfl:=fr.bool;obtain ⟨g9,ha,rfl,hc⟩:=ft.row;obtain ⟨he,hf,rfl,hg⟩:=fq.row;refine lW ((fn).nth (q:=2) rfl)<|go ?_;refine Zp hm (fun hb hm=>go ?_) fun hb hm=>go ?_
       ·refine lI az (ab.addr az)<|Z3 (X9 (ab.addr az)) ?_;obtain ⟨_,fu,fv⟩:=ab.atN az;obtain ⟨_,_,rfl,fw,fx⟩:=fu.parts;obtain ⟨_,_,rfl,fy,fz⟩:=fw.parts;obtain rfl:=fy.bool;obtain ⟨hh,hi,rfl,hj⟩:=fz.row;obtain ⟨hk,hl,rfl,dn⟩:=fx.row;refine lW ((fv).nth (q:=2) rfl)<|Xu rfl ?_;obtain ⟨ho,cw,hm⟩:=bZ hm;refine lI cw (dn.addr cw)<|lW (dn.atInt cw) ?_;refine go ?_;refine Zp hm (fun hb hm=>go ?_) fun hb hm=>go ?_
        ·cases hm;exact ⟨rfl,_,rfl,aa.finL rfl (cm [(440,qc0)]),aa.foL ab,bo⟩
        exact ⟨be,by omega,rfl,⟨_,_,_,rfl,hm,aa,ab,rfl⟩⟩
       exact ⟨ay,by omega,rfl,⟨_,_,_,_,rfl,hm,aa,ab,rfl⟩⟩
    cases hm;exact ⟨rfl,_,rfl,aa.finL rfl (cm [(440,qc0)]),aa.foL ab,bo⟩
def Za3 (m:Int) (x:QV):QV:=((x.1.1,List.replicate x.1.2.length m),List.replicate x.2.length (m+1))
def W0:Int→List QV→List QV
 | _,[]=>[]
 | m,x :: l=>Za3 m x :: W0 (m+2) l
theorem Qz:∀ (l:List QV) (m:Int),(W0 m l).length=l.length
 | [],_=>rfl
 | x :: l,m=>by rw [W0,List.length_cons,Qz l,List.length_cons]
theorem Zmy:∀ (l:List QV) (m:Int) (i:Nat) (hi:i<l.length),(W0 m l)[i]?=some (Za3 (m+2 * i) l[i])
 | x :: l,m,0,_=>by simp [W0]
 | x :: l,m,i+1,hi=>by
  rw [W0,List.getElem?_cons_succ,Zmy l (m+2) i (by simpa using hi),List.getElem_cons_succ]
  congr 2;omega
theorem Zry:∀ (a b:List QV) (m:Int),W0 m (a++b)=W0 m a++W0 (m+2 * (a.length:Int)) b
 | [],b,m=>by simp [W0]
 | x :: a,b,m=>by
  rw [List.cons_append,W0,Zry a b,W0,List.cons_append,List.length_cons]
  congr 3;omega
theorem Zlr {x:Int} (h:0≤x∧x<4294967296):u32.wrap x=x:=by rw [IntKind.wrap_u32];omega
theorem Z2b {α:Type} {l:List α} {i:Nat} {x:α} (h:l[i]?=some x):l.set i x=l:=by
 obtain ⟨hi,rfl⟩:=List.getElem?_eq_some_iff.1 h
 exact List.set_getElem_self hi
theorem Zve {l:List Int} {k:Nat} {m:Int} (hk:k<l.length) (h:l.take k=List.replicate k m):(l.set k m).take (k+1)=List.replicate (k+1) m:=by
 rw [List.take_set,List.take_succ_eq_append_getElem hk,h,List.set_append_right _ _ (by simp),List.length_replicate,Nat.sub_self,List.replicate_succ']
 rfl
theorem Zn8 {l:List Int} {k:Nat} {m:Int} (h:l.take k=List.replicate k m) (hk:l.length≤k):l=List.replicate l.length m:=by
 rw [List.take_of_length_le hk] at h
 have:=congrArg List.length h
 rw [List.length_replicate] at this
 rw [this];exact h
abbrev Zel:=Option (Bool×List QV)
section
variable {N:Nat} (hN:1099511627777<N)
include hN
omit hN in
theorem Zp8 {m:Int} (hm:0≤m∧m<4294967000) {i:Nat} (hi:i<4611686018427387904) (kk:List QV→Int→Int→Zel) (b:Bool) (num:List Int) (c:Nat) (hc:c≤1099511627776):∀ (f k:Nat) (l:List QV) (den:List Int),l[i]?=some ((b,num),den)→den.length=c→den.take k=List.replicate k (m+1)→k≤c→c<f+k→
  Zdt N m (i:Int) kk f l (k:Int)=kk (l.set i ((b,num),List.replicate c (m+1))) (m+2) ((i+1:Nat):Int)
 | 0,k,l,den,_,_,_,h1,h2=>by omega
 | f+1,k,l,den,hl,hd,ht,h1,h2=>by
  rw [Zdt.eq_2,Vh,hl,Option.bind_some]
  by_cases hk:k<c
  ·have hkd:k<den.length:=by omega
   have hil:=(List.getElem?_eq_some_iff.1 hl).1
   rw [if_pos (decide_eq_true (show (k:Int)<(den.length:Int) by omega)),show (((b,num),den):QV).2=den from rfl,Zv hkd,Option.bind_some,Option.bind_some,Zlr (by omega),Int.toNat_natCast,Int.toNat_natCast,wS (by omega)]
   have ih:=Zp8 hm hi kk b num c hc f (k+1) (l.set i ((b,num),den.set k (m+1))) (den.set k (m+1)) (by rw [List.getElem?_set_self hil]) (by rw [List.length_set];exact hd) (Zve hkd ht) (by omega) (by omega)
   rw [List.set_set] at ih
   exact ih
  ·rw [if_neg (by rw [decide_eq_false (show ¬ (k:Int)<((((b,num),den):QV).2.length:Int) by simp only;omega)];decide),Zlr (by omega),Zq (by omega)]
   have e:=Zn8 ht (by omega)
   rw [hd] at e
   rw [← e,Z2b hl];rfl
theorem Zp7 {m:Int} (hm:0≤m∧m<4294967000) {i:Nat} (hi:i<4611686018427387904) (kk:List QV→Int→Int→Zel) (b:Bool) (den:List Int) (hden:den.length≤1099511627776) (c:Nat) (hc:c≤1099511627776):∀ (f k:Nat) (l:List QV) (num:List Int),l[i]?=some ((b,num),den)→num.length=c→num.take k=List.replicate k m→k≤c→c<f+k→
  Zds N m (i:Int) kk f l (k:Int)=kk (l.set i ((b,List.replicate c m),List.replicate den.length (m+1))) (m+2) ((i+1:Nat):Int)
 | 0,k,l,num,_,_,_,h1,h2=>by omega
 | f+1,k,l,num,hl,hd,ht,h1,h2=>by
  rw [Zds.eq_2,Vh,hl,Option.bind_some]
  by_cases hk:k<c
  ·have hkd:k<num.length:=by omega
   have hil:=(List.getElem?_eq_some_iff.1 hl).1
   rw [if_pos (decide_eq_true (show (k:Int)<(num.length:Int) by omega)),show (((b,num),den):QV).1.2=num from rfl,Zv hkd,Option.bind_some,Option.bind_some,Int.toNat_natCast,Int.toNat_natCast,wS (by omega)]
   have ih:=Zp7 hm hi kk b den hden c hc f (k+1) (l.set i ((b,num.set k m),den)) (num.set k m) (by rw [List.getElem?_set_self hil]) (by rw [List.length_set];exact hd) (Zve hkd ht) (by omega) (by omega)
   rw [List.set_set] at ih
   exact ih
  ·rw [if_neg (by rw [decide_eq_false (show ¬ (k:Int)<((((b,num),den):QV).1.2.length:Int) by simp only;omega)];decide)]
   have e:=Zn8 ht (by omega)
   rw [hd] at e
   have:=Zp8 (N:=N) hm hi kk b num den.length hden N 0 l den hl rfl rfl (Nat.zero_le _) (by omega)
   rw [show ((0:Nat):Int)=0 from rfl] at this
   rw [this,e]
theorem Zp6 {p:List QV} (hp:p.length≤1048576) (hl:∀ x ∈ p,x.1.2.length≤1099511627776∧x.2.length≤1099511627776):∀ (f i:Nat) (l:List QV),l=W0 1000 (p.take i)++p.drop i→i≤p.length→p.length<f+i→
  Qw N f l (1000+2 * (i:Int)) (i:Int)=Sy N (W0 1000 p) N 0
 | 0,i,l,_,h1,h2=>by omega
 | f+1,i,l,he,h1,h2=>by
  have hll:l.length=p.length:=by
   rw [he,List.length_append,Qz,List.length_take,List.length_drop];omega
  rw [Qw.eq_2]
  by_cases hi:i<p.length
  ·have hmem:=hl _ (List.getElem_mem hi)
   have hg:l[i]?=some ((p[i].1.1,p[i].1.2),p[i].2):=by
    rw [he,List.getElem?_append_right (by rw [Qz,List.length_take];omega),Qz,List.length_take,Nat.min_eq_left (by omega),Nat.sub_self,List.getElem?_drop,Nat.add_zero,List.getElem?_eq_getElem hi]
   rw [if_pos (decide_eq_true (by omega))]
   have h3:=Zp7 hN (m:=1000+2 * (i:Int)) (by omega) (i:=i) (by omega) (Qw N f) p[i].1.1 p[i].2 hmem.2 p[i].1.2.length hmem.1 N 0 l p[i].1.2 hg rfl rfl (Nat.zero_le _) (by omega)
   rw [show ((0:Nat):Int)=0 from rfl] at h3
   rw [h3,show (1000+2 * (i:Int)+2)=1000+2 * ((i+1:Nat):Int) by omega]
   refine Zp6 hp hl f (i+1) _ ?_ (by omega) (by omega)
   rw [he,List.set_append_right _ _ (by rw [Qz,List.length_take];omega),Qz,List.length_take,Nat.min_eq_left (by omega),Nat.sub_self,List.drop_eq_getElem_cons hi,List.set_cons_zero,List.take_succ_eq_append_getElem hi,Zry,List.append_assoc,List.length_take,Nat.min_eq_left (by omega)]
   rfl
  ·rw [if_neg (by rw [decide_eq_false (by omega)];decide),he,List.take_of_length_le (by omega),List.drop_eq_nil_of_le (by omega),List.append_nil]
omit hN in
theorem Zqb (i:Nat) (hi:i<4611686018427387904) (kk:Int→Zel):∀ (f k:Nat) (l:List Int),k≤12→12<f+k→l.length≤1099511627776+k→Zdv N (i:Int) kk f l (k:Int)=kk ((i+1:Nat):Int)
 | 0,k,l,h1,h2,_=>by omega
 | f+1,k,l,h1,h2,hl=>by
  rw [Zdv.eq_2]
  by_cases hk:k<12
  ·rw [if_pos (decide_eq_true (by omega)),Z5 (by simp only [List.length_singleton,maxLen];omega),wS (by omega)]
   exact Zqb i hi kk f (k+1) _ (by omega) (by omega) (by rw [List.length_append,List.length_singleton];omega)
  ·rw [if_neg (by rw [decide_eq_false (by omega)];decide),wS (by omega)]
theorem Zqa (i:Nat) (hi:i<4611686018427387904) (kk:Int→Zel) (e:QV) (he:e.2.length≤1099511627776):∀ (f k:Nat) (l:List Int),k≤12→12<f+k→l.length≤1099511627776+k→Zdu N (i:Int) kk e f l (k:Int)=kk ((i+1:Nat):Int)
 | 0,k,l,h1,h2,_=>by omega
 | f+1,k,l,h1,h2,hl=>by
  rw [Zdu.eq_2]
  by_cases hk:k<12
  ·rw [if_pos (decide_eq_true (by omega)),Z5 (by simp only [List.length_singleton,maxLen];omega),wS (by omega)]
   exact Zqa i hi kk e he f (k+1) _ (by omega) (by omega) (by rw [List.length_append,List.length_singleton];omega)
  ·rw [if_neg (by rw [decide_eq_false (by omega)];decide)]
   have:=Zqb (N:=N) i hi kk N 0 e.2 (Nat.zero_le _) (by omega) (by omega)
   exact this
theorem Zp9 {l:List QV} (hp:l.length≤1048576) (hl:∀ x ∈ l,x.1.2.length≤1099511627776∧x.2.length≤1099511627776):∀ (f i:Nat),i≤l.length→l.length<f+i→Sy N l f (i:Int)=Sz N l N 0 1000
 | 0,i,h1,h2=>by omega
 | f+1,i,h1,h2=>by
  rw [Sy.eq_2]
  by_cases hi:i<l.length
  ·have hmem:=hl _ (List.getElem_mem hi)
   rw [if_pos (decide_eq_true (by omega)),Zv hi,Option.bind_some]
   have:=Zqa hN i (by omega) (Sy N l f) l[i] hmem.2 N 0 l[i].1.2 (Nat.zero_le _) (by omega) (by omega)
   rw [show ((0:Nat):Int)=0 from rfl] at this
   rw [this]
   exact Zp9 hp hl f (i+1) (by omega) (by omega)
  ·rw [if_neg (by rw [decide_eq_false (by omega)];decide)]
omit hN in
theorem Zqe {l:List QV} {i:Nat} {m:Int} {x:QV} (hm:0≤m∧m<4294967000) (hi:i<4611686018427387904) (hx:l[i]?=some (Za3 m x)) (hc:x.2.length≤1099511627776) (kk:Int→Int→Zel):∀ (f k:Nat),k≤x.2.length→x.2.length<f+k→Zdx N l (i:Int) m kk f (k:Int)=kk ((i+1:Nat):Int) (m+2)
 | 0,k,h1,h2=>by omega
 | f+1,k,h1,h2=>by
  have hlen:(Za3 m x).2.length=x.2.length:=List.length_replicate
  rw [Zdx.eq_2,Vh,hx,Option.bind_some,hlen]
  by_cases hk:k<x.2.length
  ·rw [if_pos (decide_eq_true (by omega)),Zv (by rw [hlen];exact hk),Option.bind_some,show (Za3 m x).2[k]'(by rw [hlen];exact hk)=m+1 from List.getElem_replicate _,Zlr (by omega),if_neg (by rw [decide_eq_true rfl];decide),wS (by omega)]
   exact Zqe hm hi hx hc kk f (k+1) (by omega) (by omega)
  ·rw [if_neg (by rw [decide_eq_false (by omega)];decide),Zlr (by omega),wS (by omega)]
theorem Zqd {l:List QV} {i:Nat} {m:Int} {x:QV} (hm:0≤m∧m<4294967000) (hi:i<4611686018427387904) (hx:l[i]?=some (Za3 m x)) (hc:x.1.2.length≤1099511627776) (hd:x.2.length≤1099511627776) (kk:Int→Int→Zel):∀ (f k:Nat),k≤x.1.2.length→x.1.2.length<f+k→Zdw N l (i:Int) m kk f (k:Int)=kk ((i+1:Nat):Int) (m+2)
 | 0,k,h1,h2=>by omega
 | f+1,k,h1,h2=>by
  have hlen:(Za3 m x).1.2.length=x.1.2.length:=List.length_replicate
  rw [Zdw.eq_2,Vh,hx,Option.bind_some,hlen]
  by_cases hk:k<x.1.2.length
  ·rw [if_pos (decide_eq_true (by omega)),Zv (by rw [hlen];exact hk),Option.bind_some,show (Za3 m x).1.2[k]'(by rw [hlen];exact hk)=m from List.getElem_replicate _,if_neg (by rw [decide_eq_true rfl];decide),wS (by omega)]
   exact Zqd hm hi hx hc hd kk f (k+1) (by omega) (by omega)
  ·rw [if_neg (by rw [decide_eq_false (by omega)];decide)]
   have:=Zqe (N:=N) hm hi hx hd kk N 0 (Nat.zero_le _) (by omega)
   exact this
theorem Zqc {p:List QV} (hp:p.length≤1048576) (hl:∀ x ∈ p,x.1.2.length≤1099511627776∧x.2.length≤1099511627776):∀ (f i:Nat),i≤p.length→p.length<f+i→Sz N (W0 1000 p) f (i:Int) (1000+2 * (i:Int))=some (true,W0 1000 p)
 | 0,i,h1,h2=>by omega
 | f+1,i,h1,h2=>by
  rw [Sz.eq_2,Qz]
  by_cases hi:i<p.length
  ·have hmem:=hl _ (List.getElem_mem hi)
   have h3:=Zqd hN (l:=W0 1000 p) (i:=i) (m:=1000+2 * (i:Int)) (x:=p[i]) (by omega) (by omega) (Zmy p 1000 i hi) hmem.1 hmem.2 (Sz N (W0 1000 p) f) N 0 (Nat.zero_le _) (by omega)
   rw [show ((0:Nat):Int)=0 from rfl] at h3
   rw [if_pos (decide_eq_true (by omega)),h3,show (1000+2 * (i:Int)+2)=1000+2 * ((i+1:Nat):Int) by omega]
   exact Zqc hp hl f (i+1) (by omega) (by omega)
  ·rw [if_neg (by rw [decide_eq_false (by omega)];decide)]
theorem Zy9 {p:List QV} (hp:p.length≤1048576) (hl:∀ x ∈ p,x.1.2.length≤1099511627776∧x.2.length≤1099511627776):Zgt N p=some (true,W0 1000 p):=by
 have h1:=Zp6 hN hp hl N 0 p (by simp [W0]) (Nat.zero_le _) (by omega)
 have hm:∀ x ∈ W0 1000 p,x.1.2.length≤1099511627776∧x.2.length≤1099511627776:=fun x hx=>by
  obtain ⟨i,hi⟩:=List.getElem?_of_mem hx
  have hil:i<p.length:=by have:=(List.getElem?_eq_some_iff.1 hi).1;rwa [Qz] at this
  rw [Zmy p 1000 i hil] at hi
  cases hi
  have:=hl _ (List.getElem_mem hil)
  simp only [Za3,List.length_replicate]
  exact this
 have h2:=Zp9 hN (l:=W0 1000 p) (by rw [Qz];exact hp) hm N 0 (Nat.zero_le _) (by rw [Qz];omega)
 have h3:=Zqc hN hp hl N 0 (Nat.zero_le _) (by omega)
 rw [show ((0:Nat):Int)=0 from rfl] at h1 h2 h3
 rw [show (1000+2 * (0:Int))=1000 from rfl] at h1 h3
 rw [Zgt,h1,h2,h3]
end
def Zgv (ae:R1) (aa:Int) (kk_L1:(Int→Int→Option Int)) (ab:Int) (ac:Int) (kk_L2:(Int→Int→Option Int)) (af:Bool):Option Int:=
  if af=true then ((Zk ae.2.2.2.2 aa).bind fun ag=>(Zk ag ac).bind fun ad=>kk_L2 (i64.wrap ((i64.wrap (ab+(ad.1.2.length:Int)))+(ad.2.length:Int))) (i64.wrap (ac+1))) else (kk_L1 ab (i64.wrap (aa+1)))
def Zay (N:Nat) (aa:R1) (ab:Int) (kk_L1:(Int→Int→Option Int)):Nat→Int→Int→Option Int
  | 0,_,_=>none
  | ae+1,ac,ad=>(Zk aa.2.2.2.2 ab).bind fun af=>if (decide (ad<(af.length:Int)))=true then (Zgv aa ab kk_L1 ac ad (Zay N aa ab kk_L1 ae) (decide (ac<10000))) else (Zgv aa ab kk_L1 ac ad (Zay N aa ab kk_L1 ae) false)
termination_by structural x=>x
def S1 (N:Nat) (aa:R1):Nat→Int→Int→Option Int
  | 0,_,_=>none
  | ad+1,ab,ac=>if (decide (ac<(aa.2.2.2.2.length:Int)))=true then (Zay N aa ac (S1 N aa ad) N ab 0) else (some (if 10000<ab then 10000 else ab))
termination_by structural x=>x
def Zko (N:Nat) (aa:R1):Option Int:=
  S1 N aa N 0 0
theorem Zxt {N al am an ao:Nat} {ap aq ar au:Option Addr} {col:Zd} {w0:World} {aa:R1} {r:Int} (hm:Zko N aa=some r) (bs:Sl Za.str col w0 ap al aa.2.1) (bt:Sl (Za.slice Za.str) col w0 aq am aa.2.2.1) (bu:Sl (Za.slice (Za.int .i64)) col w0 ar an aa.2.2.2.1) (ag:Sl (Za.slice (Za.pair (Za.pair Za.bool (Za.slice (Za.int .u32))) (Za.slice (Za.int .u32)))) col w0 au ao aa.2.2.2.2):
    Calls Tryz.prog 84 #[(.agg #[.string aa.1,.slice ap aa.2.1.length al,.slice aq aa.2.2.1.length am,.slice ar aa.2.2.2.1.length an,.slice au aa.2.2.2.2.length ao])] w0 (fun e w'=>e= .returned ((.int .i64 r))∧Below w0.heap.size w0 w'):=by
 refine Xb 2 (m:=53) func84 rfl rfl rfl rfl rfl ?_;rw [Zko.eq_1] at hm;have ab:=St.start col w0;refine go ?_;refine Xh (col:=(Zi col)) 1 rfl ?_;intro ay bv bw a8 ac;refine go ?_;replace ab:=ab.grow a8;refine Zw [1,1000000] (fun n f az=>∃ a0 ai aj ae,ae=n∧S1 N aa ae ai aj=some r∧St w0 (Zi col) a0 az∧Zn 27 1 a0 az ay #[.string aa.1,.slice ap aa.2.1.length al,.slice aq aa.2.2.1.length am,.slice ar aa.2.2.2.1.length an,.slice au aa.2.2.2.2.length ao]∧[3,4].map f=[.int .i64 ai,.int .i64 aj]) N ⟨_,0,0,_,rfl,hm,ab,ac,rfl⟩ ?_;clear hm;intro n f az hI;obtain ⟨a0,ai,aj,ae,hn,hm,ab,ac,hs⟩:=hI;subst hn;refine .lL [3,4] hs ?_;replace ag:=ag.keep (Zj.start col w0)
 cases ae with
 | zero=>rw [S1.eq_1] at hm;cases hm
 | succ ae=>
  rw [S1.eq_2] at hm;refine go ?_;refine Z9 ac ?_;refine go ?_;refine Zp hm (fun hb hm=>go ?_) fun hb hm=>go ?_
  ·refine Zw [1,4,1000000] (fun n f a1=>∃ a2 av aw ah,ah=n∧Zay N aa aj (S1 N aa ae) ah av aw=some r∧St w0 (Zi col) a2 a1∧Zn 27 1 a2 a1 ay #[.string aa.1,.slice ap aa.2.1.length al,.slice aq aa.2.2.1.length am,.slice ar aa.2.2.2.1.length an,.slice au aa.2.2.2.2.length ao]∧[3,5].map f=[.int .i64 av,.int .i64 aw]) N ⟨_,_,0,_,rfl,hm,ab,ac,rfl⟩ ?_;clear hm;intro n f a1 hI;obtain ⟨a2,av,aw,ah,hn,hm,ab,ac,hs⟩:=hI;subst hn;refine .lL [3,5] hs ?_
   cases ah with
   | zero=>rw [Zay.eq_1] at hm;cases hm
   | succ ah=>
    rw [Zay.eq_2] at hm;refine Zu<|Zu ?_;refine Wp.cutK [1,3,4,5,1000000] (fun f a3=>∃ ad a4,Zgv aa aj (S1 N aa ae) av aw (Zay N aa aj (S1 N aa ae) ah) a4=some r∧St w0 (Zi col) ad a3∧Zn 27 1 ad a3 ay #[.string aa.1,.slice ap aa.2.1.length al,.slice aq aa.2.2.1.length am,.slice ar aa.2.2.2.1.length an,.slice au aa.2.2.2.2.length ao]∧[24].map f=[.bool a4]) ?_ ?_
    ·intro f a3 hJ;obtain ⟨ad,a4,hm,ab,ac,hs⟩:=hJ;rw [Zgv.eq_1] at hm;refine .lL [24] hs ?_;refine Zp hm (fun hb hm=>go ?_) fun hb hm=>go ?_
     ·refine Wj (col:=ad) (by kernel_rfl) (by kernel_rfl)<|go ?_;refine qF ⟨_,_,rfl⟩ ?_;refine qW (fun _ hC=>((ac.atN).nth (q:=4) rfl).gr (hC.bl ad)) ?_;refine go ?_;obtain ⟨bx,ak,hm⟩:=bZ hm;refine qI ak ((ag.ks ab).addr ak) ?_;obtain ⟨_,a9,ba⟩:=(ag.ks ab).atN ak;obtain ⟨⟨bz,b0,rfl,ax⟩,_⟩:=a9;refine qW (fun _ hC=>ba.one.gr (hC.bl ad)) ?_;refine go ?_;obtain ⟨b1,af,hm⟩:=bZ hm;refine qI af (ax.addr af)<|qF (X9 (ax.addr af)) ?_;refine qF (X9 (X9 (ax.addr af))) ?_;obtain ⟨_,bb,bc⟩:=ax.atN af;obtain ⟨_,_,rfl,bd,be⟩:=Yx bb;obtain ⟨_,_,rfl,bf,bg⟩:=Yx bd;obtain ⟨rfl,_⟩:=bf;obtain ⟨⟨b2,b3,rfl,b4⟩,_⟩:=bg;obtain ⟨⟨b5,b6,rfl,b7⟩,_⟩:=be;refine qW (fun _ hC=>((((bc).part 0 2 _ rfl)).nth (q:=1) rfl).gr (hC.bl ad)) ?_;refine go ?_;refine qF ⟨_,_,rfl⟩ ?_;refine qW (fun _ hC=>((ac.atN).nth (q:=4) rfl).gr (hC.bl ad)) ?_;refine go ?_;refine qI ak ((ag.ks ab).addr ak) ?_;obtain ⟨_,bh,bi⟩:=(ag.ks ab).atN ak;obtain ⟨⟨b8,b9,rfl,a5⟩,_⟩:=bh;refine qW (fun _ hC=>bi.one.gr (hC.bl ad)) ?_;refine go ?_;refine qI af (a5.addr af)<|qF (X9 (a5.addr af)) ?_;obtain ⟨_,bj,bk⟩:=a5.atN af;obtain ⟨_,_,rfl,bm,bn⟩:=Yx bj;obtain ⟨_,_,rfl,bo,bp⟩:=Yx bm;obtain ⟨rfl,_⟩:=bo;obtain ⟨⟨ca,cb,rfl,cc⟩,_⟩:=bp;obtain ⟨⟨cd,ce,rfl,cf⟩,_⟩:=bn;refine qW (fun _ hC=>((bk).nth (q:=2) rfl).gr (hC.bl ad)) ?_;refine go ?_;refine Yn ?_;intro cg hC;replace hC:=hC.bl ad;refine go ?_;replace ac:=ac.gr hC;replace ab:=ab.grow hC;exact ⟨ah,by omega,rfl,⟨_,_,_,_,rfl,hm,ab,ac,rfl⟩⟩
     exact ⟨ae,by omega,rfl,⟨_,_,_,_,rfl,hm,ab,ac,rfl⟩⟩
    refine go ?_;refine Z9 ac<|Xu rfl ?_;obtain ⟨ch,a6,hm⟩:=bZ hm;refine lI a6 ((ag.ks ab).addr a6) ?_;obtain ⟨_,bq,br⟩:=(ag.ks ab).atN a6;obtain ⟨⟨ci,cj,rfl,ck⟩,_⟩:=bq;refine lW br.one<|go ?_;refine Xr hm (fun a7 hm=>go ?_) fun a7 hm=>go ?_
    ·refine lV (.bool (decide (av<10000))) (Z6 (congrArg Value.bool a7) rfl)<|Zl ?_;exact ⟨rfl,_,_,hm,ab,ac,rfl⟩
    refine lV (.bool false) (Xg (congrArg Value.bool a7) rfl)<|Zl ?_;exact ⟨rfl,_,_,hm,ab,ac,rfl⟩
  refine lV (.int .i64 (if 10000<ai then 10000 else ai)) (Zng ai 10000 rfl rfl)<|go ?_;cases hm;exact ⟨rfl,rfl,ab.below⟩
def Zfc (aa:Bool):Option Bool:=
  some aa
def Zcw (N:Nat) (aa:R1) (ab:Int) (ac:Int) (kk_L1:(Int→Int→Option Bool)) (ad:Bool):Option Bool:=
  if ad=true then ((Zk aa.2.2.2.2 ac).bind fun ae=>kk_L1 (i64.wrap (ab+(ae.length:Int))) (i64.wrap (ac+1))) else (if (decide (12<(aa.2.1.length:Int)))=true then (Zfc true) else (if (decide (600<ab))=true then (Zfc true) else (if (decide (12<(aa.2.2.2.2.length:Int)))=true then (Zfc true) else ((Zko N (aa.1,aa.2.1,aa.2.2.1,aa.2.2.2.1,aa.2.2.2.2)).bind fun af=>Zfc (decide (3000<af))))))
def Qo (N:Nat) (aa:R1):Nat→Int→Int→Option Bool
  | 0,_,_=>none
  | ac+1,ad,ab=>if (decide (ab<(aa.2.2.2.2.length:Int)))=true then (Zcw N aa ad ab (Qo N aa ac) (decide (ab<13))) else (Zcw N aa ad ab (Qo N aa ac) false)
termination_by structural x=>x
def Zh0 (N:Nat) (aa:R1):Option Bool:=
  Qo N aa N 0 0
theorem Zwo {N ai aj ak al:Nat} {am an ao ap:Option Addr} {col:Zd} {w0:World} {aa:R1} {r:Bool} (hm:Zh0 N aa=some r) (ar:Sl Za.str col w0 am ai aa.2.1) (au:Sl (Za.slice Za.str) col w0 an aj aa.2.2.1) (av:Sl (Za.slice (Za.int .i64)) col w0 ao ak aa.2.2.2.1) (ae:Sl (Za.slice (Za.pair (Za.pair Za.bool (Za.slice (Za.int .u32))) (Za.slice (Za.int .u32)))) col w0 ap al aa.2.2.2.2):
    Calls Tryz.prog 21 #[(.agg #[.string aa.1,.slice am aa.2.1.length ai,.slice an aa.2.2.1.length aj,.slice ao aa.2.2.2.1.length ak,.slice ap aa.2.2.2.2.length al])] w0 (fun e w'=>e= .returned ((.bool r))∧Below w0.heap.size w0 w'):=by
 refine Xb 2 (m:=43) func21 rfl rfl rfl rfl rfl ?_;rw [Zh0.eq_1] at hm;have ab:=St.start col w0;refine go ?_;refine Xh (col:=(Zi col)) 1 rfl ?_;intro a6 bf bg a9 ac;refine go ?_;replace ab:=ab.grow a9;refine Zw [1,1000000] (fun n f aw=>∃ ax af ag ad,ad=n∧Qo N aa ad af ag=some r∧St w0 (Zi col) ax aw∧Zn 27 1 ax aw a6 #[.string aa.1,.slice am aa.2.1.length ai,.slice an aa.2.2.1.length aj,.slice ao aa.2.2.2.1.length ak,.slice ap aa.2.2.2.2.length al]∧[3,4].map f=[.int .i64 af,.int .i64 ag]) N ⟨_,0,0,_,rfl,hm,ab,ac,rfl⟩ ?_;clear hm;intro n f aw hI;obtain ⟨ax,af,ag,ad,hn,hm,ab,ac,hs⟩:=hI;subst hn;refine .lL [3,4] hs ?_;replace ar:=ar.keep (Zj.start col w0);replace au:=au.keep (Zj.start col w0);replace av:=av.keep (Zj.start col w0);replace ae:=ae.keep (Zj.start col w0)
 cases ad with
 | zero=>rw [Qo.eq_1] at hm;cases hm
 | succ ad=>
  rw [Qo.eq_2] at hm;refine Zu<|Zu ?_;refine Wp.cutK [1,3,4,1000000] (fun f aq=>∃ ah ay,Zcw N aa af ag (Qo N aa ad) ay=some r∧St w0 (Zi col) ah aq∧Zn 27 1 ah aq a6 #[.string aa.1,.slice am aa.2.1.length ai,.slice an aa.2.2.1.length aj,.slice ao aa.2.2.2.1.length ak,.slice ap aa.2.2.2.2.length al]∧[13].map f=[.bool ay]) ?_ ?_
  ·intro f aq hJ;obtain ⟨ah,ay,hm,ab,ac,hs⟩:=hJ;rw [Zcw.eq_1] at hm;refine .lL [13] hs ?_;refine Zp hm (fun hb hm=>go ?_) fun hb hm=>?_
   ·refine Z9 ac<|Xu rfl ?_;obtain ⟨bh,az,hm⟩:=bZ hm;refine lI az ((ae.ks ab).addr az) ?_;obtain ⟨_,ba,bb⟩:=(ae.ks ab).atN az;obtain ⟨⟨bi,bj,rfl,bk⟩,_⟩:=ba;refine lW bb.one<|go ?_;exact ⟨ad,by omega,rfl,⟨_,_,_,_,rfl,hm,ab,ac,rfl⟩⟩
   refine Zjg (Zhr ?_);refine Zu ?_;refine Wp.cutK [1000000] (fun f a7=>∃ a8 a0,Zfc a0=some r∧St w0 (Zi col) a8 a7∧[2].map f=[.bool a0]) ?_ ?_
   ·intro f a7 hJ;obtain ⟨a8,a0,hm,ab,hs⟩:=hJ;rw [Zfc.eq_1] at hm;refine .lL [2] hs<|Y4 ?_;cases hm;exact ⟨rfl,rfl,ab.below⟩
   refine Wk<|Z9 ac ?_;refine go ?_;refine Xr hm (fun a1 hm=>go ?_) fun a1 hm=>go ?_
   ·refine lV (.bool true) (Z6 (congrArg Value.bool a1) rfl)<|Xt rfl<|lP 32 rfl rfl<|lP 32 rfl rfl<|lP 32 rfl rfl<|lP 32 rfl rfl<|lV (.bool true) (Z6 rfl rfl)<|Xt rfl<|lP 38 rfl rfl<|lP 38 rfl rfl<|lP 38 rfl rfl<|lV (.bool true) (Z6 rfl rfl)<|go ?_;exact ⟨rfl,_,_,hm,ab,rfl⟩
   refine lV (.bool (decide (600<af))) (Xg (congrArg Value.bool a1) rfl)<|Xt rfl ?_;refine Xr hm (fun a2 hm=>go ?_) fun a2 hm=>go ?_
   ·refine lV (.bool true) (Z6 (congrArg Value.bool a2) rfl)<|Xt rfl<|lP 38 rfl rfl<|lP 38 rfl rfl<|lP 38 rfl rfl<|lV (.bool true) (Z6 rfl rfl)<|go ?_;exact ⟨rfl,_,_,hm,ab,rfl⟩
   refine Z3 ⟨_,_,rfl⟩ ?_;refine go ?_;refine lW ((ac.atN).nth (q:=4) rfl)<|go ?_;refine lV (.bool (decide (12<(aa.2.2.2.2.length:Int)))) (Xg (congrArg Value.bool a2) rfl)<|Xt rfl ?_;refine Xr hm (fun a3 hm=>go ?_) fun a3 hm=>go ?_
   ·refine lV (.bool true) (Z6 (congrArg Value.bool a3) rfl)<|go ?_;exact ⟨rfl,_,_,hm,ab,rfl⟩
   refine lV _ (Xj isAgg27 sizeOf27 ac)<|go ?_;obtain ⟨bc,bd,hm⟩:=bZ hm;refine Zh (Zxt bd (ar.ks ab) (au.ks ab) (av.ks ab) (ae.ks ab)) ?_;rintro _ be ⟨rfl,a4⟩;refine ⟨_,rfl,?_⟩;replace a4:Zf ah aq ah be:=.of_below a4;refine go ?_;refine lV (.bool (decide (3000<bc))) (Xg (congrArg Value.bool a3) rfl)<|go ?_;replace ab:=ab.grow a4;exact ⟨rfl,_,_,hm,ab,rfl⟩
  refine go ?_;refine Z9 ac ?_;refine go ?_;refine Xr hm (fun a5 hm=>go ?_) fun a5 hm=>go ?_
  ·refine lV (.bool (decide (ag<13))) (Z6 (congrArg Value.bool a5) rfl)<|Zl ?_;exact ⟨rfl,_,_,hm,ab,ac,rfl⟩
  refine lV (.bool false) (Xg (congrArg Value.bool a5) rfl)<|Zl ?_;exact ⟨rfl,_,_,hm,ab,ac,rfl⟩
def Zhz (aa:List Int):Option R5:=
  Zx ((([]:List Int).length+aa.length) * 8≤140737488355328∧([]:List Int).length+aa.length≤maxLen) (Zx (((([]:List Int)++aa).length+[(-61),(-62),(-63)].length) * 8≤140737488355328∧(([]:List Int)++aa).length+[(-61),(-62),(-63)].length≤maxLen) (Zx ((0:Int)≤(aa.length:Int)∧(aa.length:Int)≤(((([]:List Int)++aa)++[(-61),(-62),(-63)]).length:Int)) (some ((Int.toNat (aa.length:Int)),(([]:List Int)++aa)++[(-61),(-62),(-63)]))))
theorem Zwn {ag:Nat} {a0:Option Addr} {col:Zd} {w0:World} {aa:R2} {r:R5} (c1:Nat) (hm:Zhz aa=some r) (h0:Sl (Za.int .i64) col w0 a0 ag aa):
    Calls Tryz.prog 23 #[.slice a0 aa.length ag] w0 (fun e w'=>∃ (col':Zd) (ra1:Option Addr) (rc2:Nat),e= .returned ((.slice ra1 ((r.2.take r.1).length) rc2))∧Zf col w0 col' w'∧Zc (Za.int .i64) 3 c1 col' w' ra1 rc2 r.2):=by
 refine Xb 2 (m:=14) func23 rfl rfl rfl rfl rfl ?_;rw [Zhz.eq_1] at hm;have ab:=St.start col w0;refine go ?_;obtain ⟨aj,hm⟩:=Zz hm;replace h0:=h0.keep (Zj.start col w0);refine Wn (c:=1) Zc.nil (h0.ks ab).srcC aj ?_;intro ap aq ar ak al ac;refine go ?_;refine Wu (col:=ak) [(-61),(-62),(-63)] 2 ?_;intro au av aw ah am;obtain ⟨an,hm⟩:=Zz hm;replace ac:=ac.gr ah;refine Wn ac (am.srcN (NB.int (k:=.i64))) an ?_;intro ad ae ax ay ao ai;refine go ?_;obtain ⟨af,hm⟩:=Zz hm;refine lv (v:=.slice ad (Int.toNat (aa.length:Int)) ae) rfl rfl (Vu underlying40 sizeOf3 rfl rfl af.1 (by have:=ai.lecap;have:=af.2;omega))<|.ld (d:=13) (v:=(.slice ad ((((([]:List Int)++aa)++[(-61),(-62),(-63)]).take (Int.toNat (aa.length:Int))).length) ae)) (congrArg (fun n=>Value.slice ad n ae) (List.length_take_of_le (show (Int.toNat (aa.length:Int))≤((([]:List Int)++aa)++[(-61),(-62),(-63)]).length by have:=af.2;omega)).symm) ?_;refine go ?_;cases hm;replace ab:=((ab.kpp al).grow ah).kpp ao;exact ⟨rfl,_,_,_,rfl,ab.fin (cm [(1,c1)]),ab.fo ai⟩
def Zd5 (N:Nat) (ab:List Int) (ac:List Int):Nat→Int→Option Bool
  | 0,_=>none
  | ad+1,aa=>if (decide (aa<(ab.length:Int)))=true then ((Zk ab aa).bind fun ae=>(Zk ac aa).bind fun af=>if (!decide (ae=af))=true then (some false) else ((Zd5 N ab ac ad) (i64.wrap (aa+1)))) else (some true)
termination_by structural x=>x
def Ziu (N:Nat) (aa:List Int) (ab:List Int):Option Bool:=
  if (!decide ((aa.length:Int)=(ab.length:Int)))=true then (some false) else (Zd5 N aa ab N 0)
theorem Zxu {N ai aj:Nat} {a0 a1:Option Addr} {col:Zd} {w0:World} {ad ae:R2} {r:Bool} (hm:Ziu N ad ae=some r) (h0:Sl (Za.int .i64) col w0 a0 ai ad) (h1:Sl (Za.int .i64) col w0 a1 aj ae):
    Calls Tryz.prog 31 #[.slice a0 ad.length ai,.slice a1 ae.length aj] w0 (fun e w'=>e= .returned ((.bool r))∧Below w0.heap.size w0 w'):=by
 refine Xb 4 (m:=26) func31 rfl rfl rfl rfl rfl ?_;rw [Ziu.eq_1] at hm;have aa:=St.start col w0;refine go ?_;replace h0:=h0.keep (Zj.start col w0);replace h1:=h1.keep (Zj.start col w0);refine Zp hm (fun hb hm=>go ?_) fun hb hm=>go ?_
 ·cases hm;exact ⟨rfl,rfl,aa.below⟩
 refine Zw [0,1,1000000] (fun n f ak=>∃ ab af ac,ac=n∧Zd5 N ad ae ac af=some r∧St w0 (Zi col) ab ak∧[5].map f=[.int .i64 af]) N ⟨_,0,_,rfl,hm,aa,rfl⟩ ?_;clear hm;intro n f ak hI;obtain ⟨ab,af,ac,hn,hm,aa,hs⟩:=hI;subst hn;refine .lL [5] hs ?_
 cases ac with
 | zero=>rw [Zd5.eq_1] at hm;cases hm
 | succ ac=>
  rw [Zd5.eq_2] at hm;refine go ?_;refine Zp hm (fun hb hm=>go ?_) fun hb hm=>go ?_
  ·refine Wj (col:=ab) (by kernel_rfl) (by kernel_rfl)<|go ?_;obtain ⟨al,ag,hm⟩:=bZ hm;refine qI ag ((h0.ks aa).addr ag)<|qW (fun _ hC=>((h0.ks aa).gr (hC.bl ab)).atInt ag) ?_;refine go ?_;obtain ⟨am,ah,hm⟩:=bZ hm;refine qI ah ((h1.ks aa).addr ah)<|qW (fun _ hC=>((h1.ks aa).gr (hC.bl ab)).atInt ah) ?_;refine go ?_;refine Yn ?_;intro an hC;replace hC:=hC.bl ab;replace aa:=aa.grow hC;refine Zp hm (fun hb hm=>go ?_) fun hb hm=>go ?_
   ·cases hm;exact ⟨rfl,rfl,aa.below⟩
   exact ⟨ac,by omega,rfl,⟨_,_,_,rfl,hm,aa,rfl⟩⟩
  cases hm;exact ⟨rfl,rfl,aa.below⟩
def Zfd (aa:Bool):Option Bool:=
  some aa
def Zh1 (N:Nat) (n0:Nat) (aa:List Int) (ab:List Int):Option Bool:=
  Zx ((0:Int)≤(i64.wrap (((aa.take n0).length:Int)+3))∧(i64.wrap (((aa.take n0).length:Int)+3))≤(aa.length:Int)) ((Ziu N (aa.take n0) ab).bind fun ac=>if ac=true then ((Zk (aa.take (Int.toNat (i64.wrap (((aa.take n0).length:Int)+3)))) ((aa.take n0).length:Int)).bind fun ad=>if (decide (ad=(-61)))=true then ((Zk (aa.take (Int.toNat (i64.wrap (((aa.take n0).length:Int)+3)))) (i64.wrap (((aa.take n0).length:Int)+2))).bind fun ae=>Zfd (decide (ae=(-63)))) else (Zfd false)) else (Zfd false))
theorem Zwp {N ac n0 al:Nat} {a0 a1:Option Addr} {col:Zd} {w0:World} {ab ad:R2} {r:Bool} (hm:Zh1 N n0 ab ad=some r) (h0:Sl (Za.int .i64) col w0 a0 ac ab) (h1:Sl (Za.int .i64) col w0 a1 al ad):
    Calls Tryz.prog 26 #[.slice a0 ((ab.take n0).length) ac,.slice a1 ad.length al] w0 (fun e w'=>e= .returned ((.bool r))∧Below w0.heap.size w0 w'):=by
 refine Xb 4 (m:=31) func26 rfl rfl rfl rfl rfl ?_;rw [Zh1.eq_1] at hm;have aa:=St.start col w0;refine go ?_;obtain ⟨ae,hm⟩:=Zz hm;replace h0:=h0.keep (Zj.start col w0);refine lv (v:=.slice a0 (Int.toNat (i64.wrap (((ab.take n0).length:Int)+3))) ac) rfl rfl (Vu underlying40 sizeOf3 rfl rfl ae.1 (by have:=(h0.ks aa).1.2;have:=ae.2;omega))<|.ld (d:=10) (v:=(.slice a0 ((ab.take (Int.toNat (i64.wrap (((ab.take n0).length:Int)+3)))).length) ac)) (congrArg (fun n=>Value.slice a0 n ac) (List.length_take_of_le (show (Int.toNat (i64.wrap (((ab.take n0).length:Int)+3)))≤ab.length by have:=ae.2;omega)).symm) ?_;refine T5 rfl<|Zl<|Zu ?_;replace h1:=h1.keep (Zj.start col w0);refine Wp.cutK [1000000] (fun f am=>∃ an af,Zfd af=some r∧St w0 (Zi col) an am∧[4].map f=[.bool af]) ?_ ?_
 ·intro f am hJ;obtain ⟨an,af,hm,aa,hs⟩:=hJ;rw [Zfd.eq_1] at hm;refine .lL [4] hs<|Y4 ?_;cases hm;exact ⟨rfl,rfl,aa.below⟩
 refine go ?_;obtain ⟨au,ao,hm⟩:=bZ hm;refine Zh (Zxu ao ((h0.ks aa).take n0) (h1.ks aa)) ?_;rintro _ ap ⟨rfl,ag⟩;refine ⟨_,rfl,?_⟩;replace ag:Zf (Zi col) w0 (Zi col) ap:=.of_below ag;refine Xt rfl ?_;replace aa:=aa.grow ag;refine Xr hm (fun ah hm=>go ?_) fun ah hm=>go ?_
 ·obtain ⟨aq,ai,hm⟩:=bZ hm;refine lI ai (((h0.ks aa).take (Int.toNat (i64.wrap (((ab.take n0).length:Int)+3)))).addr ai) ?_;refine go ?_;refine lW (((h0.ks aa).take (Int.toNat (i64.wrap (((ab.take n0).length:Int)+3)))).atInt ai)<|go ?_;refine lV (.bool (decide (aq=(-61)))) (Z6 (congrArg Value.bool ah) rfl)<|Xt rfl ?_;refine Xr hm (fun aj hm=>go ?_) fun aj hm=>go ?_
  ·obtain ⟨ar,ak,hm⟩:=bZ hm;refine lI ak (((h0.ks aa).take (Int.toNat (i64.wrap (((ab.take n0).length:Int)+3)))).addr ak) ?_;refine go ?_;refine lW (((h0.ks aa).take (Int.toNat (i64.wrap (((ab.take n0).length:Int)+3)))).atInt ak)<|go ?_;refine lV (.bool (decide (ar=(-63)))) (Z6 (congrArg Value.bool aj) rfl)<|go ?_;exact ⟨rfl,_,_,hm,aa,rfl⟩
  refine lV (.bool false) (Xg (congrArg Value.bool aj) rfl)<|go ?_;exact ⟨rfl,_,_,hm,aa,rfl⟩
 refine lV (.bool false) (Xg (congrArg Value.bool ah) rfl)<|Xt rfl<|lP 22 rfl rfl<|lP 22 rfl rfl<|lP 22 rfl rfl<|lP 22 rfl rfl<|lP 22 rfl rfl<|lP 22 rfl rfl<|lP 22 rfl rfl<|lV (.bool false) (Xg rfl rfl)<|go ?_;exact ⟨rfl,_,_,hm,aa,rfl⟩
def Zae (aa:Bool):Option Bool:=
  some aa
def Zad (N:Nat) (af:R1) (aa:Re) (ab:R3) (ag:R5) (ac:Re) (ad:Re) (ah:Bool):Option Bool:=
  if ah=true then (some false) else ((Zgt N [((ac.1.1.1.1,ac.1.1.1.2),ac.1.1.2),((ac.1.2.1.1,ac.1.2.1.2),ac.1.2.2)]).bind fun ai=>(Zct N (ab.1,ab.2.1.2.take ab.2.1.1,ab.2.2.1.map Xf,ab.2.2.2.1.map Xf,ab.2.2.2.2.map (Vf (Prod.map (Prod.map id Xf) Xf))) (ag.2.take ag.1)).bind fun ae=>if ai.1=true then ((Ug N ((ad.1.1.1.1,ad.1.1.1.2),ad.1.1.2) ((aa.1.1.1.1,aa.1.1.1.2),aa.1.1.2)).bind fun aj=>if aj=true then ((Ug N ((ad.1.2.1.1,ad.1.2.1.2),ad.1.2.2) ((aa.1.2.1.1,aa.1.2.1.2),aa.1.2.2)).bind fun ak=>if ak=true then ((Ug N ((ae.1.1.1.1,ae.1.1.1.2),ae.1.1.2) ((aa.1.1.1.1,aa.1.1.1.2),aa.1.1.2)).bind fun al=>if al=true then ((Ug N ((ae.1.2.1.1,ae.1.2.1.2),ae.1.2.2) ((aa.1.2.1.1,aa.1.2.1.2),aa.1.2.2)).bind fun am=>if am=true then ((Zdy N (ab.1,(ab.2.1.1,ab.2.1.2),ab.2.2.1,ab.2.2.2.1,ab.2.2.2.2) (af.1,af.2.1,af.2.2.1,af.2.2.2.1,af.2.2.2.2)).bind fun an=>Zae an) else (Zae false)) else (Zae false)) else (Zae false)) else (Zae false)) else (Zae false))
def Zkd (N:Nat) (aa:R1) (ag:List Int):Option Bool:=
  (Zh0 N (aa.1,aa.2.1,aa.2.2.1,aa.2.2.2.1,aa.2.2.2.2)).bind fun ah=>if ah=true then (some true) else ((Zgx N (aa.1,aa.2.1,aa.2.2.1,aa.2.2.2.1,aa.2.2.2.2) ag).bind fun ac=>(Zgu N (aa.1,aa.2.1,aa.2.2.1,aa.2.2.2.1,aa.2.2.2.2)).bind fun ab=>(Zhz ag).bind fun ae=>(Zct N (ab.1,ab.2.1.2.take ab.2.1.1,ab.2.2.1.map Xf,ab.2.2.2.1.map Xf,ab.2.2.2.2.map (Vf (Prod.map (Prod.map id Xf) Xf))) (ae.2.take ae.1)).bind fun ad=>(Zct N (ab.1,ab.2.1.2.take ab.2.1.1,ab.2.2.1.map Xf,ab.2.2.2.1.map Xf,ab.2.2.2.2.map (Vf (Prod.map (Prod.map id Xf) Xf))) (ae.2.take ae.1)).bind fun af=>if (!decide (ad.2=ac.2))=true then (Zad N aa ac ab ae ad af true) else (if (!decide (af.2=ac.2))=true then (Zad N aa ac ab ae ad af true) else ((Ug N ((ad.1.1.1.1,ad.1.1.1.2),ad.1.1.2) ((ac.1.1.1.1,ac.1.1.1.2),ac.1.1.2)).bind fun ai=>if (!ai)=true then (Zad N aa ac ab ae ad af true) else ((Ug N ((ad.1.2.1.1,ad.1.2.1.2),ad.1.2.2) ((ac.1.2.1.1,ac.1.2.1.2),ac.1.2.2)).bind fun aj=>if (!aj)=true then (Zad N aa ac ab ae ad af true) else ((Zdy N (ab.1,(ab.2.1.1,ab.2.1.2),ab.2.2.1,ab.2.2.2.1,ab.2.2.2.2) (aa.1,aa.2.1,aa.2.2.1,aa.2.2.2.1,aa.2.2.2.2)).bind fun ak=>if (!ak)=true then (Zad N aa ac ab ae ad af true) else ((Zh1 N ae.1 ae.2 ag).bind fun al=>Zad N aa ac ab ae ad af (!al)))))))
theorem Zwm (N:Nat) (col:Zd) (w0:World) (dd:Option Addr) (de:Nat) (df:Option Addr) (dg:Nat) (dh:Option Addr) (di:Nat) (dj:Option Addr) (dk:Nat) (bp:R1) (a1:Option Addr) (d9:Nat) (dl:List Int) (cj:Sl Za.str col w0 dd de bp.2.1) (ck:Sl (Za.slice Za.str) col w0 df dg bp.2.2.1) (cl:Sl (Za.slice (Za.int .i64)) col w0 dh di bp.2.2.2.1) (cn:Sl (Za.slice (Za.pair (Za.pair Za.bool (Za.slice (Za.int .u32))) (Za.slice (Za.int .u32)))) col w0 dj dk bp.2.2.2.2) (h1:Sl (Za.int .i64) col w0 a1 d9 dl) (r:Bool) (hm:Zkd N bp dl=some r):
    Calls Tryz.prog 4 #[(.agg #[.string bp.1,.slice dd bp.2.1.length de,.slice df bp.2.2.1.length dg,.slice dh bp.2.2.2.1.length di,.slice dj bp.2.2.2.2.length dk]),.slice a1 dl.length d9] w0 (fun e w'=>e= .returned ((.bool r))∧Below w0.heap.size w0 w'):=by
 refine Xb 4 (m:=122) func4 rfl rfl rfl rfl rfl ?_;rw [Zkd.eq_1] at hm;have ab:=St.start col w0;refine go ?_;refine Xh (col:=(Zi col)) 1 rfl ?_;intro en eo ea ep aj;refine go ?_;refine lV _ (Xj isAgg27 sizeOf27 aj) ?_;obtain ⟨gt,eq,hm⟩:=bZ hm;replace cj:=cj.keep (Zj.start col w0);replace ck:=ck.keep (Zj.start col w0);replace cl:=cl.keep (Zj.start col w0);replace cn:=cn.keep (Zj.start col w0);replace ab:=ab.grow ep;refine Zh (Zwo eq (cj.ks ab) (ck.ks ab) (cl.ks ab) (cn.ks ab)) ?_;rintro _ er ⟨rfl,dc⟩;refine ⟨_,rfl,?_⟩;replace dc:Zf ea eo ea er:=.of_below dc;refine Zl ?_;replace h1:=h1.keep (Zj.start col w0);replace aj:=aj.gr dc;replace ab:=ab.grow dc;refine Zp hm (fun hb hm=>go ?_) fun hb hm=>go ?_
 ·cases hm;exact ⟨rfl,rfl,ab.below⟩
 refine lV _ (Xj isAgg27 sizeOf27 aj)<|Y2 rfl ?_;obtain ⟨ad,es,hm⟩:=bZ hm;refine Zh (Zxw es (cj.ks ab) (ck.ks ab) (cl.ks ab) (cn.ks ab) (h1.ks ab)) ?_;rintro _ gu ⟨et,co,cp,cq,cr,ct,cu,cv,cw,rfl,eb,an,ao,al,am⟩;refine ⟨_,rfl,?_⟩;refine lM (.tuple #[(.agg #[.bool ad.1.1.1.1,.slice co ad.1.1.1.2.length cp,.slice cq ad.1.1.2.length cr,.bool ad.1.2.1.1,.slice ct ad.1.2.1.2.length cu,.slice cv ad.1.2.2.length cw]),.int .i64 ad.2])<|lV (.agg #[.bool ad.1.1.1.1,.slice co ad.1.1.1.2.length cp,.slice cq ad.1.1.2.length cr,.bool ad.1.2.1.1,.slice ct ad.1.2.1.2.length cu,.slice cv ad.1.2.2.length cw]) (X2 rfl rfl)<|lV (.int .i64 ad.2) (X2 rfl rfl)<|Xp (col:=et) #[.bool false,.slice none (([]:List Int).length) 0,.slice none (([]:List Int).length) 0,.bool false,.slice none (([]:List Int).length) 0,.slice none (([]:List Int).length) 0] 2 zeroValue49 ?_;intro eu gv gw cy ew;refine Z7 ew ?_;intro gx cz ey ak;refine go ?_;replace aj:=((aj.gr eb).gr cy).kp cz;refine lV _ (Xj isAgg27 sizeOf27 aj) ?_;obtain ⟨aa,ez,hm⟩:=bZ hm;replace ab:=((ab.grow eb).grow cy).kp cz ey;refine Zh (Zxs ez (cj.ks ab) (ck.ks ab) (cl.ks ab) (cn.ks ab)) ?_;rintro _ gy ⟨e0,b9,ca,cb,cc,cd,ce,cf,cg,rfl,cx,ae,af,ag,ah⟩;refine ⟨_,rfl,?_⟩;refine Xp (col:=e0) #[.string (⟨#[]⟩),.slice none (([]:List ByteArray).length) 0,.slice none (([]:List Ra).length) 0,.slice none (([]:List R2).length) 0,(.slice none (([]:List R8).length) 0)] 3 zeroValue27 ?_;intro e1 gz g0 bs e2;refine Z7 e2 ?_;intro g1 bt e3 ai;refine go ?_;obtain ⟨c3,e4,hm⟩:=bZ hm;replace ab:=((ab.grow cx).grow bs).kp bt e3;refine Zh (Zwn 4 e4 (h1.ks ab)) ?_;rintro _ e5 ⟨c0,e6,e7,rfl,br,aq⟩;refine ⟨_,rfl,go ?_⟩;replace ai:=ai.gr br;refine lV _ (Xj isAgg27 sizeOf27 ai)<|Y2 rfl ?_
 have e8:((.agg #[.string aa.1,.slice b9 ((aa.2.1.2.take aa.2.1.1).length) ca,.slice cb aa.2.2.1.length cc,.slice cd aa.2.2.2.1.length ce,.slice cf aa.2.2.2.2.length cg]):Value)=(.agg #[.string aa.1,(.slice b9 (aa.1,aa.2.1.2.take aa.2.1.1,aa.2.2.1.map Xf,aa.2.2.2.1.map Xf,aa.2.2.2.2.map (Vf (Prod.map (Prod.map id Xf) Xf))).2.1.length ca),(.slice cb (aa.1,aa.2.1.2.take aa.2.1.1,aa.2.2.1.map Xf,aa.2.2.2.1.map Xf,aa.2.2.2.2.map (Vf (Prod.map (Prod.map id Xf) Xf))).2.2.1.length cc),(.slice cd (aa.1,aa.2.1.2.take aa.2.1.1,aa.2.2.1.map Xf,aa.2.2.2.1.map Xf,aa.2.2.2.2.map (Vf (Prod.map (Prod.map id Xf) Xf))).2.2.2.1.length ce),(.slice cf (aa.1,aa.2.1.2.take aa.2.1.1,aa.2.2.1.map Xf,aa.2.2.2.1.map Xf,aa.2.2.2.2.map (Vf (Prod.map (Prod.map id Xf) Xf))).2.2.2.2.length cg)]):=by first | (simp only [List.length_map];done) | simp only [List.length_map,List.take_length]
 obtain ⟨ac,e9,hm⟩:=bZ hm;replace ae:=((ae.gr bs).kp bt).gr br;replace af:=((af.gr bs).kp bt).gr br;replace ag:=((ag.gr bs).kp bt).gr br;replace ah:=((ah.gr bs).kp bt).gr br;refine lc rfl rfl (Q1 call24 e8 rfl) (Zl1 5 6 7 8 e9 ((ae.take aa.2.1.1).froz 4) ((af.froz 4).weak Yi.view0) ((ag.froz 4).weak Yi.view0) ((ah.froz 4).weak (Yi.view (Yi.pair (Yi.pair Yi.rfl Yi.view0) Yi.view0))) ((aq.take c3.1).toSlF (Zm.int .i64)):) ?_;rintro _ g2 ⟨fa,bx,bz,b0,b1,b2,b3,b4,b5,rfl,bi,bc,bd,a6,a7⟩;refine ⟨_,rfl,?_⟩;replace bc:=bc.thaw (Zy .u32) bi ((Fz.refl (col:=c0)).froz 4) (by decide);replace bd:=bd.thaw (Zy .u32) bi ((Fz.refl (col:=c0)).froz 4) (by decide);replace a6:=a6.thaw (Zy .u32) bi ((Fz.refl (col:=c0)).froz 4) (by decide);replace a7:=a7.thaw (Zy .u32) bi ((Fz.refl (col:=c0)).froz 4) (by decide);replace bi:=bi.thawR (col:=c0);generalize Xa e5.heap.size c0 fa=fb at *;refine lM (.tuple #[(.agg #[.bool ac.1.1.1.1,.slice bx ac.1.1.1.2.length bz,.slice b0 ac.1.1.2.length b1,.bool ac.1.2.1.1,.slice b2 ac.1.2.1.2.length b3,.slice b4 ac.1.2.2.length b5]),.int .i64 ac.2])<|lV (.agg #[.bool ac.1.1.1.1,.slice bx ac.1.1.1.2.length bz,.slice b0 ac.1.1.2.length b1,.bool ac.1.2.1.1,.slice b2 ac.1.2.1.2.length b3,.slice b4 ac.1.2.2.length b5]) (X2 rfl rfl)<|lV (.int .i64 ac.2) (X2 rfl rfl)<|Xp (col:=fb) #[.bool false,.slice none (([]:List Int).length) 0,.slice none (([]:List Int).length) 0,.bool false,.slice none (([]:List Int).length) 0,.slice none (([]:List Int).length) 0] 9 zeroValue49 ?_;intro fc g3 c1 bn fd;refine Z7 fd ?_;intro fe bo ff be;refine go ?_;replace ai:=((ai.gr bi).gr bn).kp bo;refine lV _ (Xj isAgg27 sizeOf27 ai)<|Y2 rfl ?_
 have fg:((.agg #[.string aa.1,.slice b9 ((aa.2.1.2.take aa.2.1.1).length) ca,.slice cb aa.2.2.1.length cc,.slice cd aa.2.2.2.1.length ce,.slice cf aa.2.2.2.2.length cg]):Value)=(.agg #[.string aa.1,(.slice b9 (aa.1,aa.2.1.2.take aa.2.1.1,aa.2.2.1.map Xf,aa.2.2.2.1.map Xf,aa.2.2.2.2.map (Vf (Prod.map (Prod.map id Xf) Xf))).2.1.length ca),(.slice cb (aa.1,aa.2.1.2.take aa.2.1.1,aa.2.2.1.map Xf,aa.2.2.2.1.map Xf,aa.2.2.2.2.map (Vf (Prod.map (Prod.map id Xf) Xf))).2.2.1.length cc),(.slice cd (aa.1,aa.2.1.2.take aa.2.1.1,aa.2.2.1.map Xf,aa.2.2.2.1.map Xf,aa.2.2.2.2.map (Vf (Prod.map (Prod.map id Xf) Xf))).2.2.2.1.length ce),(.slice cf (aa.1,aa.2.1.2.take aa.2.1.1,aa.2.2.1.map Xf,aa.2.2.2.1.map Xf,aa.2.2.2.2.map (Vf (Prod.map (Prod.map id Xf) Xf))).2.2.2.2.length cg)]):=by first | (simp only [List.length_map];done) | simp only [List.length_map,List.take_length]
 obtain ⟨ap,fh,hm⟩:=bZ hm;replace ae:=((ae.gr bi).gr bn).kp bo;replace af:=((af.gr bi).gr bn).kp bo;replace ag:=((ag.gr bi).gr bn).kp bo;replace ah:=((ah.gr bi).gr bn).kp bo;replace aq:=((aq.gr bi).gr bn).kp bo;refine lc rfl rfl (Q1 call24 fg rfl) (Zl1 10 11 12 13 fh ((ae.take aa.2.1.1).froz 4) ((af.froz 4).weak Yi.view0) ((ag.froz 4).weak Yi.view0) ((ah.froz 4).weak (Yi.view (Yi.pair (Yi.pair Yi.rfl Yi.view0) Yi.view0))) ((aq.take c3.1).toSlF (Zm.int .i64)):) ?_;rintro _ g4 ⟨fi,c4,c5,c6,c7,c8,c9,da,db,rfl,a5,av,aw,ar,au⟩;refine ⟨_,rfl,?_⟩;replace av:=av.thaw (Zy .u32) a5 ((Fz.refl (col:=c1)).froz 4) (by decide);replace aw:=aw.thaw (Zy .u32) a5 ((Fz.refl (col:=c1)).froz 4) (by decide);replace ar:=ar.thaw (Zy .u32) a5 ((Fz.refl (col:=c1)).froz 4) (by decide);replace au:=au.thaw (Zy .u32) a5 ((Fz.refl (col:=c1)).froz 4) (by decide);replace a5:=a5.thawR (col:=c1);generalize Xa fe.heap.size c1 fi=fj at *;refine lM (.tuple #[(.agg #[.bool ap.1.1.1.1,.slice c4 ap.1.1.1.2.length c5,.slice c6 ap.1.1.2.length c7,.bool ap.1.2.1.1,.slice c8 ap.1.2.1.2.length c9,.slice da ap.1.2.2.length db]),.int .i64 ap.2])<|lV (.agg #[.bool ap.1.1.1.1,.slice c4 ap.1.1.1.2.length c5,.slice c6 ap.1.1.2.length c7,.bool ap.1.2.1.1,.slice c8 ap.1.2.1.2.length c9,.slice da ap.1.2.2.length db]) (X2 rfl rfl)<|lV (.int .i64 ap.2) (X2 rfl rfl)<|Xp (col:=fj) #[.bool false,.slice none (([]:List Int).length) 0,.slice none (([]:List Int).length) 0,.bool false,.slice none (([]:List Int).length) 0,.slice none (([]:List Int).length) 0] 14 zeroValue49 ?_;intro fk g5 ch a9 fl;refine Z7 fl ?_;intro fm ba fn ax;refine Yt rfl<|Zl<|Zu<|Zu ?_;replace an:=(((((((((((an.gr cy).kp cz).gr cx).gr bs).kp bt).gr br).gr bi).gr bn).kp bo).gr a5).gr a9).kp ba;replace ao:=(((((((((((ao.gr cy).kp cz).gr cx).gr bs).kp bt).gr br).gr bi).gr bn).kp bo).gr a5).gr a9).kp ba;replace al:=(((((((((((al.gr cy).kp cz).gr cx).gr bs).kp bt).gr br).gr bi).gr bn).kp bo).gr a5).gr a9).kp ba
 replace am:=(((((((((((am.gr cy).kp cz).gr cx).gr bs).kp bt).gr br).gr bi).gr bn).kp bo).gr a5).gr a9).kp ba;replace aj:=(((((((((aj.gr cx).gr bs).kp bt).gr br).gr bi).gr bn).kp bo).gr a5).gr a9).kp ba;replace ak:=(((((((((ak.gr cx).gr bs).kp bt).gr br).gr bi).gr bn).kp bo).gr a5).gr a9).kp ba;replace ab:=((((((ab.grow br).grow bi).grow bn).kp bo ff).grow a5).grow a9).kp ba fn;replace bc:=((((bc.gr bn).kp bo).gr a5).gr a9).kp ba;replace bd:=((((bd.gr bn).kp bo).gr a5).gr a9).kp ba;replace a6:=((((a6.gr bn).kp bo).gr a5).gr a9).kp ba;replace a7:=((((a7.gr bn).kp bo).gr a5).gr a9).kp ba;replace ae:=((ae.gr a5).gr a9).kp ba;replace af:=((af.gr a5).gr a9).kp ba;replace ag:=((ag.gr a5).gr a9).kp ba;replace ah:=((ah.gr a5).gr a9).kp ba;replace aq:=((aq.gr a5).gr a9).kp ba;replace ai:=((ai.gr a5).gr a9).kp ba;replace be:=((be.gr a5).gr a9).kp ba;replace av:=(av.gr a9).kp ba;replace aw:=(aw.gr a9).kp ba;replace ar:=(ar.gr a9).kp ba;replace au:=(au.gr a9).kp ba
 refine Wp.cutK [11,2,5,7,8,9,1000000] (fun f az=>∃ ay dm,Zad N bp ad aa c3 ac ap dm=some r∧St w0 (Zi col) ay az∧Zc (Za.int .u32) 79 10 ay az c4 c5 ap.1.1.1.2∧Zc (Za.int .u32) 79 11 ay az c6 c7 ap.1.1.2∧Zc (Za.int .u32) 79 12 ay az c8 c9 ap.1.2.1.2∧Zc (Za.int .u32) 79 13 ay az da db ap.1.2.2∧Zn 49 14 ay az fk #[.bool ap.1.1.1.1,.slice c4 ap.1.1.1.2.length c5,.slice c6 ap.1.1.2.length c7,.bool ap.1.2.1.1,.slice c8 ap.1.2.1.2.length c9,.slice da ap.1.2.2.length db]∧Zn 27 1 ay az en #[.string bp.1,.slice dd bp.2.1.length de,.slice df bp.2.2.1.length dg,.slice dh bp.2.2.2.1.length di,.slice dj bp.2.2.2.2.length dk]∧Sl (Za.int .u32) ay az co cp ad.1.1.1.2∧Sl (Za.int .u32) ay az cq cr ad.1.1.2∧Sl (Za.int .u32) ay az ct cu ad.1.2.1.2∧Sl (Za.int .u32) ay az cv cw ad.1.2.2∧Zn 49 2 ay az eu #[.bool ad.1.1.1.1,.slice co ad.1.1.1.2.length cp,.slice cq ad.1.1.2.length cr,.bool ad.1.2.1.1,.slice ct ad.1.2.1.2.length cu,.slice cv ad.1.2.2.length cw]∧Sl Za.str ay az b9 ca aa.2.1.2∧Sl (Za.view Za.str) ay az cb cc aa.2.2.1∧Sl (Za.view (Za.int .i64)) ay az cd ce aa.2.2.2.1∧Sl (Za.view (Za.pair (Za.pair Za.bool (Za.view (Za.int .u32))) (Za.view (Za.int .u32)))) ay az cf cg aa.2.2.2.2∧Zn 27 3 ay az e1 #[.string aa.1,.slice b9 ((aa.2.1.2.take aa.2.1.1).length) ca,.slice cb aa.2.2.1.length cc,.slice cd aa.2.2.2.1.length ce,.slice cf aa.2.2.2.2.length cg]∧Zc (Za.int .i64) 3 4 ay az e6 e7 c3.2∧Zc (Za.int .u32) 79 5 ay az bx bz ac.1.1.1.2∧Zc (Za.int .u32) 79 6 ay az b0 b1 ac.1.1.2∧Zc (Za.int .u32) 79 7 ay az b2 b3 ac.1.2.1.2∧Zc (Za.int .u32) 79 8 ay az b4 b5 ac.1.2.2∧Zn 49 9 ay az fc #[.bool ac.1.1.1.1,.slice bx ac.1.1.1.2.length bz,.slice b0 ac.1.1.2.length b1,.bool ac.1.2.1.1,.slice b2 ac.1.2.1.2.length b3,.slice b4 ac.1.2.2.length b5]∧[75].map f=[.bool dm]) ?_ ?_
 ·intro f az hJ;obtain ⟨ay,dm,hm,ab,av,aw,ar,au,ax,aj,an,ao,al,am,ak,ae,af,ag,ah,ai,aq,bc,bd,a6,a7,be,hs⟩:=hJ;rw [Zad.eq_1] at hm;refine .lL [75] hs ?_;refine Zp hm (fun hb hm=>go ?_) fun hb hm=>go ?_
  ·cases hm;exact ⟨rfl,rfl,ab.below⟩
  refine Z3 ⟨_,_,rfl⟩ ?_;refine lV (.agg #[.bool ac.1.1.1.1,.slice bx ac.1.1.1.2.length bz,.slice b0 ac.1.1.2.length b1]) (Xq isAgg47 sizeOf47 rfl rfl ((be.atN).part 0 3 _ rfl))<|Z3 ⟨_,_,rfl⟩ ?_;refine lV (.agg #[.bool ac.1.2.1.1,.slice b2 ac.1.2.1.2.length b3,.slice b4 ac.1.2.2.length b5]) (Xq isAgg47 sizeOf47 rfl rfl ((be.atN).part 3 3 _ rfl)) ?_;have fp:=X3.join (X3.joinL (Tq ac.1.1.1.1) bc.has) bd.has (by decide) (by decide);replace av:=av.recol 6 5 (by decide);replace aw:=aw.recol 6 5 (by decide);replace ar:=ar.recol 6 5 (by decide);replace au:=au.recol 6 5 (by decide);replace an:=an.recol 6 5 (by decide);replace ao:=ao.recol 6 5 (by decide);replace al:=al.recol 6 5 (by decide);replace am:=am.recol 6 5 (by decide);replace ae:=ae.recol 6 5 (by decide);replace af:=af.recol 6 5 (by decide);replace ag:=ag.recol 6 5 (by decide);replace ah:=ah.recol 6 5 (by decide);replace aq:=aq.recol 6 5 (by decide);replace a6:=a6.recol 6 5 (by decide);replace a7:=a7.recol 6 5 (by decide);replace ax:=ax.recol 6 5 (by decide);replace aj:=aj.recol 6 5 (by decide);replace ak:=ak.recol 6 5 (by decide);replace ai:=ai.recol 6 5 (by decide);replace ab:=ab.recol 6 5 (by decide) (by decide);have dn:X3 (Za.pair (Za.pair Za.bool (Za.row 79 (Za.int .u32))) (Za.row 79 (Za.int .u32))) 5 (Xw 6 5 ay) az [.bool ac.1.1.1.1,.slice bx ac.1.1.1.2.length bz,.slice b0 ac.1.1.2.length b1] ((ac.1.1.1.1,ac.1.1.1.2),ac.1.1.2):=fp;have fq:=X3.join (X3.joinL (Tq ac.1.2.1.1) a6.has) a7.has (by decide) (by decide);replace av:=av.recol 8 7 (by decide);replace aw:=aw.recol 8 7 (by decide);replace ar:=ar.recol 8 7 (by decide);replace au:=au.recol 8 7 (by decide);replace an:=an.recol 8 7 (by decide);replace ao:=ao.recol 8 7 (by decide);replace al:=al.recol 8 7 (by decide);replace am:=am.recol 8 7 (by decide);replace ae:=ae.recol 8 7 (by decide);replace af:=af.recol 8 7 (by decide);replace ag:=ag.recol 8 7 (by decide);replace ah:=ah.recol 8 7 (by decide);replace aq:=aq.recol 8 7 (by decide);replace ax:=ax.recol 8 7 (by decide);replace aj:=aj.recol 8 7 (by decide);replace ak:=ak.recol 8 7 (by decide);replace ai:=ai.recol 8 7 (by decide);replace ab:=ab.recol 8 7 (by decide) (by decide);replace dn:=dn.recol 8 7 (by decide)
  have fr:X3 (Za.pair (Za.pair Za.bool (Za.row 79 (Za.int .u32))) (Za.row 79 (Za.int .u32))) 7 (Xw 8 7 (Xw 6 5 ay)) az [.bool ac.1.2.1.1,.slice b2 ac.1.2.1.2.length b3,.slice b4 ac.1.2.2.length b5] ((ac.1.2.1.1,ac.1.2.1.2),ac.1.2.2):=fq;have ft:=Wt.cons (cs:=[.bool ac.1.1.1.1,.slice bx ac.1.1.1.2.length bz,.slice b0 ac.1.1.2.length b1]) dn (Wt.cons1 (cs:=[.bool ac.1.2.1.1,.slice b2 ac.1.2.1.2.length b3,.slice b4 ac.1.2.2.length b5]) fr Rows.nil0) (by decide) (by decide);replace av:=av.recol 5 7 (by decide);replace aw:=aw.recol 5 7 (by decide);replace ar:=ar.recol 5 7 (by decide);replace au:=au.recol 5 7 (by decide);replace an:=an.recol 5 7 (by decide);replace ao:=ao.recol 5 7 (by decide);replace al:=al.recol 5 7 (by decide);replace am:=am.recol 5 7 (by decide);replace ae:=ae.recol 5 7 (by decide);replace af:=af.recol 5 7 (by decide);replace ag:=ag.recol 5 7 (by decide);replace ah:=ah.recol 5 7 (by decide);replace aq:=aq.recol 5 7 (by decide);replace ax:=ax.recol 5 7 (by decide);replace aj:=aj.recol 5 7 (by decide);replace ak:=ak.recol 5 7 (by decide);replace ai:=ai.recol 5 7 (by decide);replace ab:=ab.recol 5 7 (by decide) (by decide);refine Q8 (col:=(Xw 5 7 (Xw 8 7 (Xw 6 5 ay)))) (r:=(Za.pair (Za.pair Za.bool (Za.row 79 (Za.int .u32))) (Za.row 79 (Za.int .u32)))) (xs:=[((ac.1.1.1.1,ac.1.1.1.2),ac.1.1.2),((ac.1.2.1.1,ac.1.2.1.2),ac.1.2.2)]) [(.agg #[.bool ac.1.1.1.1,.slice bx ac.1.1.1.2.length bz,.slice b0 ac.1.1.2.length b1]),(.agg #[.bool ac.1.2.1.1,.slice b2 ac.1.2.1.2.length b3,.slice b4 ac.1.2.2.length b5])] 7 ft ?_;intro ec g6 g7 bk fu;obtain ⟨ed,fv,hm⟩:=bZ hm;refine Zh (Zxr 7 fv rfl fu) ?_;rintro _ fw ⟨c2,rfl,bm,g8,fx⟩;refine ⟨_,rfl,?_⟩;refine .ld (d:=80) (v:=(.slice ec ed.2.length 2)) (congrArg (fun n=>Value.slice ec n 2) (show [((ac.1.1.1.1,ac.1.1.1.2),ac.1.1.2),((ac.1.2.1.1,ac.1.2.1.2),ac.1.2.2)].length=ed.2.length from fx.symm)) ?_;refine go ?_;replace ai:=(ai.gr bk).kpp bm;refine lV _ (Xj isAgg27 sizeOf27 ai)<|Y2 rfl ?_
  have fy:((.agg #[.string aa.1,.slice b9 ((aa.2.1.2.take aa.2.1.1).length) ca,.slice cb aa.2.2.1.length cc,.slice cd aa.2.2.2.1.length ce,.slice cf aa.2.2.2.2.length cg]):Value)=(.agg #[.string aa.1,(.slice b9 (aa.1,aa.2.1.2.take aa.2.1.1,aa.2.2.1.map Xf,aa.2.2.2.1.map Xf,aa.2.2.2.2.map (Vf (Prod.map (Prod.map id Xf) Xf))).2.1.length ca),(.slice cb (aa.1,aa.2.1.2.take aa.2.1.1,aa.2.2.1.map Xf,aa.2.2.2.1.map Xf,aa.2.2.2.2.map (Vf (Prod.map (Prod.map id Xf) Xf))).2.2.1.length cc),(.slice cd (aa.1,aa.2.1.2.take aa.2.1.1,aa.2.2.1.map Xf,aa.2.2.2.1.map Xf,aa.2.2.2.2.map (Vf (Prod.map (Prod.map id Xf) Xf))).2.2.2.1.length ce),(.slice cf (aa.1,aa.2.1.2.take aa.2.1.1,aa.2.2.1.map Xf,aa.2.2.2.1.map Xf,aa.2.2.2.2.map (Vf (Prod.map (Prod.map id Xf) Xf))).2.2.2.2.length cg)]):=by first | (simp only [List.length_map];done) | simp only [List.length_map,List.take_length]
  obtain ⟨bh,fz,hm⟩:=bZ hm;replace ae:=(ae.gr bk).kpp bm;replace af:=(af.gr bk).kpp bm;replace ag:=(ag.gr bk).kpp bm;replace ah:=(ah.gr bk).kpp bm;replace aq:=(aq.gr bk).kpp bm;refine lc rfl rfl (Q1 call24 fy rfl) (Zl1 15 16 17 18 fz ((ae.take aa.2.1.1).froz 4) ((af.froz 4).weak Yi.view0) ((ag.froz 4).weak Yi.view0) ((ah.froz 4).weak (Yi.view (Yi.pair (Yi.pair Yi.rfl Yi.view0) Yi.view0))) ((aq.take c3.1).toSlF (Zm.int .i64)):) ?_;rintro _ g9 ⟨f0,dp,dq,dr,ds,dt,du,dv,dw,rfl,a8,b6,b7,bu,bv⟩;refine ⟨_,rfl,?_⟩;replace b6:=b6.thaw (Zy .u32) a8 ((Fz.refl (col:=c2)).froz 4) (by decide);replace b7:=b7.thaw (Zy .u32) a8 ((Fz.refl (col:=c2)).froz 4) (by decide);replace bu:=bu.thaw (Zy .u32) a8 ((Fz.refl (col:=c2)).froz 4) (by decide);replace bv:=bv.thaw (Zy .u32) a8 ((Fz.refl (col:=c2)).froz 4) (by decide);replace a8:=a8.thawR (col:=c2);generalize Xa fw.heap.size c2 f0=f1 at *;refine lM (.tuple #[(.agg #[.bool bh.1.1.1.1,.slice dp bh.1.1.1.2.length dq,.slice dr bh.1.1.2.length ds,.bool bh.1.2.1.1,.slice dt bh.1.2.1.2.length du,.slice dv bh.1.2.2.length dw]),.int .i64 bh.2])<|lV (.agg #[.bool bh.1.1.1.1,.slice dp bh.1.1.1.2.length dq,.slice dr bh.1.1.2.length ds,.bool bh.1.2.1.1,.slice dt bh.1.2.1.2.length du,.slice dv bh.1.2.2.length dw]) (X2 rfl rfl)<|lV (.int .i64 bh.2) (X2 rfl rfl)<|Xp (col:=f1) #[.bool false,.slice none (([]:List Int).length) 0,.slice none (([]:List Int).length) 0,.bool false,.slice none (([]:List Int).length) 0,.slice none (([]:List Int).length) 0] 19 zeroValue49 ?_;intro ha hc bw bf f2;refine Z7 f2 ?_;intro f3 bg f4 ci;refine Yt rfl<|Zl<|Zu ?_;replace av:=((((av.gr bk).kpp bm).gr a8).gr bf).kp bg;replace aw:=((((aw.gr bk).kpp bm).gr a8).gr bf).kp bg;replace ar:=((((ar.gr bk).kpp bm).gr a8).gr bf).kp bg;replace au:=((((au.gr bk).kpp bm).gr a8).gr bf).kp bg;replace an:=((((an.gr bk).kpp bm).gr a8).gr bf).kp bg;replace ao:=((((ao.gr bk).kpp bm).gr a8).gr bf).kp bg
  replace al:=((((al.gr bk).kpp bm).gr a8).gr bf).kp bg;replace am:=((((am.gr bk).kpp bm).gr a8).gr bf).kp bg;replace ax:=((((ax.gr bk).kpp bm).gr a8).gr bf).kp bg;replace aj:=((((aj.gr bk).kpp bm).gr a8).gr bf).kp bg;replace ak:=((((ak.gr bk).kpp bm).gr a8).gr bf).kp bg;replace ab:=((((ab.grow bk).kpp bm).grow a8).grow bf).kp bg f4;replace ae:=((ae.gr a8).gr bf).kp bg;replace af:=((af.gr a8).gr bf).kp bg;replace ag:=((ag.gr a8).gr bf).kp bg;replace ah:=((ah.gr a8).gr bf).kp bg;replace ai:=((ai.gr a8).gr bf).kp bg;replace b6:=(b6.gr bf).kp bg;replace b7:=(b7.gr bf).kp bg;replace bu:=(bu.gr bf).kp bg;replace bv:=(bv.gr bf).kp bg;refine Wp.cutK [1000000] (fun f ee=>∃ ef dx,Zae dx=some r∧St w0 (Zi col) ef ee∧[4].map f=[.bool dx]) ?_ ?_
  ·intro f ee hJ;obtain ⟨ef,dx,hm,ab,hs⟩:=hJ;rw [Zae.eq_1] at hm;refine .lL [4] hs<|Y4 ?_;cases hm;exact ⟨rfl,rfl,ab.below⟩
  refine go ?_;refine Xr hm (fun dy hm=>go ?_) fun dy hm=>go ?_
  ·refine Z3 ⟨_,_,rfl⟩ ?_;refine go ?_;refine lV (.agg #[.bool ap.1.1.1.1,.slice c4 ap.1.1.1.2.length c5,.slice c6 ap.1.1.2.length c7]) (Xq isAgg47 sizeOf47 rfl rfl ((ax.atN).part 0 3 _ rfl))<|go ?_;refine Z3 ⟨_,_,rfl⟩ ?_;refine go ?_;refine lV (.agg #[.bool ad.1.1.1.1,.slice co ad.1.1.1.2.length cp,.slice cq ad.1.1.2.length cr]) (Xq isAgg47 sizeOf47 rfl rfl ((ak.atN).part 0 3 _ rfl))<|go ?_;obtain ⟨f5,f6,hm⟩:=bZ hm;refine Zh (Zck f6 ((av.toSlF (Zm.int .u32)).froz 11) ((aw.froz 10 (by decide)).toSlF (Zm.int .u32)) ((an.froz 10).froz 11) ((ao.froz 10).froz 11)) ?_;rintro _ eg ⟨rfl,bb⟩;refine ⟨_,rfl,?_⟩;replace bb:Zf bw f3 bw eg:=.of_below bb;refine lV (.bool f5) (Z6 (congrArg Value.bool dy) rfl)<|Xt rfl ?_;replace ar:=ar.gr bb;replace au:=au.gr bb;replace an:=an.gr bb;replace ao:=ao.gr bb;replace al:=al.gr bb;replace am:=am.gr bb;replace ae:=ae.gr bb;replace af:=af.gr bb;replace ag:=ag.gr bb;replace ah:=ah.gr bb;replace b6:=b6.gr bb;replace b7:=b7.gr bb;replace bu:=bu.gr bb;replace bv:=bv.gr bb;replace ax:=ax.gr bb;replace aj:=aj.gr bb;replace ak:=ak.gr bb;replace ai:=ai.gr bb;replace ci:=ci.gr bb;replace ab:=ab.grow bb;refine Xr hm (fun dz hm=>go ?_) fun dz hm=>go ?_
   ·refine Z3 ⟨_,_,rfl⟩ ?_;refine go ?_;refine lV (.agg #[.bool ap.1.2.1.1,.slice c8 ap.1.2.1.2.length c9,.slice da ap.1.2.2.length db]) (Xq isAgg47 sizeOf47 rfl rfl ((ax.atN).part 3 3 _ rfl))<|go ?_;refine Z3 ⟨_,_,rfl⟩ ?_;refine go ?_;refine lV (.agg #[.bool ad.1.2.1.1,.slice ct ad.1.2.1.2.length cu,.slice cv ad.1.2.2.length cw]) (Xq isAgg47 sizeOf47 rfl rfl ((ak.atN).part 3 3 _ rfl))<|go ?_;obtain ⟨f7,f8,hm⟩:=bZ hm;refine Zh (Zck f8 ((ar.toSlF (Zm.int .u32)).froz 13) ((au.froz 12 (by decide)).toSlF (Zm.int .u32)) ((al.froz 12).froz 13) ((am.froz 12).froz 13)) ?_;rintro _ eh ⟨rfl,bj⟩;refine ⟨_,rfl,?_⟩;replace bj:Zf bw eg bw eh:=.of_below bj;refine lV (.bool f7) (Z6 (congrArg Value.bool dz) rfl)<|Xt rfl ?_;replace an:=an.gr bj;replace ao:=ao.gr bj;replace al:=al.gr bj;replace am:=am.gr bj;replace ae:=ae.gr bj;replace af:=af.gr bj;replace ag:=ag.gr bj;replace ah:=ah.gr bj;replace b6:=b6.gr bj;replace b7:=b7.gr bj;replace bu:=bu.gr bj;replace bv:=bv.gr bj;replace aj:=aj.gr bj;replace ak:=ak.gr bj;replace ai:=ai.gr bj;replace ci:=ci.gr bj;replace ab:=ab.grow bj;refine Xr hm (fun d0 hm=>go ?_) fun d0 hm=>go ?_
    ·refine Z3 ⟨_,_,rfl⟩ ?_;refine go ?_;refine lV (.agg #[.bool bh.1.1.1.1,.slice dp bh.1.1.1.2.length dq,.slice dr bh.1.1.2.length ds]) (Xq isAgg47 sizeOf47 rfl rfl ((ci.atN).part 0 3 _ rfl))<|go ?_;refine Z3 ⟨_,_,rfl⟩ ?_;refine go ?_;refine lV (.agg #[.bool ad.1.1.1.1,.slice co ad.1.1.1.2.length cp,.slice cq ad.1.1.2.length cr]) (Xq isAgg47 sizeOf47 rfl rfl ((ak.atN).part 0 3 _ rfl))<|go ?_;obtain ⟨f9,ga,hm⟩:=bZ hm;refine Zh (Zck ga ((b6.toSlF (Zm.int .u32)).froz 16) ((b7.froz 15 (by decide)).toSlF (Zm.int .u32)) ((an.froz 15).froz 16) ((ao.froz 15).froz 16)) ?_;rintro _ ei ⟨rfl,bq⟩;refine ⟨_,rfl,?_⟩;replace bq:Zf bw eh bw ei:=.of_below bq;refine lV (.bool f9) (Z6 (congrArg Value.bool d0) rfl)<|Xt rfl ?_;replace al:=al.gr bq;replace am:=am.gr bq;replace ae:=ae.gr bq;replace af:=af.gr bq;replace ag:=ag.gr bq;replace ah:=ah.gr bq;replace bu:=bu.gr bq;replace bv:=bv.gr bq;replace aj:=aj.gr bq;replace ak:=ak.gr bq;replace ai:=ai.gr bq;replace ci:=ci.gr bq;replace ab:=ab.grow bq;refine Xr hm (fun d1 hm=>go ?_) fun d1 hm=>go ?_
     ·refine Z3 ⟨_,_,rfl⟩ ?_;refine go ?_;refine lV (.agg #[.bool bh.1.2.1.1,.slice dt bh.1.2.1.2.length du,.slice dv bh.1.2.2.length dw]) (Xq isAgg47 sizeOf47 rfl rfl ((ci.atN).part 3 3 _ rfl))<|go ?_;refine Z3 ⟨_,_,rfl⟩ ?_;refine go ?_;refine lV (.agg #[.bool ad.1.2.1.1,.slice ct ad.1.2.1.2.length cu,.slice cv ad.1.2.2.length cw]) (Xq isAgg47 sizeOf47 rfl rfl ((ak.atN).part 3 3 _ rfl))<|go ?_;obtain ⟨gb,gc,hm⟩:=bZ hm;refine Zh (Zck gc ((bu.toSlF (Zm.int .u32)).froz 18) ((bv.froz 17 (by decide)).toSlF (Zm.int .u32)) ((al.froz 17).froz 18) ((am.froz 17).froz 18)) ?_;rintro _ ej ⟨rfl,b8⟩;refine ⟨_,rfl,?_⟩;replace b8:Zf bw ei bw ej:=.of_below b8;refine lV (.bool gb) (Z6 (congrArg Value.bool d1) rfl)<|Xt rfl ?_;replace ae:=ae.gr b8;replace af:=af.gr b8;replace ag:=ag.gr b8;replace ah:=ah.gr b8;replace aj:=aj.gr b8;replace ai:=ai.gr b8;replace ab:=ab.grow b8;refine Xr hm (fun d2 hm=>go ?_) fun d2 hm=>go ?_
      ·refine lV _ (Xj isAgg27 sizeOf27 ai)<|go ?_;refine lV _ (Xj isAgg27 sizeOf27 aj)<|go ?_;obtain ⟨gd,ge,hm⟩:=bZ hm;refine Zh (Zo4 ge ae af ag ah (cj.ks ab) (ck.ks ab) (cl.ks ab) (cn.ks ab)) ?_;rintro _ gf ⟨rfl,d3⟩;refine ⟨_,rfl,?_⟩;replace d3:Zf bw ej bw gf:=.of_below d3;refine lV (.bool gd) (Z6 (congrArg Value.bool d2) rfl)<|go ?_;replace ab:=ab.grow d3;exact ⟨rfl,_,_,hm,ab,rfl⟩
      refine lV (.bool false) (Xg (congrArg Value.bool d2) rfl)<|go ?_;exact ⟨rfl,_,_,hm,ab,rfl⟩
     refine lV (.bool false) (Xg (congrArg Value.bool d1) rfl)<|Xt rfl<|lP 117 rfl rfl<|lP 117 rfl rfl<|lP 117 rfl rfl<|lV (.bool false) (Xg rfl rfl)<|go ?_;exact ⟨rfl,_,_,hm,ab,rfl⟩
    refine lV (.bool false) (Xg (congrArg Value.bool d0) rfl)<|Xt rfl<|lP 110 rfl rfl<|lP 110 rfl rfl<|lP 110 rfl rfl<|lP 110 rfl rfl<|lP 110 rfl rfl<|lV (.bool false) (Xg rfl rfl)<|Xt rfl<|lP 117 rfl rfl<|lP 117 rfl rfl<|lP 117 rfl rfl<|lV (.bool false) (Xg rfl rfl)<|go ?_;exact ⟨rfl,_,_,hm,ab,rfl⟩
   refine lV (.bool false) (Xg (congrArg Value.bool dz) rfl)<|Xt rfl<|lP 103 rfl rfl<|lP 103 rfl rfl<|lP 103 rfl rfl<|lP 103 rfl rfl<|lP 103 rfl rfl<|lV (.bool false) (Xg rfl rfl)<|Xt rfl<|lP 110 rfl rfl<|lP 110 rfl rfl<|lP 110 rfl rfl<|lP 110 rfl rfl<|lP 110 rfl rfl<|lV (.bool false) (Xg rfl rfl)<|Xt rfl<|lP 117 rfl rfl<|lP 117 rfl rfl<|lP 117 rfl rfl<|lV (.bool false) (Xg rfl rfl)<|go ?_;exact ⟨rfl,_,_,hm,ab,rfl⟩
  refine lV (.bool false) (Xg (congrArg Value.bool dy) rfl)<|Xt rfl<|lP 96 rfl rfl<|lP 96 rfl rfl<|lP 96 rfl rfl<|lP 96 rfl rfl<|lP 96 rfl rfl<|lV (.bool false) (Xg rfl rfl)<|Xt rfl<|lP 103 rfl rfl<|lP 103 rfl rfl<|lP 103 rfl rfl<|lP 103 rfl rfl<|lP 103 rfl rfl<|lV (.bool false) (Xg rfl rfl)<|Xt rfl<|lP 110 rfl rfl<|lP 110 rfl rfl<|lP 110 rfl rfl<|lP 110 rfl rfl<|lP 110 rfl rfl<|lV (.bool false) (Xg rfl rfl)<|Xt rfl<|lP 117 rfl rfl<|lP 117 rfl rfl<|lP 117 rfl rfl<|lV (.bool false) (Xg rfl rfl)<|go ?_;exact ⟨rfl,_,_,hm,ab,rfl⟩
 refine go ?_;refine Xr hm (fun d4 hm=>go ?_) fun d4 hm=>go ?_
 ·refine lV (.bool true) (Z6 (congrArg Value.bool d4) rfl)<|Xt rfl<|lP 48 rfl rfl<|lP 48 rfl rfl<|lP 48 rfl rfl<|lP 48 rfl rfl<|lP 48 rfl rfl<|lP 48 rfl rfl<|lV (.bool true) (Z6 rfl rfl)<|Xt rfl<|lP 56 rfl rfl<|lP 56 rfl rfl<|lP 56 rfl rfl<|lP 56 rfl rfl<|lP 56 rfl rfl<|lP 56 rfl rfl<|lV (.bool true) (Z6 rfl rfl)<|Xt rfl<|lP 64 rfl rfl<|lP 64 rfl rfl<|lP 64 rfl rfl<|lP 64 rfl rfl<|lV (.bool true) (Z6 rfl rfl)<|Xt rfl<|lP 70 rfl rfl<|lP 70 rfl rfl<|lP 70 rfl rfl<|lP 70 rfl rfl<|lV (.bool true) (Z6 rfl rfl)<|Zl ?_;exact ⟨rfl,_,_,hm,ab,av,aw,ar,au,ax,aj,an,ao,al,am,ak,ae,af,ag,ah,ai,aq,bc,bd,a6,a7,be,rfl⟩
 refine lV (.bool (!decide (ap.2=ad.2))) (Xg (congrArg Value.bool d4) rfl)<|Xt rfl ?_;refine Xr hm (fun d5 hm=>go ?_) fun d5 hm=>go ?_
 ·refine lV (.bool true) (Z6 (congrArg Value.bool d5) rfl)<|Xt rfl<|lP 56 rfl rfl<|lP 56 rfl rfl<|lP 56 rfl rfl<|lP 56 rfl rfl<|lP 56 rfl rfl<|lP 56 rfl rfl<|lV (.bool true) (Z6 rfl rfl)<|Xt rfl<|lP 64 rfl rfl<|lP 64 rfl rfl<|lP 64 rfl rfl<|lP 64 rfl rfl<|lV (.bool true) (Z6 rfl rfl)<|Xt rfl<|lP 70 rfl rfl<|lP 70 rfl rfl<|lP 70 rfl rfl<|lP 70 rfl rfl<|lV (.bool true) (Z6 rfl rfl)<|Zl ?_;exact ⟨rfl,_,_,hm,ab,av,aw,ar,au,ax,aj,an,ao,al,am,ak,ae,af,ag,ah,ai,aq,bc,bd,a6,a7,be,rfl⟩
 refine Z3 ⟨_,_,rfl⟩ ?_;refine go ?_;refine lV (.agg #[.bool ac.1.1.1.1,.slice bx ac.1.1.1.2.length bz,.slice b0 ac.1.1.2.length b1]) (Xq isAgg47 sizeOf47 rfl rfl ((be.atN).part 0 3 _ rfl))<|go ?_;refine Z3 ⟨_,_,rfl⟩ ?_;refine go ?_;refine lV (.agg #[.bool ad.1.1.1.1,.slice co ad.1.1.1.2.length cp,.slice cq ad.1.1.2.length cr]) (Xq isAgg47 sizeOf47 rfl rfl ((ak.atN).part 0 3 _ rfl))<|go ?_;obtain ⟨gg,gh,hm⟩:=bZ hm;refine Zh (Zck gh ((bc.toSlF (Zm.int .u32)).froz 6) ((bd.froz 5 (by decide)).toSlF (Zm.int .u32)) ((an.froz 5).froz 6) ((ao.froz 5).froz 6)) ?_;rintro _ ek ⟨rfl,a0⟩;refine ⟨_,rfl,?_⟩;replace a0:Zf ch fm ch ek:=.of_below a0;refine go ?_;refine lV (.bool (!gg)) (Xg (congrArg Value.bool d5) rfl)<|Xt rfl ?_;replace an:=an.gr a0;replace ao:=ao.gr a0;replace al:=al.gr a0;replace am:=am.gr a0;replace ae:=ae.gr a0;replace af:=af.gr a0;replace ag:=ag.gr a0;replace ah:=ah.gr a0;replace aq:=aq.gr a0;replace bc:=bc.gr a0;replace bd:=bd.gr a0;replace a6:=a6.gr a0;replace a7:=a7.gr a0;replace av:=av.gr a0;replace aw:=aw.gr a0;replace ar:=ar.gr a0;replace au:=au.gr a0;replace aj:=aj.gr a0;replace ak:=ak.gr a0;replace ai:=ai.gr a0;replace be:=be.gr a0;replace ax:=ax.gr a0;replace ab:=ab.grow a0;refine Xr hm (fun d6 hm=>go ?_) fun d6 hm=>go ?_
 ·refine lV (.bool true) (Z6 (congrArg Value.bool d6) rfl)<|Xt rfl<|lP 64 rfl rfl<|lP 64 rfl rfl<|lP 64 rfl rfl<|lP 64 rfl rfl<|lV (.bool true) (Z6 rfl rfl)<|Xt rfl<|lP 70 rfl rfl<|lP 70 rfl rfl<|lP 70 rfl rfl<|lP 70 rfl rfl<|lV (.bool true) (Z6 rfl rfl)<|Zl ?_;exact ⟨rfl,_,_,hm,ab,av,aw,ar,au,ax,aj,an,ao,al,am,ak,ae,af,ag,ah,ai,aq,bc,bd,a6,a7,be,rfl⟩
 refine Z3 ⟨_,_,rfl⟩ ?_;refine go ?_;refine lV (.agg #[.bool ac.1.2.1.1,.slice b2 ac.1.2.1.2.length b3,.slice b4 ac.1.2.2.length b5]) (Xq isAgg47 sizeOf47 rfl rfl ((be.atN).part 3 3 _ rfl))<|go ?_;refine Z3 ⟨_,_,rfl⟩ ?_;refine go ?_;refine lV (.agg #[.bool ad.1.2.1.1,.slice ct ad.1.2.1.2.length cu,.slice cv ad.1.2.2.length cw]) (Xq isAgg47 sizeOf47 rfl rfl ((ak.atN).part 3 3 _ rfl))<|go ?_;obtain ⟨gi,gj,hm⟩:=bZ hm;refine Zh (Zck gj ((a6.toSlF (Zm.int .u32)).froz 8) ((a7.froz 7 (by decide)).toSlF (Zm.int .u32)) ((al.froz 7).froz 8) ((am.froz 7).froz 8)) ?_;rintro _ el ⟨rfl,a2⟩;refine ⟨_,rfl,?_⟩;replace a2:Zf ch ek ch el:=.of_below a2;refine go ?_;refine lV (.bool (!gi)) (Xg (congrArg Value.bool d6) rfl)<|Xt rfl ?_;replace an:=an.gr a2;replace ao:=ao.gr a2;replace al:=al.gr a2;replace am:=am.gr a2;replace ae:=ae.gr a2;replace af:=af.gr a2;replace ag:=ag.gr a2;replace ah:=ah.gr a2;replace aq:=aq.gr a2;replace bc:=bc.gr a2;replace bd:=bd.gr a2;replace a6:=a6.gr a2;replace a7:=a7.gr a2;replace av:=av.gr a2;replace aw:=aw.gr a2;replace ar:=ar.gr a2;replace au:=au.gr a2;replace aj:=aj.gr a2;replace ak:=ak.gr a2;replace ai:=ai.gr a2;replace be:=be.gr a2;replace ax:=ax.gr a2;replace ab:=ab.grow a2;refine Xr hm (fun d7 hm=>go ?_) fun d7 hm=>go ?_
 ·refine lV (.bool true) (Z6 (congrArg Value.bool d7) rfl)<|Xt rfl<|lP 70 rfl rfl<|lP 70 rfl rfl<|lP 70 rfl rfl<|lP 70 rfl rfl<|lV (.bool true) (Z6 rfl rfl)<|Zl ?_;exact ⟨rfl,_,_,hm,ab,av,aw,ar,au,ax,aj,an,ao,al,am,ak,ae,af,ag,ah,ai,aq,bc,bd,a6,a7,be,rfl⟩
 refine lV _ (Xj isAgg27 sizeOf27 ai)<|go ?_;refine lV _ (Xj isAgg27 sizeOf27 aj)<|go ?_;obtain ⟨gk,gl,hm⟩:=bZ hm;refine Zh (Zo4 gl ae af ag ah (cj.ks ab) (ck.ks ab) (cl.ks ab) (cn.ks ab)) ?_;rintro _ em ⟨rfl,a3⟩;refine ⟨_,rfl,?_⟩;replace a3:Zf ch el ch em:=.of_below a3;refine go ?_;refine lV (.bool (!gk)) (Xg (congrArg Value.bool d7) rfl)<|Xt rfl ?_;replace an:=an.gr a3;replace ao:=ao.gr a3;replace al:=al.gr a3;replace am:=am.gr a3;replace ae:=ae.gr a3;replace af:=af.gr a3;replace ag:=ag.gr a3;replace ah:=ah.gr a3;replace aq:=aq.gr a3;replace bc:=bc.gr a3;replace bd:=bd.gr a3;replace a6:=a6.gr a3;replace a7:=a7.gr a3;replace av:=av.gr a3;replace aw:=aw.gr a3;replace ar:=ar.gr a3;replace au:=au.gr a3;replace aj:=aj.gr a3;replace ak:=ak.gr a3;replace ai:=ai.gr a3;replace be:=be.gr a3;replace ax:=ax.gr a3;replace ab:=ab.grow a3;refine Xr hm (fun d8 hm=>go ?_) fun d8 hm=>go ?_
 ·refine lV (.bool true) (Z6 (congrArg Value.bool d8) rfl)<|Zl ?_;exact ⟨rfl,_,_,hm,ab,av,aw,ar,au,ax,aj,an,ao,al,am,ak,ae,af,ag,ah,ai,aq,bc,bd,a6,a7,be,rfl⟩
 obtain ⟨gm,gp,hm⟩:=bZ hm;refine Zh (Zwp gp (aq.toSlF (Zm.int .i64)) ((h1.ks ab).froz 4)) ?_;rintro _ gs ⟨rfl,a4⟩;refine ⟨_,rfl,?_⟩;replace a4:Zf ch em ch gs:=.of_below a4;refine go ?_;refine lV (.bool (!gm)) (Xg (congrArg Value.bool d8) rfl)<|Zl ?_;replace an:=an.gr a4;replace ao:=ao.gr a4;replace al:=al.gr a4;replace am:=am.gr a4;replace ae:=ae.gr a4;replace af:=af.gr a4;replace ag:=ag.gr a4;replace ah:=ah.gr a4;replace aq:=aq.gr a4;replace bc:=bc.gr a4;replace bd:=bd.gr a4;replace a6:=a6.gr a4;replace a7:=a7.gr a4;replace av:=av.gr a4;replace aw:=aw.gr a4;replace ar:=ar.gr a4;replace au:=au.gr a4;replace aj:=aj.gr a4;replace ak:=ak.gr a4;replace ai:=ai.gr a4;replace be:=be.gr a4;replace ax:=ax.gr a4;replace ab:=ab.grow a4;exact ⟨rfl,_,_,hm,ab,av,aw,ar,au,ax,aj,an,ao,al,am,ak,ae,af,ag,ah,ai,aq,bc,bd,a6,a7,be,rfl⟩
/-! a list with Za2 behind it -/
theorem Zzk {l:List Int} (hl:l.length≤1048576):Zhz l=some (Yk [-61,-62,-63] l):=by
 rw [Zhz,Z5 (by simp only [List.length_nil,maxLen];omega),Z5 (by simp only [List.length_append,List.length_cons,List.length_nil,maxLen];omega),Z5 (by simp only [List.length_append,List.length_cons,List.length_nil];omega),List.nil_append]
 rfl
theorem Zu2 {N:Nat} {l:List Int} (hl:l.length≤1048576):∀ (f i:Nat),i≤l.length→l.length<f+i→Zd5 N l l f (i:Int)=some true
 | 0,i,h1,h2=>by omega
 | f+1,i,h1,h2=>by
  rw [Zd5.eq_2]
  by_cases hi:i<l.length
  ·rw [if_pos (decide_eq_true (by omega)),Zv hi,Option.bind_some,Option.bind_some,if_neg (by rw [decide_eq_true rfl];decide),wS (by omega)]
   exact Zu2 hl f (i+1) (by omega) (by omega)
  ·rw [if_neg (by rw [decide_eq_false (by omega)];decide)]
theorem Z2a {N:Nat} {l:List Int} (hl:l.length≤1048576) (hN:1048577<N):Ziu N l l=some true:=by
 rw [Ziu,if_neg (by rw [decide_eq_true rfl];decide)]
 exact Zu2 hl N 0 (Nat.zero_le _) (by omega)
theorem Zn9 {l:List Int} (a b c:Int):Zk (l++[a,b,c]) (l.length:Int)=some a∧Zk (l++[a,b,c]) ((l.length:Int)+2)=some c:=by
 constructor
 ·rw [Vh,List.getElem?_append_right (by omega),Nat.sub_self];rfl
 ·rw [show (l.length:Int)+2=((l.length+2:Nat):Int) by omega,Vh,List.getElem?_append_right (by omega),show l.length+2 - l.length=2 by omega];rfl
theorem Z2k {N:Nat} {l:List Int} (hl:l.length≤1048576) (hN:1048577<N):Zh1 N (Yk [-61,-62,-63] l).1 (Yk [-61,-62,-63] l).2 l=some true:=by
 have v1:(Yk [-61,-62,-63] l).2.take (Yk [-61,-62,-63] l).1=l:=Zln _ _
 have v2:(Yk [-61,-62,-63] l).2=l++[-61,-62,-63]:=rfl
 have ql:((l++[-61,-62,-63]).length:Int)=(l.length:Int)+3:=by simp
 have tk:(l++[-61,-62,-63]).take (l.length+3)=l++[-61,-62,-63]:=List.take_of_length_le (by simp)
 rw [Zh1,v1,v2,Zq (x:=(l.length:Int)+3) (by omega),Zq (x:=(l.length:Int)+2) (by omega),Z5 (by rw [ql];omega),show Int.toNat ((l.length:Int)+3)=l.length+3 by omega,tk,Z2a hl hN,Option.bind_some,if_pos rfl,(Zn9 (l:=l) _ _ _).1,Option.bind_some,if_pos (decide_eq_true rfl),(Zn9 (l:=l) _ _ _).2,Option.bind_some,Zfd,decide_eq_true rfl]
/-! fractions of many Ze -/
theorem Zu1 {N:Nat} {x:QV} (h1:x.1.2.length≤1099511627776):∀ (f i:Nat),i≤x.1.2.length→x.1.2.length<f+i→Za0 N x x f (i:Int)=some true
 | 0,i,h2,h3=>by omega
 | f+1,i,h2,h3=>by
  rw [Za0.eq_2]
  by_cases hi:i<x.1.2.length
  ·rw [if_pos (decide_eq_true (by omega)),Zv hi,Option.bind_some,Option.bind_some,if_neg (by rw [decide_eq_true rfl];decide),wS (by omega)]
   exact Zu1 h1 f (i+1) (by omega) (by omega)
  ·rw [if_neg (by rw [decide_eq_false (by omega)];decide)]
theorem Zu0 {N:Nat} {x:QV} (h1:x.1.2.length≤1099511627776) (h2:x.2.length≤1099511627776) (hN:1099511627777<N):∀ (f i:Nat),i≤x.2.length→x.2.length<f+i→Zaz N x x f (i:Int)=some true
 | 0,i,h3,h4=>by omega
 | f+1,i,h3,h4=>by
  rw [Zaz.eq_2]
  by_cases hi:i<x.2.length
  ·rw [if_pos (decide_eq_true (by omega)),Zv hi,Option.bind_some,Option.bind_some,if_neg (by rw [decide_eq_true rfl];decide),wS (by omega)]
   exact Zu0 h1 h2 hN f (i+1) (by omega) (by omega)
  ·rw [if_neg (by rw [decide_eq_false (by omega)];decide)]
   exact Zu1 h1 N 0 (Nat.zero_le _) (by omega)
theorem Zuz {N:Nat} {x:QV} (h:x.1.2.length≤1099511627776∧x.2.length≤1099511627776) (hN:1099511627777<N):Ug N x x=some true:=by
 rw [Ug,if_neg (by rw [decide_eq_true rfl];decide),if_neg (by rw [decide_eq_true rfl];decide),decide_eq_true rfl,Zd6,if_neg (by decide)]
 exact Zu0 h.1 h.2 hN N 0 (Nat.zero_le _) (by omega)
/-! which networks are gone through -/
theorem Zrg {N:Nat} {n:Xx} (hb:∀ t ∈ n.2.2.2.2,t.length≤1048576∧∀ x ∈ t,x.1.2.length≤1048576∧x.2.length≤1048576) {i:Nat} (hi:i<n.2.2.2.2.length) (hib:i<4611686018427387904) (kk:Int→Int→Option Int) (hkk:∀ s:Int,0≤s→s≤3000000→∃ r,kk s ((i+1:Nat):Int)=some r):∀ (f k:Nat) (s:Int),0≤s→s≤3000000→k≤n.2.2.2.2[i].length→n.2.2.2.2[i].length<f+k→∃ r,Zay N n (i:Int) kk f s (k:Int)=some r
 | 0,k,s,_,_,h1,h2=>by omega
 | f+1,k,s,s1,s2,h1,h2=>by
  have ht:=hb _ (List.getElem_mem hi)
  rw [Zay.eq_2,Zv hi,Option.bind_some]
  by_cases hk:k<n.2.2.2.2[i].length
  ·have hx:=ht.2 _ (List.getElem_mem hk)
   rw [if_pos (decide_eq_true (by omega)),Zgv]
   by_cases hs:s<10000
   ·rw [decide_eq_true hs,if_pos rfl,Zv hi,Option.bind_some,Zv hk,Option.bind_some,Zq (x:=s+_) (by omega),Zq (by omega),wS (by omega)]
    exact Zrg hb hi hib kk hkk f (k+1) _ (by omega) (by omega) (by omega) (by omega)
   ·rw [decide_eq_false hs,if_neg (by decide),wS (by omega)]
    exact hkk s s1 s2
  ·rw [if_neg (by rw [decide_eq_false (by omega)];decide),Zgv,if_neg (by decide),wS (by omega)]
   exact hkk s s1 s2
theorem Zrf {N:Nat} {n:Xx} (hb:∀ t ∈ n.2.2.2.2,t.length≤1048576∧∀ x ∈ t,x.1.2.length≤1048576∧x.2.length≤1048576) (hl:n.2.2.2.2.length≤1048576) (hN:1048577<N):∀ (f i:Nat) (s:Int),0≤s→s≤3000000→i≤n.2.2.2.2.length→n.2.2.2.2.length<f+i→∃ r,S1 N n f s (i:Int)=some r
 | 0,i,s,_,_,h1,h2=>by omega
 | f+1,i,s,s1,s2,h1,h2=>by
  rw [S1.eq_2]
  by_cases hi:i<n.2.2.2.2.length
  ·rw [if_pos (decide_eq_true (by omega))]
   have ht:=hb _ (List.getElem_mem hi)
   have:=Zrg (N:=N) hb hi (by omega) (S1 N n f) (fun s' a b=>Zrf hb hl hN f (i+1) s' a b (by omega) (by omega)) N 0 s s1 s2 (Nat.zero_le _) (by omega)
   exact this
  ·rw [if_neg (by rw [decide_eq_false (by omega)];decide)]
   exact ⟨_,rfl⟩
theorem Zrk {N:Nat} {n:Xx} (hb:∀ t ∈ n.2.2.2.2,t.length≤1048576∧∀ x ∈ t,x.1.2.length≤1048576∧x.2.length≤1048576) (hl:n.2.2.2.2.length≤1048576) (hN:1048577<N):∀ (f i:Nat) (s:Int),0≤s→s≤1048576 * (i:Int)→i≤13→13<f+i→∃ r,Qo N n f s (i:Int)=some r
 | 0,i,s,_,_,h1,h2=>by omega
 | f+1,i,s,s1,s2,h1,h2=>by
  have fin:∃ r,Zcw N n s (i:Int) (Qo N n f) false=some r:=by
   rw [Zcw,if_neg (by decide)]
   by_cases c1:(12:Int)<(n.2.1.length:Int)
   ·rw [if_pos (decide_eq_true c1)];exact ⟨_,rfl⟩
   ·rw [if_neg (by rw [decide_eq_false c1];decide)]
    by_cases c2:(600:Int)<s
    ·rw [if_pos (decide_eq_true c2)];exact ⟨_,rfl⟩
    ·rw [if_neg (by rw [decide_eq_false c2];decide)]
     by_cases c3:(12:Int)<(n.2.2.2.2.length:Int)
     ·rw [if_pos (decide_eq_true c3)];exact ⟨_,rfl⟩
     ·rw [if_neg (by rw [decide_eq_false c3];decide)]
      obtain ⟨r,hr⟩:=Zrf (N:=N) hb hl hN N 0 0 (by omega) (by omega) (Nat.zero_le _) (by omega)
      have hr':Zko N (n.1,n.2.1,n.2.2.1,n.2.2.2.1,n.2.2.2.2)=some r:=hr
      rw [hr',Option.bind_some];exact ⟨_,rfl⟩
  rw [Qo.eq_2]
  by_cases hi:i<n.2.2.2.2.length
  ·rw [if_pos (decide_eq_true (by omega))]
   by_cases h13:i<13
   ·rw [decide_eq_true (by omega),Zcw,if_pos rfl,Zv hi,Option.bind_some]
    have ht:=hb _ (List.getElem_mem hi)
    rw [Zq (x:=s+_) (by omega),wS (by omega)]
    exact Zrk hb hl hN f (i+1) _ (by omega) (by omega) (by omega) (by omega)
   ·rw [decide_eq_false (by omega)];exact fin
  ·rw [if_neg (by rw [decide_eq_false (by omega)];decide)];exact fin
theorem Zz4 {N:Nat} {n:Xx} (hb:∀ t ∈ n.2.2.2.2,t.length≤1048576∧∀ x ∈ t,x.1.2.length≤1048576∧x.2.length≤1048576) (hl:n.2.2.2.2.length≤1048576) (hN:1048577<N):∃ r,Zh0 N n=some r:=
 Zrk hb hl hN N 0 0 (by omega) (by omega) (by omega) (by omega)
/-! the law -/
theorem Zsd {q:Rat} {K:Nat} (h:qs q≤K) (hK:K≤1099511627776):(Zr q).1.2.length≤1099511627776∧(Zr q).2.length≤1099511627776:=
 ⟨Nat.le_trans (Nat.le_max_left _ _) (Nat.le_trans h hK),Nat.le_trans (Nat.le_max_right _ _) (Nat.le_trans h hK)⟩
theorem Zv0 {N W K:Nat} {n:Xx} {w:List Int} (hs:U1 n W) (hb:Zjl n) (hw:w.length≤1048576) (hr:Xd N (8 * K+40)) (hWK:1025 * (W+2)+4≤K) (hK:K≤1099511627776) (hN:1099511627777<N):Zkd N n w=some true:=by
 obtain ⟨r,hm⟩:=Zz4 (N:=N) (n:=n) (fun t ht=>⟨hb.tl t ht,hb.tm t ht⟩) hb.tn (by omega)
 have hm':Zh0 N (n.1,n.2.1,n.2.2.1,n.2.2.2.1,n.2.2.2.2)=some r:=hm
 rw [Zkd,hm',Option.bind_some]
 cases r with
 | true=>rw [if_pos rfl]
 | false=>
  obtain ⟨x,s1,s2,sx⟩:=Z2j (w:=w) hs hr hWK (by omega)
  have hx:(x.1.1.1.2.length≤1099511627776∧x.1.1.2.length≤1099511627776)∧(x.1.2.1.2.length≤1099511627776∧x.1.2.2.length≤1099511627776):=by
   rcases sx with ⟨e,rfl⟩ | ⟨p,rfl,q1,q2⟩
   ·simp [Zpu]
   ·exact ⟨Zsd q1 hK,Zsd q2 hK⟩
  have s2':Zgx N (n.1,n.2.1,n.2.2.1,n.2.2.2.1,n.2.2.2.2) w=some x:=s2
  have l:Zgu N (n.1,n.2.1,n.2.2.1,n.2.2.2.1,n.2.2.2.2)=some (Yr n):=Zzv hb (by omega)
  have v1:(Yk [-61,-62,-63] w).2.take (Yk [-61,-62,-63] w).1=w:=Zln _ _
  have m1:Ug N ((x.1.1.1.1,x.1.1.1.2),x.1.1.2) ((x.1.1.1.1,x.1.1.1.2),x.1.1.2)=some true:=Zuz (x:=x.1.1) hx.1 hN
  have m2:Ug N ((x.1.2.1.1,x.1.2.1.2),x.1.2.2) ((x.1.2.1.1,x.1.2.1.2),x.1.2.2)=some true:=Zuz (x:=x.1.2) hx.2 hN
  have k1:Zdy N ((Yr n).1,((Yr n).2.1.1,(Yr n).2.1.2),(Yr n).2.2.1,(Yr n).2.2.2.1,(Yr n).2.2.2.2) (n.1,n.2.1,n.2.2.1,n.2.2.2.1,n.2.2.2.2)=some true:=Zzl hb (by omega)
  have hfr:Zgt N [((x.1.1.1.1,x.1.1.1.2),x.1.1.2),((x.1.2.1.1,x.1.2.1.2),x.1.2.2)]=some (true,W0 1000 [((x.1.1.1.1,x.1.1.1.2),x.1.1.2),((x.1.2.1.1,x.1.2.1.2),x.1.2.2)]):=Zy9 hN (by simp) (fun y hy=>by
   rcases List.mem_cons.1 hy with rfl | hy
   ·exact hx.1
   ·rw [List.mem_singleton] at hy;subst hy;exact hx.2)
  have st:=Z2k (N:=N) hw (by omega)
  rw [if_neg (show ¬ false=true by decide),s2',Option.bind_some,l,Option.bind_some,Zzk hw,Option.bind_some,Zvp,v1,s1,Option.bind_some,Option.bind_some,if_neg (show ¬ (!decide (x.2=x.2))=true by rw [decide_eq_true rfl];decide),if_neg (show ¬ (!decide (x.2=x.2))=true by rw [decide_eq_true rfl];decide),m1,Option.bind_some,if_neg (show ¬ (!true)=true by decide),m2,Option.bind_some,if_neg (show ¬ (!true)=true by decide),k1,Option.bind_some,if_neg (show ¬ (!true)=true by decide),st,Option.bind_some,
   Zad,if_neg (show ¬ (!true)=true by decide),hfr,Option.bind_some,Zvp,v1,s1,Option.bind_some,if_pos rfl,m1,Option.bind_some,if_pos rfl,m2,Option.bind_some,if_pos rfl,Option.bind_some,if_pos rfl,Option.bind_some,if_pos rfl,k1,Option.bind_some,Zae]
theorem Qe {α:Type} {b:α→Nat} (hb:∀ x,1≤b x):∀ (l:List α),l.length+1≤Xs b l
 | []=>by simp [Xs]
 | x :: l=>by
  have h:=Qe hb l
  have:=hb x
  simp only [Xs,List.map_cons,List.sum_cons,List.length_cons] at h ⊢
  omega
theorem Zkv {α:Type} {b:α→Nat} {x:α}:∀ {l:List α},x ∈ l→b x+1≤Xs b l
 | y :: l,h=>by
  simp only [Xs,List.map_cons,List.sum_cons]
  rcases List.mem_cons.1 h with rfl | h
  ·omega
  ·have:=Zkv (b:=b) h
   simp only [Xs] at this
   omega
theorem Zlz {α:Type} {b:α→Nat} (l:List α):1≤Xs b l:=by simp only [Xs];omega
theorem Zl0 (s:ByteArray):1≤Vi s:=by simp only [Vi];omega
theorem Zjq {α:Type} (s:α):1≤Y7 s:=by simp only [Y7];omega
theorem Zoa {α:Type} {b:α→Nat} (s:α):1≤Un b s:=by simp only [Un];omega
abbrev Q4:QV→Nat:=Un (Wh (Un (Wh Y7 (Xs Y7))) (Xs Y7))
abbrev qQ:QV→Prop:=Tn (Tn (fun _=>True) (Wx (S9 .u32))) (Wx (S9 .u32))
abbrev Zjr:Xx→Nat:=Un (Wh Vi (Wh (Xs Vi) (Wh (Xs (Xs Vi)) (Wh (Xs (Xs Y7)) (Xs (Xs Q4))))))
abbrev Zsw:Xx→Prop:=Tn (fun _=>True) (Tn (Wx (fun _=>True)) (Tn (Wx (Wx (fun _=>True))) (Tn (Wx (Wx (S9 .i64))) (Wx (Wx qQ)))))
theorem Zre {l:List Int} (h:Wx (S9 .u32) l):Zo l:=by
 intro d hd
 have h1:=h d hd
 simp [S9,Lit.wf,IntKind.min,IntKind.max,IntKind.signed,IntKind.bits] at h1
 omega
theorem Zzz {x:QV} (h:qQ x):Ws x:=⟨Zre h.1.2,Zre h.2⟩
theorem Zob (x:QV):x.1.2.length+x.2.length+4≤Q4 x:=by
 have h1:=Qe (b:=Y7) Zjq x.1.2
 have h2:=Qe (b:=Y7) Zjq x.2
 simp only [Un,Wh]
 have h3:Y7 x.1.1=1:=rfl
 omega
theorem Zsz:∀ t:List QV,X5 t≤Xs Q4 t
 | []=>by rw [X5];omega
 | x :: t=>by
  have h1:=Zsz t
  have h2:=Zob x
  rw [X5]
  simp only [Xs,List.map_cons,List.sum_cons] at h1 ⊢
  omega
theorem Zvk:∀ P:List R2,Uw P+P.length≤Xs (Xs Y7) P
 | []=>by simp [Uw,Xs]
 | l :: P=>by
  have h1:=Zvk P
  have h2:=Qe (b:=Y7) Zjq l
  rw [Zjd,List.length_cons]
  simp only [Xs,List.map_cons,List.sum_cons] at h1 h2 ⊢
  omega
theorem Z0l {n:Xx} (hb:Zjr n≤1048576) (hq:Zsw n):U1 n 1048576∧Zjl n:=by
 have a1:=Zl0 n.1
 have a2:=Qe (b:=Vi) Zl0 n.2.1
 have a3:=Qe (b:=Xs Vi) Zlz n.2.2.1
 have a4:=Zvk n.2.2.2.1
 have a5:=Qe (b:=Xs Q4) Zlz n.2.2.2.2
 have a6:=Zlz (b:=Xs Y7) n.2.2.2.1
 simp only [Zjr,Un,Wh] at hb
 have b3:∀ l ∈ n.2.2.1,l.length≤1048576:=fun l hl=>by
  have h1:=Zkv (b:=Xs Vi) hl
  have h2:=Qe (b:=Vi) Zl0 l
  omega
 have b4:∀ l ∈ n.2.2.2.1,l.length≤1048576:=fun l hl=>by
  have h1:=Zlo hl
  omega
 have b5:∀ t ∈ n.2.2.2.2,Xs Q4 t≤1048576:=fun t ht=>by
  have h1:=Zkv (b:=Xs Q4) ht
  omega
 have b6:∀ t ∈ n.2.2.2.2,t.length≤1048576:=fun t ht=>by
  have h1:=b5 t ht
  have h2:=Qe (b:=Q4) Zoa t
  omega
 refine ⟨⟨by omega,b3,⟨by omega,by omega⟩,b6,fun t ht=>Nat.le_trans (Zsz t) (b5 t ht),fun t ht x hx=>Zzz (hq.2.2.2.2 t ht x hx)⟩,⟨by omega,by omega,b3,by omega,b4,by omega,b6,fun t ht x hx=>?_⟩⟩
 have h1:=b5 t ht
 have h2:=Zkv (b:=Q4) hx
 have h3:=Zob x
 omega
theorem Z0k:Xd 4611686018427387904 (8 * 1074792454+40):=by rw [Xd];decide

end Go.Proofs.YtbmjpjhbankpoaaGreat
