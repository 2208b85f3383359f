/-
  What functions of the program compute, as plain Lean functions (m_..), and proofs that they compute it (c_..). Printed by a program of the author; no conditions.
-/
import Derived.Test.YtbmjpjhbankpoaaGreatCodeAtBFloat
import Derived.Test.YtbmjpjhbankpoaaGreatProg
import Derived.Test.YtbmjpjhbankpoaaGreatCodeAtBBrief
import Derived.Test.YtbmjpjhbankpoaaGreatCodeAtBBulk
import Derived.Test.YtbmjpjhbankpoaaGreatCodeAtBView
import Derived.Test.YtbmjpjhbankpoaaGreatCodeAtF4
set_option linter.unusedVariables false
set_option maxRecDepth 100000
set_option maxHeartbeats 2000000
namespace Go.Proofs.YtbmjpjhbankpoaaGreat
open Go Go.RowKit
open Go.IntKind (i8 i16 i32 i64 u8 u16 u32 u64)
open Go.Proofs.Tryz

theorem Zy3:Wu Tryz.prog 9 1 16:=⟨Tryz.t9,_,rfl,rfl,rfl,rfl,rfl⟩
theorem Zyv:Wu Tryz.prog 22 1 24:=⟨Tryz.t22,_,rfl,rfl,rfl,rfl,rfl⟩
theorem Zyz:Wu Tryz.prog 40 1 24:=⟨Tryz.t40,_,rfl,rfl,rfl,rfl,rfl⟩
theorem Zy1:Wu Tryz.prog 56 1 24:=⟨Tryz.t56,_,rfl,rfl,rfl,rfl,rfl⟩
def Zd9 (N:Nat) (ah:R0) (ai:ByteArray) (aj:List ByteArray) (ak:List R6) (al:List R5) (ad:List R8) (ae:Int) (kk_L3:(ByteArray→R9→(List R6)→(List R5)→(List R8)→Int→Option R3)):Nat→Int→(List Rh)→Option R3
  | 0,_,_=>none
  | am+1,af,ab=>(Zk ah.2.2.2.2 ae).bind fun ac=>if (decide (af<(ac.length:Int)))=true then ((Zk ac af).bind fun ag=>(Zb4 ((ag.1.1,ag.1.2),ag.2)).bind fun aa=>Zv ((ab.length+[((aa.1.1,(aa.1.2.1,aa.1.2.2)),(aa.2.1,aa.2.2))].length) * 56≤140737488355328∧ab.length+[((aa.1.1,(aa.1.2.1,aa.1.2.2)),(aa.2.1,aa.2.2))].length≤maxLen) ((Zd9 N ah ai aj ak al ad ae kk_L3 am) (i64.wrap (af+1)) (ab++[((aa.1.1,(aa.1.2.1,aa.1.2.2)),(aa.2.1,aa.2.2))]))) else (Zv ((ab.length+[((false,(0,([]:List Int))),([97].length,[97])),((false,(0,([]:List Int))),([98].length,[98]))].length) * 56≤140737488355328∧ab.length+[((false,(0,([]:List Int))),([97].length,[97])),((false,(0,([]:List Int))),([98].length,[98]))].length≤maxLen) (Zv ((0:Int)≤(ac.length:Int)∧(ac.length:Int)≤((ab++[((false,(0,([]:List Int))),([97].length,[97])),((false,(0,([]:List Int))),([98].length,[98]))]).length:Int)) (Zv ((ad.length+[((Int.toNat (ac.length:Int)),ab++[((false,(0,([]:List Int))),([97].length,[97])),((false,(0,([]:List Int))),([98].length,[98]))])].length) * 24≤140737488355328∧ad.length+[((Int.toNat (ac.length:Int)),ab++[((false,(0,([]:List Int))),([97].length,[97])),((false,(0,([]:List Int))),([98].length,[98]))])].length≤maxLen) (kk_L3 ai aj ak al (ad++[((Int.toNat (ac.length:Int)),ab++[((false,(0,([]:List Int))),([97].length,[97])),((false,(0,([]:List Int))),([98].length,[98]))])]) (i64.wrap (ae+1))))))
termination_by structural x=>x
def Zb7 (N:Nat) (aa:R0):Nat→ByteArray→R9→(List R6)→(List R5)→(List R8)→Int→Option R3
  | 0,_,_,_,_,_,_=>none
  | ah+1,ab,ac,ad,ae,af,ag=>if (decide (ag<(aa.2.2.2.2.length:Int)))=true then (Zd9 N aa ab ac ad ae af ag (Zb7 N aa ah) N 0 ([]:List Rh)) else (some (ab,((Int.toNat (aa.2.1.length:Int)),ac),ad,ae,af))
termination_by structural x=>x
def Zd8 (N:Nat) (ab:R0):Nat→ByteArray→R9→(List R6)→(List R5)→(List R8)→Int→Option R3
  | 0,_,_,_,_,_,_=>none
  | ai+1,ae,af,ag,ac,ah,ad=>if (decide (ad<(ab.2.2.2.1.length:Int)))=true then ((Zk ab.2.2.2.1 ad).bind fun aa=>Zv ((([]:List Int).length+aa.length) * 8≤140737488355328∧([]:List Int).length+aa.length≤maxLen) (Zv (((([]:List Int)++aa).length+[(-95),(-96)].length) * 8≤140737488355328∧(([]:List Int)++aa).length+[(-95),(-96)].length≤maxLen) (Zv ((0:Int)≤(aa.length:Int)∧(aa.length:Int)≤(((([]:List Int)++aa)++[(-95),(-96)]).length:Int)) (Zv ((ac.length+[((Int.toNat (aa.length:Int)),(([]:List Int)++aa)++[(-95),(-96)])].length) * 24≤140737488355328∧ac.length+[((Int.toNat (aa.length:Int)),(([]:List Int)++aa)++[(-95),(-96)])].length≤maxLen) ((Zd8 N ab ai) ae af ag (ac++[((Int.toNat (aa.length:Int)),(([]:List Int)++aa)++[(-95),(-96)])]) ah (i64.wrap (ad+1))))))) else (Zb7 N ab N ae af ag ac ah 0)
termination_by structural x=>x
def Zd7 (N:Nat) (ab:R0):Nat→ByteArray→R9→(List R6)→(List R5)→(List R8)→Int→Option R3
  | 0,_,_,_,_,_,_=>none
  | ai+1,ae,af,ac,ag,ah,ad=>if (decide (ad<(ab.2.2.1.length:Int)))=true then ((Zk ab.2.2.1 ad).bind fun aa=>Zv ((([]:List ByteArray).length+aa.length) * 16≤140737488355328∧([]:List ByteArray).length+aa.length≤maxLen) (Zv (((([]:List ByteArray)++aa).length+([⟨#[35,51]⟩,⟨#[35,52]⟩]:List ByteArray).length) * 16≤140737488355328∧(([]:List ByteArray)++aa).length+([⟨#[35,51]⟩,⟨#[35,52]⟩]:List ByteArray).length≤maxLen) (Zv ((0:Int)≤(aa.length:Int)∧(aa.length:Int)≤(((([]:List ByteArray)++aa)++([⟨#[35,51]⟩,⟨#[35,52]⟩]:List ByteArray)).length:Int)) (Zv ((ac.length+([((Int.toNat (aa.length:Int)),(([]:List ByteArray)++aa)++([⟨#[35,51]⟩,⟨#[35,52]⟩]:List ByteArray))]:List R6).length) * 24≤140737488355328∧ac.length+([((Int.toNat (aa.length:Int)),(([]:List ByteArray)++aa)++([⟨#[35,51]⟩,⟨#[35,52]⟩]:List ByteArray))]:List R6).length≤maxLen) ((Zd7 N ab ai) ae af (ac++([((Int.toNat (aa.length:Int)),(([]:List ByteArray)++aa)++([⟨#[35,51]⟩,⟨#[35,52]⟩]:List ByteArray))]:List R6)) ag ah (i64.wrap (ad+1))))))) else (Zd8 N ab N ae af ac ag ah 0)
termination_by structural x=>x
def Zgx (N:Nat) (aa:R0):Option R3:=
  Zv ((([]:List ByteArray).length+aa.2.1.length) * 16≤140737488355328∧([]:List ByteArray).length+aa.2.1.length≤maxLen) (Zv (((([]:List ByteArray)++aa.2.1).length+([⟨#[35,49]⟩,⟨#[35,50]⟩]:List ByteArray).length) * 16≤140737488355328∧(([]:List ByteArray)++aa.2.1).length+([⟨#[35,49]⟩,⟨#[35,50]⟩]:List ByteArray).length≤maxLen) (Zv ((0:Int)≤(aa.2.1.length:Int)∧(aa.2.1.length:Int)≤(((([]:List ByteArray)++aa.2.1)++([⟨#[35,49]⟩,⟨#[35,50]⟩]:List ByteArray)).length:Int)) (Zd7 N aa N aa.1 ((([]:List ByteArray)++aa.2.1)++([⟨#[35,49]⟩,⟨#[35,50]⟩]:List ByteArray)) ([]:List R6) ([]:List R5) ([]:List R8) 0)))
theorem Zx0 {N b9 ca cb cc:Nat} {cd ce cf cg:Option Addr} {col:Zd} {w0:World} {ac:R0} {r:R3} (hm:Zgx N ac=some r) (ei:Sl Za.str col w0 cd b9 ac.2.1) (ch:Sl (Za.slice Za.str) col w0 ce ca ac.2.2.1) (ci:Sl (Za.slice (Za.int .i64)) col w0 cf cb ac.2.2.2.1) (bj:Sl (Za.slice (Za.pair (Za.pair Za.bool (Za.slice (Za.int .u32))) (Za.slice (Za.int .u32)))) col w0 cg cc ac.2.2.2.2):
    Calls Tryz.prog 15 #[(.agg #[.string ac.1,.slice cd ac.2.1.length b9,.slice ce ac.2.2.1.length ca,.slice cf ac.2.2.2.1.length cb,.slice cg ac.2.2.2.2.length cc])] w0 (fun e w'=>∃ (col':Zd) (ra1:Option Addr) (rc2:Nat) (ra4:Option Addr) (rc5:Nat) (ra7:Option Addr) (rc8:Nat) (ra10:Option Addr) (rc11:Nat),e= .returned ((.agg #[.string r.1,.slice ra1 ((r.2.1.2.take r.2.1.1).length) rc2,.slice ra4 r.2.2.1.length rc5,.slice ra7 r.2.2.2.1.length rc8,.slice ra10 r.2.2.2.2.length rc11]))∧Zf col w0 col' w'∧Sl Za.str col' w' ra1 rc2 r.2.1.2∧Sl (Za.view Za.str) col' w' ra4 rc5 r.2.2.1∧Sl (Za.view (Za.int .i64)) col' w' ra7 rc8 r.2.2.2.1∧Sl (Za.view (Za.pair (Za.pair Za.bool (Za.view (Za.int .u32))) (Za.view (Za.int .u32)))) col' w' ra10 rc11 r.2.2.2.2):=by
 refine Yi (m:=142) func15 rfl rfl rfl ?_;rw [Zgx.eq_1] at hm;have aa:=St.start col w0;refine go ?_;refine Xf (col:=(Zi col)) 1 rfl ?_;intro dt ig f6 f7 ab;refine Xr (col:=f6) #[.string (⟨#[]⟩),.slice none (([]:List ByteArray).length) 0,.slice none (([]:List R6).length) 0,.slice none (([]:List R5).length) 0,(.slice none (([]:List R8).length) 0)] 2 zeroValue27 ?_;intro du ih f8 fk ae;refine go ?_;refine Xb ⟨_,_,rfl⟩ ?_;replace ab:=ab.gr fk;refine lW ((ab.atN).nth (q:=0) rfl)<|lV (.agg #[.string ac.1,.slice none (([]:List ByteArray).length) 0,.slice none (([]:List R6).length) 0,.slice none (([]:List R5).length) 0,(.slice none (([]:List R8).length) 0)]) (Wc (l:=[_,_,_,_,_]) (qs:=[(0,1),(1,1),(2,1),(3,1),(4,1)]) underlying27 zeroValue27 ⟨rfl,sizeOf9,rfl,sizeOf22,rfl,sizeOf23,rfl,sizeOf24,rfl,sizeOf25,trivial⟩ rfl)<|Xr (col:=f8) #[.string (⟨#[]⟩),.slice none (([]:List ByteArray).length) 0,.slice none (([]:List R6).length) 0,.slice none (([]:List R5).length) 0,(.slice none (([]:List R8).length) 0)] 3 zeroValue27 ?_;intro ax ii ij ej f9;refine Z9 f9 ?_;intro ik ek ga dv;refine go ?_;refine Z7 dv<|Xb ⟨_,_,rfl⟩ ?_;replace ab:=(ab.gr ej).kp ek;refine lW ((ab.atN).nth (q:=1) rfl) ?_;obtain ⟨gb,hm⟩:=Zy hm;replace ei:=ei.keep (Zj.start col w0);replace aa:=(((aa.grow f7).grow fk).grow ej).kp ek ga;refine Wx (c:=4) Zc.nil (ei.ks aa).srcC gb ?_;intro fl fm il fn dw el;refine Xb ⟨_,_,rfl⟩ ?_;replace dv:=dv.kpp dw;refine Zcu (off:=1) (v:=(.slice fl ((([]:List ByteArray)++ac.2.1).length) fm)) dv sizeOf22 rfl rfl (by intro u hu;simp only [Value.cells,List.mem_cons,List.not_mem_nil,or_false] at hu;subst hu;rfl) rfl rfl ?_;intro gc dx gd cj;replace cj:Zm 27 3 fn gc ax #[.string ac.1,.slice fl ((([]:List ByteArray)++ac.2.1).length) fm,.slice none (([]:List R6).length) 0,.slice none (([]:List R5).length) 0,(.slice none (([]:List R8).length) 0)]:=cj;refine go ?_;refine Z7 cj<|Zrc (col:=fn) ([⟨#[35,49]⟩,⟨#[35,50]⟩]:List ByteArray) 5 ?_;intro im ge gf c5 gg;obtain ⟨fp,hm⟩:=Zy hm;replace el:=(el.kp dx).gr c5
 refine Zcv (col:=gf) (w:=ge) (r:=Za.str) (c:=4) (c2:=4) (el.ex) (gg.srcN NB.str) rfl underlying22 Zy3 rfl rfl rfl fp.1 fp.2 (by decide) ?_;intro bw bx io fq dy em;refine Xb ⟨_,_,rfl⟩ ?_;replace cj:=(cj.gr c5).kpp dy;refine Zcu (off:=1) (v:=(.slice bw (((([]:List ByteArray)++ac.2.1)++([⟨#[35,49]⟩,⟨#[35,50]⟩]:List ByteArray)).length) bx)) cj sizeOf22 rfl rfl (by intro u hu;simp only [Value.cells,List.mem_cons,List.not_mem_nil,or_false] at hu;subst hu;rfl) rfl rfl ?_;intro gh dz gi d0;replace d0:Zm 27 3 fq gh ax #[.string ac.1,(.slice bw (((([]:List ByteArray)++ac.2.1)++([⟨#[35,49]⟩,⟨#[35,50]⟩]:List ByteArray)).length) bx),.slice none (([]:List R6).length) 0,.slice none (([]:List R5).length) 0,(.slice none (([]:List R8).length) 0)]:=d0;replace em:=em.kp dz;have d1:=em.new;refine go ?_;refine Z7 d0<|Xb ⟨_,_,rfl⟩ ?_;replace ab:=((((ab.kpp dw).kp dx).gr c5).kpp dy).kp dz;refine lW ((ab.atN).nth (q:=1) rfl)<|go ?_;obtain ⟨en,hm⟩:=Zy hm;refine lv (v:=.slice bw (Int.toNat (ac.2.1.length:Int)) bx) rfl rfl (Vs underlying22 sizeOf9 rfl rfl en.1 (by have:=d1.lecap;have:=en.2;omega))<|.ld (d:=30) (v:=(.slice bw ((((([]:List ByteArray)++ac.2.1)++([⟨#[35,49]⟩,⟨#[35,50]⟩]:List ByteArray)).take (Int.toNat (ac.2.1.length:Int))).length) bx)) (congrArg (fun n=>Value.slice bw n bx) (List.length_take_of_le (show (Int.toNat (ac.2.1.length:Int))≤((([]:List ByteArray)++ac.2.1)++([⟨#[35,49]⟩,⟨#[35,50]⟩]:List ByteArray)).length by have:=en.2;omega)).symm) ?_;refine Xb ⟨_,_,rfl⟩ ?_;refine Zcu (off:=1) (v:=(.slice bw ((((([]:List ByteArray)++ac.2.1)++([⟨#[35,49]⟩,⟨#[35,50]⟩]:List ByteArray)).take (Int.toNat (ac.2.1.length:Int))).length) bx)) d0 sizeOf22 rfl rfl (by intro u hu;simp only [Value.cells,List.mem_cons,List.not_mem_nil,or_false] at hu;subst hu;rfl) rfl rfl ?_;intro gj d2 gk ad;replace ad:Zm 27 3 fq gj ax #[.string ac.1,(.slice bw ((((([]:List ByteArray)++ac.2.1)++([⟨#[35,49]⟩,⟨#[35,50]⟩]:List ByteArray)).take (Int.toNat (ac.2.1.length:Int))).length) bx),.slice none (([]:List R6).length) 0,.slice none (([]:List R5).length) 0,(.slice none (([]:List R8).length) 0)]:=ad;refine go ?_;replace ae:=(((((((ae.gr ej).kp ek).kpp dw).kp dx).gr c5).kpp dy).kp dz).kp d2;replace aa:=(((((aa.kpp dw).kp dx gd).grow c5).kpp dy).kp dz gi).kp d2 gk
 replace d1:=d1.kp d2;replace ab:=ab.kp d2;refine Z0 [1,2,3,1000000] (fun n f a1=>∃ a2 d3 d4 d5 c6 eo ep ck d6 d7 c7 d8 d9 c8 eq cl,cl=n∧Zd7 N ac cl d3 c6 ck c7 c8 eq=some r∧St w0 (Zi col) a2 a1∧Zm 27 1 a2 a1 dt #[.string ac.1,.slice cd ac.2.1.length b9,.slice ce ac.2.2.1.length ca,.slice cf ac.2.2.2.1.length cb,.slice cg ac.2.2.2.2.length cc]∧Zm 27 2 a2 a1 du #[.string (⟨#[]⟩),.slice none (([]:List ByteArray).length) 0,.slice none (([]:List R6).length) 0,.slice none (([]:List R5).length) 0,(.slice none (([]:List R8).length) 0)]∧Zc Za.str 9 4 a2 a1 d4 d5 c6∧Zc (Za.view Za.str) 22 6 a2 a1 eo ep ck∧Zc (Za.view (Za.int .i64)) 40 7 a2 a1 d6 d7 c7∧Zc (Za.view (Za.pair (Za.pair Za.bool (Za.view (Za.int .u32))) (Za.view (Za.int .u32)))) 56 8 a2 a1 d8 d9 c8∧Zm 27 3 a2 a1 ax #[.string d3,(.slice d4 ((c6.take (Int.toNat (ac.2.1.length:Int))).length) d5),.slice eo ck.length ep,.slice d6 c7.length d7,.slice d8 c8.length d9]∧[4].map f=[.int .i64 eq]) N ⟨_,_,_,_,_,none,0,_,none,0,_,none,0,_,0,_,rfl,hm,aa,ab,ae,d1,Zc.nil,Zc.nil,Zc.nil,ad,rfl⟩ ?_;clear hm;intro n f a1 hI;obtain ⟨a2,d3,d4,d5,c6,eo,ep,ck,d6,d7,c7,d8,d9,c8,eq,cl,hn,hm,aa,ab,ae,am,bk,an,ao,ad,hs⟩:=hI;subst hn;refine .lL [4] hs ?_;replace ch:=ch.keep (Zj.start col w0);replace ci:=ci.keep (Zj.start col w0);replace bj:=bj.keep (Zj.start col w0)
 cases cl with
 | zero=>rw [Zd7.eq_1] at hm;cases hm
 | succ cl=>
  rw [Zd7.eq_2] at hm;refine go ?_;refine Z7 ab ?_;refine go ?_;refine Zp hm (fun hb hm=>go ?_) fun hb hm=>go ?_
  ·refine Z7 ab<|Xy rfl ?_;obtain ⟨ak,bz,hm⟩:=bZ hm;refine lI bz ((ch.ks aa).addr bz) ?_;obtain ⟨_,gl,gm⟩:=(ch.ks aa).atN bz;obtain ⟨⟨ip,iq,rfl,gp⟩,_⟩:=gl;refine lW gm.one ?_;obtain ⟨gs,hm⟩:=Zy hm;refine Wx (c:=9) Zc.nil gp.srcC gs ?_;intro ir it iu gt bm er;refine go ?_;refine Zrc (col:=gt) ([⟨#[35,51]⟩,⟨#[35,52]⟩]:List ByteArray) 10 ?_;intro iv iw ix a3 gu;obtain ⟨gv,hm⟩:=Zy hm;replace er:=er.gr a3;refine Wx er (gu.srcN NB.str) gv ?_;intro c9 da iy cn bn co;refine go ?_;refine Y8 (col:=cn) [(0,1),(1,0),(2,1),(3,1),(4,0),(5,1),(6,1),(7,0),(8,1),(9,1),(10,3),(11,2),(12,1),(13,2)] (by kernel_rfl) (by kernel_rfl)<|xF ⟨_,_,rfl⟩ ?_;replace ad:=((ad.kpp bm).gr a3).kpp bn;refine xW (fun _ hC=>((ad.atN).nth (q:=2) rfl).gr (hC.bl cn)) ?_;refine xu rfl rfl (fun _=>Uz rfl) ?_;refine xF ⟨_,_,rfl⟩ ?_;replace ab:=((ab.kpp bm).gr a3).kpp bn;refine xW (fun _ hC=>((ab.atN).nth (q:=2) rfl).gr (hC.bl cn)) ?_;refine xu rfl rfl (fun _=>Vq rfl) ?_;replace aa:=((aa.kpp bm).grow a3).kpp bn;refine xu rfl rfl (fun _=>Wl underlying23 sizeOf22 rfl rfl (Xu bz).1 (Xu bz).2.1 ((ch.ks aa).addr bz)) ?_;obtain ⟨_,gw,gx⟩:=(ch.ks aa).atN bz;obtain ⟨⟨iz,i0,rfl,i1⟩,_⟩:=gw;refine xW (fun _ hC=>gx.one.gr (hC.bl cn)) ?_;refine xu rfl rfl (fun _=>Tt underlying22 rfl) ?_;obtain ⟨es,hm⟩:=Zy hm;refine xu (v:=.slice c9 (Int.toNat (ak.length:Int)) da) rfl rfl (fun _=>Vs underlying22 sizeOf9 rfl rfl es.1 (by have:=co.lecap;have:=es.2;omega)) ?_;refine .ld (d:=58) (v:=(.slice c9 ((((([]:List ByteArray)++ak)++([⟨#[35,51]⟩,⟨#[35,52]⟩]:List ByteArray)).take (Int.toNat (ak.length:Int))).length) da)) (congrArg (fun n=>Value.slice c9 n da) (List.length_take_of_le (show (Int.toNat (ak.length:Int))≤((([]:List ByteArray)++ak)++([⟨#[35,51]⟩,⟨#[35,52]⟩]:List ByteArray)).length by have:=es.2;omega)).symm) ?_;refine xe rfl rfl ?_;intro i2 hC0;have hC:=hC0.bl cn;replace am:=(((am.kpp bm).gr a3).kpp bn).gr hC;replace am:=am.froz 9 (by decide);replace bk:=(((bk.kpp bm).gr a3).kpp bn).gr hC;replace bk:=bk.froz 9 (by decide);replace an:=(((an.kpp bm).gr a3).kpp bn).gr hC;replace an:=an.froz 9 (by decide);replace ao:=(((ao.kpp bm).gr a3).kpp bn).gr hC;replace ao:=ao.froz 9 (by decide);replace co:=co.gr hC;replace co:=(co).toSlF Zn.str;replace ab:=ab.gr hC;replace ab:=ab.froz 9 (by decide);replace ae:=(((ae.kpp bm).gr a3).kpp bn).gr hC
   replace ae:=ae.froz 9 (by decide);replace ad:=ad.gr hC;replace ad:=ad.froz 9 (by decide);replace aa:=aa.grow hC;replace aa:=aa.froz 9 (by decide) (by decide);refine Zba (col:=(Xm 9 cn)) (r:=(Za.view Za.str)) (xs:=([((Int.toNat (ak.length:Int)),(([]:List ByteArray)++ak)++([⟨#[35,51]⟩,⟨#[35,52]⟩]:List ByteArray))]:List R6)) [(.slice c9 ((((([]:List ByteArray)++ak)++([⟨#[35,51]⟩,⟨#[35,52]⟩]:List ByteArray)).take (Int.toNat (ak.length:Int))).length) da)] 11 (V8.ofF (Rows.consF (r:=(Za.view Za.str)) (x:=((Int.toNat (ak.length:Int)),(([]:List ByteArray)++ak)++([⟨#[35,51]⟩,⟨#[35,52]⟩]:List ByteArray))) (cs:=[(.slice c9 ((((([]:List ByteArray)++ak)++([⟨#[35,51]⟩,⟨#[35,52]⟩]:List ByteArray)).take (Int.toNat (ak.length:Int))).length) da)]) (Zjh co) Rows.nil0)) ?_;intro i3 i4 et a4 eu;refine Zl<|Xl et hC0 a4<|xe rfl rfl ?_;intro gy hC0;have hC:=hC0.bl et;obtain ⟨fr,hm⟩:=Zy hm;replace bk:=(bk.gr a4).gr hC;replace eu:=eu.gr hC;refine Zcv (col:=et) (w:=gy) (r:=(Za.view Za.str)) (c:=6) (c2:=6) (bk.ex) (eu.srcN NB.view) rfl underlying23 Zyv rfl rfl rfl fr.1 fr.2 (by decide) ?_;intro ft fu i5 db b0 ew;refine Zl<|xk db<|xF ⟨_,_,rfl⟩ ?_;refine xe rfl rfl ?_;intro i6 hC0;replace am:=((am.gr a4).gr hC).kpp b0;replace an:=((an.gr a4).gr hC).kpp b0;replace ao:=((ao.gr a4).gr hC).kpp b0;replace ab:=((ab.gr a4).gr hC).kpp b0;replace ae:=((ae.gr a4).gr hC).kpp b0;replace ad:=((ad.gr a4).gr hC).kpp b0;replace aa:=((aa.grow a4).grow hC).kpp b0;have hC:=hC0.bl db;replace ad:=ad.gr hC;refine Zcu (off:=2) (v:=(.slice ft ((ck++([((Int.toNat (ak.length:Int)),(([]:List ByteArray)++ak)++([⟨#[35,51]⟩,⟨#[35,52]⟩]:List ByteArray))]:List R6)).length) fu)) ad sizeOf23 rfl rfl (by intro u hu;simp only [Value.cells,List.mem_cons,List.not_mem_nil,or_false] at hu;subst hu;rfl) rfl rfl ?_;intro gz b1 g0 dc;replace dc:Zm 27 3 db gz ax #[.string d3,(.slice d4 ((c6.take (Int.toNat (ac.2.1.length:Int))).length) d5),(.slice ft ((ck++([((Int.toNat (ak.length:Int)),(([]:List ByteArray)++ak)++([⟨#[35,51]⟩,⟨#[35,52]⟩]:List ByteArray))]:List R6)).length) fu),.slice d6 c7.length d7,.slice d8 c8.length d9]:=dc;refine Zl<|xk db ?_;replace ew:=(ew.gr hC).kp b1;have ey:=ew.new;refine Yv ?_;replace am:=(am.gr hC).kp b1;replace an:=(an.gr hC).kp b1;replace ao:=(ao.gr hC).kp b1
   replace ab:=(ab.gr hC).kp b1;replace ae:=(ae.gr hC).kp b1;replace aa:=(aa.grow hC).kp b1 g0;intro i7 hC;replace hC:=hC.bl db;refine go ?_;replace am:=am.gr hC;replace ey:=ey.gr hC;replace an:=an.gr hC;replace ao:=ao.gr hC;replace ab:=ab.gr hC;replace ae:=ae.gr hC;replace dc:=dc.gr hC;replace aa:=aa.grow hC;exact ⟨cl,by omega,rfl,⟨_,_,_,_,_,_,_,_,_,_,_,_,_,_,_,_,rfl,hm,aa,ab,ae,am,ey,an,ao,dc,rfl⟩⟩
  refine Z0 [1,2,3,1000000] (fun n f a5=>∃ a6 ea eb ec dd ed ee de ez e0 cp ef eg df e1 cq,cq=n∧Zd8 N ac cq ea dd de cp df e1=some r∧St w0 (Zi col) a6 a5∧Zm 27 1 a6 a5 dt #[.string ac.1,.slice cd ac.2.1.length b9,.slice ce ac.2.2.1.length ca,.slice cf ac.2.2.2.1.length cb,.slice cg ac.2.2.2.2.length cc]∧Zm 27 2 a6 a5 du #[.string (⟨#[]⟩),.slice none (([]:List ByteArray).length) 0,.slice none (([]:List R6).length) 0,.slice none (([]:List R5).length) 0,(.slice none (([]:List R8).length) 0)]∧Zc Za.str 9 4 a6 a5 eb ec dd∧Zc (Za.view Za.str) 22 6 a6 a5 ed ee de∧Zc (Za.view (Za.int .i64)) 40 7 a6 a5 ez e0 cp∧Zc (Za.view (Za.pair (Za.pair Za.bool (Za.view (Za.int .u32))) (Za.view (Za.int .u32)))) 56 8 a6 a5 ef eg df∧Zm 27 3 a6 a5 ax #[.string ea,(.slice eb ((dd.take (Int.toNat (ac.2.1.length:Int))).length) ec),.slice ed de.length ee,.slice ez cp.length e0,.slice ef df.length eg]∧[6].map f=[.int .i64 e1]) N ⟨_,_,_,_,_,_,_,_,_,_,_,_,_,_,0,_,rfl,hm,aa,ab,ae,am,bk,an,ao,ad,rfl⟩ ?_;clear hm;intro n f a5 hI;obtain ⟨a6,ea,eb,ec,dd,ed,ee,de,ez,e0,cp,ef,eg,df,e1,cq,hn,hm,aa,ab,ae,ap,aq,bo,ar,ad,hs⟩:=hI;subst hn;refine .lL [6] hs ?_
  cases cq with
  | zero=>rw [Zd8.eq_1] at hm;cases hm
  | succ cq=>
   rw [Zd8.eq_2] at hm;refine go ?_;refine Z7 ab ?_;refine go ?_;refine Zp hm (fun hb hm=>go ?_) fun hb hm=>go ?_
   ·refine Z7 ab<|Xy rfl ?_;obtain ⟨al,b2,hm⟩:=bZ hm;refine lI b2 ((ci.ks aa).addr b2) ?_;obtain ⟨_,g1,g2⟩:=(ci.ks aa).atN b2;obtain ⟨⟨i8,i9,rfl,g3⟩,_⟩:=g1;refine lW g2.one ?_;obtain ⟨g4,hm⟩:=Zy hm;refine Wx (c:=12) Zc.nil g3.srcC g4 ?_;intro ja jb jc g5 bp e2;refine go ?_;refine W4 (col:=g5) [(-95),(-96)] 13 ?_;intro jd je jf a7 g6;obtain ⟨g7,hm⟩:=Zy hm;replace e2:=e2.gr a7;refine Wx e2 (g6.srcN (NB.int (k:=.i64))) g7 ?_;intro dg dh jg cr bq ct;refine go ?_;refine Y8 (col:=cr) [(0,1),(1,0),(2,1),(3,1),(4,0),(5,1),(6,1),(7,0),(8,1),(9,1),(10,3),(11,2),(12,1),(13,2)] (by kernel_rfl) (by kernel_rfl)<|xF ⟨_,_,rfl⟩ ?_;replace ad:=((ad.kpp bp).gr a7).kpp bq;refine xW (fun _ hC=>((ad.atN).nth (q:=3) rfl).gr (hC.bl cr)) ?_;refine xu rfl rfl (fun _=>Uz rfl) ?_;refine xF ⟨_,_,rfl⟩ ?_;replace ab:=((ab.kpp bp).gr a7).kpp bq;refine xW (fun _ hC=>((ab.atN).nth (q:=3) rfl).gr (hC.bl cr)) ?_;refine xu rfl rfl (fun _=>Vq rfl) ?_;replace aa:=((aa.kpp bp).grow a7).kpp bq;refine xu rfl rfl (fun _=>Wl underlying24 sizeOf40 rfl rfl (Xu b2).1 (Xu b2).2.1 ((ci.ks aa).addr b2)) ?_;obtain ⟨_,g8,g9⟩:=(ci.ks aa).atN b2;obtain ⟨⟨jh,ji,rfl,jj⟩,_⟩:=g8;refine xW (fun _ hC=>g9.one.gr (hC.bl cr)) ?_;refine xu rfl rfl (fun _=>Tt underlying40 rfl) ?_;obtain ⟨e3,hm⟩:=Zy hm;refine xu (v:=.slice dg (Int.toNat (al.length:Int)) dh) rfl rfl (fun _=>Vs underlying40 sizeOf3 rfl rfl e3.1 (by have:=ct.lecap;have:=e3.2;omega)) ?_;refine .ld (d:=88) (v:=(.slice dg ((((([]:List Int)++al)++[(-95),(-96)]).take (Int.toNat (al.length:Int))).length) dh)) (congrArg (fun n=>Value.slice dg n dh) (List.length_take_of_le (show (Int.toNat (al.length:Int))≤((([]:List Int)++al)++[(-95),(-96)]).length by have:=e3.2;omega)).symm) ?_;refine xe rfl rfl ?_;intro jk hC0;have hC:=hC0.bl cr;replace ap:=(((ap.kpp bp).gr a7).kpp bq).gr hC;replace ap:=ap.froz 12 (by decide);replace aq:=(((aq.kpp bp).gr a7).kpp bq).gr hC;replace aq:=aq.froz 12 (by decide);replace bo:=(((bo.kpp bp).gr a7).kpp bq).gr hC;replace bo:=bo.froz 12 (by decide);replace ar:=(((ar.kpp bp).gr a7).kpp bq).gr hC;replace ar:=ar.froz 12 (by decide);replace ct:=ct.gr hC;replace ct:=(ct).toSlF (Zn.int .i64);replace ab:=ab.gr hC;replace ab:=ab.froz 12 (by decide);replace ae:=(((ae.kpp bp).gr a7).kpp bq).gr hC
    replace ae:=ae.froz 12 (by decide);replace ad:=ad.gr hC;replace ad:=ad.froz 12 (by decide);replace aa:=aa.grow hC;replace aa:=aa.froz 12 (by decide) (by decide);refine Zba (col:=(Xm 12 cr)) (r:=(Za.view (Za.int .i64))) (xs:=[((Int.toNat (al.length:Int)),(([]:List Int)++al)++[(-95),(-96)])]) [(.slice dg ((((([]:List Int)++al)++[(-95),(-96)]).take (Int.toNat (al.length:Int))).length) dh)] 14 (V8.ofF (Rows.consF (r:=(Za.view (Za.int .i64))) (x:=((Int.toNat (al.length:Int)),(([]:List Int)++al)++[(-95),(-96)])) (cs:=[(.slice dg ((((([]:List Int)++al)++[(-95),(-96)]).take (Int.toNat (al.length:Int))).length) dh)]) (Zjh ct) Rows.nil0)) ?_;intro jl jm e4 a8 e5;refine Zl<|Xl e4 hC0 a8<|xe rfl rfl ?_;intro ha hC0;have hC:=hC0.bl e4;obtain ⟨fv,hm⟩:=Zy hm;replace bo:=(bo.gr a8).gr hC;replace e5:=e5.gr hC;refine Zcv (col:=e4) (w:=ha) (r:=(Za.view (Za.int .i64))) (c:=7) (c2:=7) (bo.ex) (e5.srcN NB.view) rfl underlying24 Zyz rfl rfl rfl fv.1 fv.2 (by decide) ?_;intro fw fx jn di b3 e6;refine Zl<|xk di<|xF ⟨_,_,rfl⟩ ?_;refine xe rfl rfl ?_;intro jo hC0;replace ap:=((ap.gr a8).gr hC).kpp b3;replace aq:=((aq.gr a8).gr hC).kpp b3;replace ar:=((ar.gr a8).gr hC).kpp b3;replace ab:=((ab.gr a8).gr hC).kpp b3;replace ae:=((ae.gr a8).gr hC).kpp b3;replace ad:=((ad.gr a8).gr hC).kpp b3;replace aa:=((aa.grow a8).grow hC).kpp b3;have hC:=hC0.bl di;replace ad:=ad.gr hC;refine Zcu (off:=3) (v:=(.slice fw ((cp++[((Int.toNat (al.length:Int)),(([]:List Int)++al)++[(-95),(-96)])]).length) fx)) ad sizeOf24 rfl rfl (by intro u hu;simp only [Value.cells,List.mem_cons,List.not_mem_nil,or_false] at hu;subst hu;rfl) rfl rfl ?_;intro hc b4 hd dj;replace dj:Zm 27 3 di hc ax #[.string ea,(.slice eb ((dd.take (Int.toNat (ac.2.1.length:Int))).length) ec),.slice ed de.length ee,(.slice fw ((cp++[((Int.toNat (al.length:Int)),(([]:List Int)++al)++[(-95),(-96)])]).length) fx),.slice ef df.length eg]:=dj;refine Zl<|xk di ?_;replace e6:=(e6.gr hC).kp b4;have e7:=e6.new;refine Yv ?_;replace ap:=(ap.gr hC).kp b4;replace aq:=(aq.gr hC).kp b4;replace ar:=(ar.gr hC).kp b4;replace ab:=(ab.gr hC).kp b4;replace ae:=(ae.gr hC).kp b4;replace aa:=(aa.grow hC).kp b4 hd;intro jp hC;replace hC:=hC.bl di;refine go ?_;replace ap:=ap.gr hC;replace aq:=aq.gr hC;replace e7:=e7.gr hC
    replace ar:=ar.gr hC;replace ab:=ab.gr hC;replace ae:=ae.gr hC;replace dj:=dj.gr hC;replace aa:=aa.grow hC;exact ⟨cq,by omega,rfl,⟨_,_,_,_,_,_,_,_,_,_,_,_,_,_,_,_,rfl,hm,aa,ab,ae,ap,aq,e7,ar,dj,rfl⟩⟩
   refine Z0 [1,2,3,1000000] (fun n f a9=>∃ ba cu cv cw br cx cy bs cz c0 bt dk dl bb eh b5,b5=n∧Zb7 N ac b5 cu br bs bt bb eh=some r∧St w0 (Zi col) ba a9∧Zm 27 1 ba a9 dt #[.string ac.1,.slice cd ac.2.1.length b9,.slice ce ac.2.2.1.length ca,.slice cf ac.2.2.2.1.length cb,.slice cg ac.2.2.2.2.length cc]∧Zm 27 2 ba a9 du #[.string (⟨#[]⟩),.slice none (([]:List ByteArray).length) 0,.slice none (([]:List R6).length) 0,.slice none (([]:List R5).length) 0,(.slice none (([]:List R8).length) 0)]∧Zc Za.str 9 4 ba a9 cv cw br∧Zc (Za.view Za.str) 22 6 ba a9 cx cy bs∧Zc (Za.view (Za.int .i64)) 40 7 ba a9 cz c0 bt∧Zc (Za.view (Za.pair (Za.pair Za.bool (Za.view (Za.int .u32))) (Za.view (Za.int .u32)))) 56 8 ba a9 dk dl bb∧Zm 27 3 ba a9 ax #[.string cu,(.slice cv ((br.take (Int.toNat (ac.2.1.length:Int))).length) cw),.slice cx bs.length cy,.slice cz bt.length c0,.slice dk bb.length dl]∧[8].map f=[.int .i64 eh]) N ⟨_,_,_,_,_,_,_,_,_,_,_,_,_,_,0,_,rfl,hm,aa,ab,ae,ap,aq,bo,ar,ad,rfl⟩ ?_;clear hm;intro n f a9 hI;obtain ⟨ba,cu,cv,cw,br,cx,cy,bs,cz,c0,bt,dk,dl,bb,eh,b5,hn,hm,aa,ab,ae,af,ag,ah,ai,ad,hs⟩:=hI;subst hn;refine .lL [8] hs ?_
   cases b5 with
   | zero=>rw [Zb7.eq_1] at hm;cases hm
   | succ b5=>
    rw [Zb7.eq_2] at hm;refine go ?_;refine Z7 ab ?_;refine go ?_;refine Zp hm (fun hb hm=>go ?_) fun hb hm=>go ?_
    ·refine Z0 [1,2,3,8,1000000] (fun n f ay=>∃ aw e8 e9 fa au c1,c1=n∧Zd9 N ac cu br bs bt bb eh (Zb7 N ac b5) c1 e8 au=some r∧St w0 (Zi col) aw ay∧Zm 27 1 aw ay dt #[.string ac.1,.slice cd ac.2.1.length b9,.slice ce ac.2.2.1.length ca,.slice cf ac.2.2.2.1.length cb,.slice cg ac.2.2.2.2.length cc]∧Zm 27 2 aw ay du #[.string (⟨#[]⟩),.slice none (([]:List ByteArray).length) 0,.slice none (([]:List R6).length) 0,.slice none (([]:List R5).length) 0,(.slice none (([]:List R8).length) 0)]∧Zc Za.str 9 4 aw ay cv cw br∧Zc (Za.view Za.str) 22 6 aw ay cx cy bs∧Zc (Za.view (Za.int .i64)) 40 7 aw ay cz c0 bt∧Zc (Za.view (Za.pair (Za.pair Za.bool (Za.view (Za.int .u32))) (Za.view (Za.int .u32)))) 56 8 aw ay dk dl bb∧Zm 27 3 aw ay ax #[.string cu,(.slice cv ((br.take (Int.toNat (ac.2.1.length:Int))).length) cw),.slice cx bs.length cy,.slice cz bt.length c0,.slice dk bb.length dl]∧Zc (Za.pair (Za.pair Za.bool (Za.view (Za.int .u32))) (Za.view (Za.int .u32))) 47 15 aw ay e9 fa au∧[10,9].map f=[.int .i64 e8,.slice e9 au.length fa]) N ⟨_,0,none,0,_,_,rfl,hm,aa,ab,ae,af,ag,ah,ai,ad,Zc.nil,rfl⟩ ?_;clear hm;intro n f ay hI;obtain ⟨aw,e8,e9,fa,au,c1,hn,hm,aa,ab,ae,af,ag,ah,ai,ad,av,hs⟩:=hI;subst hn;refine .lL [10,9] hs ?_
     cases c1 with
     | zero=>rw [Zd9.eq_1] at hm;cases hm
     | succ c1=>
      rw [Zd9.eq_2] at hm;refine go ?_;refine Z7 ab<|Xy rfl ?_;obtain ⟨bc,az,hm⟩:=bZ hm;refine lI az ((bj.ks aa).addr az) ?_;obtain ⟨_,he,hf⟩:=(bj.ks aa).atN az;obtain ⟨⟨jq,jr,rfl,js⟩,_⟩:=he;refine lW hf.one<|go ?_;refine Zp hm (fun hb hm=>go ?_) fun hb hm=>go ?_
      ·refine Z7 ab<|Xy rfl<|lI az ((bj.ks aa).addr az) ?_;obtain ⟨_,hg,hh⟩:=(bj.ks aa).atN az;obtain ⟨⟨jt,ju,rfl,fy⟩,_⟩:=hg;refine lW hh.one<|Xy rfl ?_;obtain ⟨fb,fc,hm⟩:=bZ hm;refine lI fc (fy.addr fc) ?_;obtain ⟨_,hi,hj⟩:=fy.atN fc;obtain ⟨_,_,rfl,hk,hl⟩:=Ym hi;obtain ⟨_,_,rfl,ho,hp⟩:=Ym hk;obtain ⟨rfl,_⟩:=ho;obtain ⟨⟨hq,hr,rfl,ht⟩,_⟩:=hp;obtain ⟨⟨hv,hw,rfl,hx⟩,_⟩:=hl;refine lV (.agg #[.bool fb.1.1,.slice hq fb.1.2.length hr,.slice hv fb.2.length hw]) (Xv isAgg47 sizeOf47 rfl rfl hj) ?_;obtain ⟨aj,hy,hm⟩:=bZ hm;refine Zh (Zpf hy ht hx) ?_;rintro _ jv ⟨hz,fz,f0,f1,f2,rfl,bd,h0,h1⟩;refine ⟨_,rfl,?_⟩;refine Zba (col:=hz) (r:=(Za.pair (Za.pair Za.bool (Za.view (Za.int .u32))) (Za.view (Za.int .u32)))) (xs:=[((aj.1.1,(aj.1.2.1,aj.1.2.2)),(aj.2.1,aj.2.2))]) [(.agg #[.bool aj.1.1,.slice fz ((aj.1.2.2.take aj.1.2.1).length) f0,.slice f1 ((aj.2.2.take aj.2.1).length) f2])] 16 (V8.ofF (Rows.consF (r:=(Za.pair (Za.pair Za.bool (Za.view (Za.int .u32))) (Za.view (Za.int .u32)))) (x:=((aj.1.1,(aj.1.2.1,aj.1.2.2)),(aj.2.1,aj.2.2))) (cs:=[.bool aj.1.1,.slice fz ((aj.1.2.2.take aj.1.2.1).length) f0,.slice f1 ((aj.2.2.take aj.2.1).length) f2]) (V5 (V5 (Zch aj.1.1) (Zjh h0)) (Zjh h1)) Rows.nil0)) ?_;intro jw jx jy be h2;obtain ⟨h3,hm⟩:=Zy hm;replace av:=(av.gr bd).gr be;refine Wx av (h2.srcN (NB.pair (NB.pair NB.bool NB.view) NB.view)) h3 ?_;intro jz j0 j1 j2 bu h4;refine go ?_;replace af:=((af.gr bd).gr be).kpp bu;replace ag:=((ag.gr bd).gr be).kpp bu;replace ah:=((ah.gr bd).gr be).kpp bu;replace ai:=((ai.gr bd).gr be).kpp bu;replace ab:=((ab.gr bd).gr be).kpp bu;replace ae:=((ae.gr bd).gr be).kpp bu;replace ad:=((ad.gr bd).gr be).kpp bu;replace aa:=((aa.grow bd).grow be).kpp bu;exact ⟨c1,by omega,rfl,⟨_,_,_,_,_,_,rfl,hm,aa,ab,ae,af,ag,ah,ai,ad,h4,rfl⟩⟩
      refine W4 (col:=aw) [97] 17 ?_;intro fd j3 h5 bf b6;refine lV (.agg #[.bool false,.slice none (([]:List Int).length) 0,.slice fd ([97].length) 1]) (Wc (l:=[_,_]) (qs:=[(0,2),(2,1)]) underlying47 zeroValue47 ⟨rfl,sizeOf45,rfl,sizeOf43,trivial⟩ rfl)<|W4 (col:=h5) [98] 18 ?_;intro fe j4 h6 a0 dm;refine lV (.agg #[.bool false,.slice none (([]:List Int).length) 0,.slice fe ([98].length) 1]) (Wc (l:=[_,_]) (qs:=[(0,2),(2,1)]) underlying47 zeroValue47 ⟨rfl,sizeOf45,rfl,sizeOf43,trivial⟩ rfl) ?_;replace af:=(af.gr bf).gr a0;replace af:=af.froz 17 (by decide);replace ag:=(ag.gr bf).gr a0;replace ag:=ag.froz 17 (by decide);replace ah:=(ah.gr bf).gr a0;replace ah:=ah.froz 17 (by decide);replace ai:=(ai.gr bf).gr a0;replace ai:=ai.froz 17 (by decide);replace av:=(av.gr bf).gr a0;replace av:=av.froz 17 (by decide);replace b6:=b6.gr a0;replace b6:=(b6).toSlF (Zn.int .u32);replace dm:=dm.froz 17 (by decide);replace ab:=(ab.gr bf).gr a0;replace ab:=ab.froz 17 (by decide);replace ae:=(ae.gr bf).gr a0;replace ae:=ae.froz 17 (by decide);replace ad:=(ad.gr bf).gr a0;replace ad:=ad.froz 17 (by decide);replace aa:=(aa.grow bf).grow a0;replace aa:=aa.froz 17 (by decide) (by decide);replace af:=af.froz 18 (by decide);replace ag:=ag.froz 18 (by decide);replace ah:=ah.froz 18 (by decide);replace ai:=ai.froz 18 (by decide);replace av:=av.froz 18 (by decide);replace b6:=b6.froz 18;replace dm:=(dm).toSlF (Zn.int .u32);replace ab:=ab.froz 18 (by decide);replace ae:=ae.froz 18 (by decide);replace ad:=ad.froz 18 (by decide);replace aa:=aa.froz 18 (by decide) (by decide)
      refine Zba (col:=(Xm 18 (Xm 17 h6))) (r:=(Za.pair (Za.pair Za.bool (Za.view (Za.int .u32))) (Za.view (Za.int .u32)))) (xs:=[((false,(0,([]:List Int))),([97].length,[97])),((false,(0,([]:List Int))),([98].length,[98]))]) [(.agg #[.bool false,.slice none (([]:List Int).length) 0,.slice fd ([97].length) 1]),(.agg #[.bool false,.slice none (([]:List Int).length) 0,.slice fe ([98].length) 1])] 19 (V8.ofF (Rows.consF (r:=(Za.pair (Za.pair Za.bool (Za.view (Za.int .u32))) (Za.view (Za.int .u32)))) (x:=((false,(0,([]:List Int))),([97].length,[97]))) (cs:=[.bool false,.slice none (([]:List Int).length) 0,.slice fd ([97].length) 1]) (V5 (V5 (Zch false) Zt3) (Zt4 b6)) (Rows.consF (r:=(Za.pair (Za.pair Za.bool (Za.view (Za.int .u32))) (Za.view (Za.int .u32)))) (x:=((false,(0,([]:List Int))),([98].length,[98]))) (cs:=[.bool false,.slice none (([]:List Int).length) 0,.slice fe ([98].length) 1]) (V5 (V5 (Zch false) Zt3) (Zt4 dm)) Rows.nil0))) ?_;intro j5 j6 j7 bg h7;obtain ⟨h8,hm⟩:=Zy hm;replace av:=av.gr bg;refine Wx av (h7.srcN (NB.pair (NB.pair NB.bool NB.view) NB.view)) h8 ?_;intro dn dp j8 c3 bv c4;refine go ?_;refine Y8 (col:=c3) [(0,1),(1,0),(2,1),(3,1),(4,0),(5,1),(6,1),(7,0),(8,1),(9,1),(10,3),(11,2),(12,1),(13,2)] (by kernel_rfl) (by kernel_rfl)<|xF ⟨_,_,rfl⟩ ?_;replace ad:=(ad.gr bg).kpp bv;refine xW (fun _ hC=>((ad.atN).nth (q:=4) rfl).gr (hC.bl c3)) ?_;refine xu rfl rfl (fun _=>Uz rfl) ?_;refine xF ⟨_,_,rfl⟩ ?_;replace ab:=(ab.gr bg).kpp bv;refine xW (fun _ hC=>((ab.atN).nth (q:=4) rfl).gr (hC.bl c3)) ?_;refine xu rfl rfl (fun _=>Vq rfl) ?_;replace aa:=(aa.grow bg).kpp bv;refine xu rfl rfl (fun _=>Wl underlying25 sizeOf56 rfl rfl (Xu az).1 (Xu az).2.1 ((bj.ks aa).addr az)) ?_;obtain ⟨_,h9,ia⟩:=(bj.ks aa).atN az;obtain ⟨⟨j9,ka,rfl,kb⟩,_⟩:=h9;refine xW (fun _ hC=>ia.one.gr (hC.bl c3)) ?_;refine xu rfl rfl (fun _=>Tt underlying56 rfl) ?_;obtain ⟨ff,hm⟩:=Zy hm;refine xu (v:=.slice dn (Int.toNat (bc.length:Int)) dp) rfl rfl (fun _=>Vs underlying56 sizeOf47 rfl rfl ff.1 (by have:=c4.lecap;have:=ff.2;omega)) ?_
      refine .ld (d:=137) (v:=(.slice dn (((au++[((false,(0,([]:List Int))),([97].length,[97])),((false,(0,([]:List Int))),([98].length,[98]))]).take (Int.toNat (bc.length:Int))).length) dp)) (congrArg (fun n=>Value.slice dn n dp) (List.length_take_of_le (show (Int.toNat (bc.length:Int))≤(au++[((false,(0,([]:List Int))),([97].length,[97])),((false,(0,([]:List Int))),([98].length,[98]))]).length by have:=ff.2;omega)).symm) ?_;refine xe rfl rfl ?_;intro kc hC0;have hC:=hC0.bl c3;replace af:=((af.gr bg).kpp bv).gr hC;replace af:=af.froz 15 (by decide);replace ag:=((ag.gr bg).kpp bv).gr hC;replace ag:=ag.froz 15 (by decide);replace ah:=((ah.gr bg).kpp bv).gr hC;replace ah:=ah.froz 15 (by decide);replace ai:=((ai.gr bg).kpp bv).gr hC;replace ai:=ai.froz 15 (by decide);replace c4:=c4.gr hC;replace c4:=(c4).toSlF (Zn.pair (Zn.pair Zn.bool Zn.view) Zn.view);replace ab:=ab.gr hC;replace ab:=ab.froz 15 (by decide);replace ae:=((ae.gr bg).kpp bv).gr hC;replace ae:=ae.froz 15 (by decide);replace ad:=ad.gr hC;replace ad:=ad.froz 15 (by decide);replace aa:=aa.grow hC;replace aa:=aa.froz 15 (by decide) (by decide);refine Zba (col:=(Xm 15 c3)) (r:=(Za.view (Za.pair (Za.pair Za.bool (Za.view (Za.int .u32))) (Za.view (Za.int .u32))))) (xs:=[((Int.toNat (bc.length:Int)),au++[((false,(0,([]:List Int))),([97].length,[97])),((false,(0,([]:List Int))),([98].length,[98]))])]) [(.slice dn (((au++[((false,(0,([]:List Int))),([97].length,[97])),((false,(0,([]:List Int))),([98].length,[98]))]).take (Int.toNat (bc.length:Int))).length) dp)] 20 (V8.ofF (Rows.consF (r:=(Za.view (Za.pair (Za.pair Za.bool (Za.view (Za.int .u32))) (Za.view (Za.int .u32))))) (x:=((Int.toNat (bc.length:Int)),au++[((false,(0,([]:List Int))),([97].length,[97])),((false,(0,([]:List Int))),([98].length,[98]))])) (cs:=[(.slice dn (((au++[((false,(0,([]:List Int))),([97].length,[97])),((false,(0,([]:List Int))),([98].length,[98]))]).take (Int.toNat (bc.length:Int))).length) dp)]) (Zjh c4) Rows.nil0)) ?_;intro kd ke fg bh fh;refine Zl<|Xl fg hC0 bh<|xe rfl rfl ?_;intro ib hC0;have hC:=hC0.bl fg;obtain ⟨f3,hm⟩:=Zy hm;replace ai:=(ai.gr bh).gr hC;replace fh:=fh.gr hC;refine Zcv (col:=fg) (w:=ib) (r:=(Za.view (Za.pair (Za.pair Za.bool (Za.view (Za.int .u32))) (Za.view (Za.int .u32))))) (c:=8) (c2:=8) (ai.ex) (fh.srcN NB.view) rfl underlying25 Zy1 rfl rfl rfl f3.1 f3.2 (by decide) ?_;intro f4 f5 kf dq b7 fi
      refine Zl<|xk dq<|xF ⟨_,_,rfl⟩ ?_;refine xe rfl rfl ?_;intro kg hC0;replace af:=((af.gr bh).gr hC).kpp b7;replace ag:=((ag.gr bh).gr hC).kpp b7;replace ah:=((ah.gr bh).gr hC).kpp b7;replace ab:=((ab.gr bh).gr hC).kpp b7;replace ae:=((ae.gr bh).gr hC).kpp b7;replace ad:=((ad.gr bh).gr hC).kpp b7;replace aa:=((aa.grow bh).grow hC).kpp b7;have hC:=hC0.bl dq;replace ad:=ad.gr hC;refine Zcu (off:=4) (v:=(.slice f4 ((bb++[((Int.toNat (bc.length:Int)),au++[((false,(0,([]:List Int))),([97].length,[97])),((false,(0,([]:List Int))),([98].length,[98]))])]).length) f5)) ad sizeOf25 rfl rfl (by intro u hu;simp only [Value.cells,List.mem_cons,List.not_mem_nil,or_false] at hu;subst hu;rfl) rfl rfl ?_;intro ic b8 id dr;replace dr:Zm 27 3 dq ic ax #[.string cu,(.slice cv ((br.take (Int.toNat (ac.2.1.length:Int))).length) cw),.slice cx bs.length cy,.slice cz bt.length c0,(.slice f4 ((bb++[((Int.toNat (bc.length:Int)),au++[((false,(0,([]:List Int))),([97].length,[97])),((false,(0,([]:List Int))),([98].length,[98]))])]).length) f5)]:=dr;refine Zl<|xk dq ?_;replace fi:=(fi.gr hC).kp b8;have fj:=fi.new;refine Yv ?_;replace af:=(af.gr hC).kp b8;replace ag:=(ag.gr hC).kp b8;replace ah:=(ah.gr hC).kp b8;replace ab:=(ab.gr hC).kp b8;replace ae:=(ae.gr hC).kp b8;replace aa:=(aa.grow hC).kp b8 id;intro kh hC;replace hC:=hC.bl dq;refine go ?_;replace af:=af.gr hC;replace ag:=ag.gr hC;replace ah:=ah.gr hC;replace fj:=fj.gr hC;replace ab:=ab.gr hC;replace ae:=ae.gr hC;replace dr:=dr.gr hC;replace aa:=aa.grow hC;exact ⟨b5,by omega,rfl,⟨_,_,_,_,_,_,_,_,_,_,_,_,_,_,_,_,rfl,hm,aa,ab,ae,af,ag,ah,fj,dr,rfl⟩⟩
    refine lV _ (Z8 isAgg27 sizeOf27 ad)<|Z9 ae ?_;intro ki ds ie bi;refine go ?_;replace af:=af.kp ds;replace af:=(af).toSlF Zn.str;replace ag:=ag.kp ds;replace ag:=ag.froz 4 (by decide);replace ah:=ah.kp ds;replace ah:=ah.froz 4 (by decide);replace ai:=ai.kp ds;replace ai:=ai.froz 4 (by decide);replace bi:=bi.froz 4 (by decide);replace aa:=aa.kp ds ie;replace aa:=aa.froz 4 (by decide) (by decide);replace af:=af.froz 6;replace ag:=(ag).toSlF Zn.view;replace ah:=ah.froz 6 (by decide);replace ai:=ai.froz 6 (by decide);replace bi:=bi.froz 6 (by decide);replace aa:=aa.froz 6 (by decide) (by decide);replace af:=af.froz 7;replace ag:=ag.froz 7;replace ah:=(ah).toSlF Zn.view;replace ai:=ai.froz 7 (by decide);replace bi:=bi.froz 7 (by decide);replace aa:=aa.froz 7 (by decide) (by decide);replace af:=af.froz 8;replace ag:=ag.froz 8;replace ah:=ah.froz 8;replace ai:=(ai).toSlF Zn.view;replace bi:=bi.froz 8 (by decide);replace aa:=aa.froz 8 (by decide) (by decide);cases hm;exact ⟨rfl,_,ra bi.atN,_,_,_,_,_,_,_,_,_,rfl,aa.fin (cm []),aa.fs af,aa.fs ag,aa.fs ah,aa.fs ai⟩
def Zi1 (aa:Bool):Option Bool:=
  some aa
def Zef (N:Nat) (n0:Nat) (aa:List ByteArray) (ac:List ByteArray) (ad:ByteArray) (ae:ByteArray):Nat→Int→Option Bool
  | 0,_=>none
  | af+1,ab=>if (decide (ab<(ac.length:Int)))=true then ((Zk (aa.take n0) ab).bind fun ag=>(Zk ac ab).bind fun ah=>if (!decide (ag=ah))=true then (some false) else ((Zef N n0 aa ac ad ae af) (i64.wrap (ab+1)))) else (Zv ((0:Int)≤(i64.wrap (((aa.take n0).length:Int)+2))∧(i64.wrap (((aa.take n0).length:Int)+2))≤(aa.length:Int)) ((Zk (aa.take (Int.toNat (i64.wrap (((aa.take n0).length:Int)+2)))) ((aa.take n0).length:Int)).bind fun ai=>if (decide (ai=ad))=true then ((Zk (aa.take (Int.toNat (i64.wrap (((aa.take n0).length:Int)+2)))) (i64.wrap (((aa.take n0).length:Int)+1))).bind fun aj=>Zi1 (decide (aj=ae))) else (Zi1 false)))
termination_by structural x=>x
def Zee (N:Nat) (n0:Nat) (aa:List ByteArray) (ab:List ByteArray) (ac:ByteArray) (ad:ByteArray):Option Bool:=
  if (!decide (((aa.take n0).length:Int)=(ab.length:Int)))=true then (some false) else (Zef N n0 aa ab ac ad N 0)
theorem Zpi {N ae n0 aq:Nat} {a0 a1:Option Addr} {col:Zd} {w0:World} {ab af:R9} {ah ag:ByteArray} {r:Bool} (hm:Zee N n0 ab af ah ag=some r) (h0:Sl Za.str col w0 a0 ae ab) (h1:Sl Za.str col w0 a1 aq af):
    Calls Tryz.prog 82 #[.slice a0 ((ab.take n0).length) ae,.slice a1 af.length aq,.string ah,.string ag] w0 (fun e w'=>e= .returned ((.bool r))∧Below w0.heap.size w0 w'):=by
 refine Xe 8 (m:=53) func82 rfl rfl rfl rfl rfl ?_;rw [Zee.eq_1] at hm;have aa:=St.start col w0;refine go ?_;replace h0:=h0.keep (Zj.start col w0);replace h1:=h1.keep (Zj.start col w0);refine Zp hm (fun hb hm=>go ?_) fun hb hm=>go ?_
 ·cases hm;exact ⟨rfl,rfl,aa.below⟩
 refine Z0 [0,1,2,3,1000000] (fun n f ar=>∃ ac ai ad,ad=n∧Zef N n0 ab af ah ag ad ai=some r∧St w0 (Zi col) ac ar∧[9].map f=[.int .i64 ai]) N ⟨_,0,_,rfl,hm,aa,rfl⟩ ?_;clear hm;intro n f ar hI;obtain ⟨ac,ai,ad,hn,hm,aa,hs⟩:=hI;subst hn;refine .lL [9] hs ?_
 cases ad with
 | zero=>rw [Zef.eq_1] at hm;cases hm
 | succ ad=>
  rw [Zef.eq_2] at hm;refine go ?_;refine Zp hm (fun hb hm=>go ?_) fun hb hm=>go ?_
  ·refine Wg (col:=ac) (by kernel_rfl) (by kernel_rfl)<|go ?_;obtain ⟨ax,aj,hm⟩:=bZ hm;refine qI aj (((h0.ks aa).take n0).addr aj)<|qW (fun _ hC=>(((h0.ks aa).take n0).gr (hC.bl ac)).atStr aj) ?_;refine go ?_;obtain ⟨ay,ak,hm⟩:=bZ hm;refine qI ak ((h1.ks aa).addr ak)<|qW (fun _ hC=>((h1.ks aa).gr (hC.bl ac)).atStr ak) ?_;refine go ?_;refine Yk ?_;intro az hC;replace hC:=hC.bl ac;replace aa:=aa.grow hC;refine Zp hm (fun hb hm=>go ?_) fun hb hm=>go ?_
   ·cases hm;exact ⟨rfl,rfl,aa.below⟩
   exact ⟨ad,by omega,rfl,⟨_,_,_,rfl,hm,aa,rfl⟩⟩
  obtain ⟨al,hm⟩:=Zy hm;refine lv (v:=.slice a0 (Int.toNat (i64.wrap (((ab.take n0).length:Int)+2))) ae) rfl rfl (Vs underlying22 sizeOf9 rfl rfl al.1 (by have:=(h0.ks aa).1.2;have:=al.2;omega))<|.ld (d:=35) (v:=(.slice a0 ((ab.take (Int.toNat (i64.wrap (((ab.take n0).length:Int)+2)))).length) ae)) (congrArg (fun n=>Value.slice a0 n ae) (List.length_take_of_le (show (Int.toNat (i64.wrap (((ab.take n0).length:Int)+2)))≤ab.length by have:=al.2;omega)).symm) ?_;refine U7 rfl<|Zl<|Zu ?_;refine Wp.cutK [1000000] (fun f au=>∃ av am,Zi1 am=some r∧St w0 (Zi col) av au∧[8].map f=[.bool am]) ?_ ?_
  ·intro f au hJ;obtain ⟨av,am,hm,aa,hs⟩:=hJ;rw [Zi1.eq_1] at hm;refine .lL [8] hs<|Wa ?_;cases hm;exact ⟨rfl,rfl,aa.below⟩
  refine go ?_;obtain ⟨a2,an,hm⟩:=bZ hm;refine lI an (((h0.ks aa).take (Int.toNat (i64.wrap (((ab.take n0).length:Int)+2)))).addr an)<|lW (((h0.ks aa).take (Int.toNat (i64.wrap (((ab.take n0).length:Int)+2)))).atStr an) ?_;refine go ?_;refine Xn hm (fun ao hm=>go ?_) fun ao hm=>go ?_
  ·obtain ⟨aw,ap,hm⟩:=bZ hm;refine lI ap (((h0.ks aa).take (Int.toNat (i64.wrap (((ab.take n0).length:Int)+2)))).addr ap) ?_;refine go ?_;refine lW (((h0.ks aa).take (Int.toNat (i64.wrap (((ab.take n0).length:Int)+2)))).atStr ap)<|go ?_;refine lV (.bool (decide (aw=ag))) (Z1 (congrArg Value.bool ao) rfl)<|go ?_;exact ⟨rfl,_,_,hm,aa,rfl⟩
  refine lV (.bool false) (Xj (congrArg Value.bool ao) rfl)<|go ?_;exact ⟨rfl,_,_,hm,aa,rfl⟩
def Zec (N:Nat) (ab:R1) (ac:R1):Nat→Int→Option Bool
  | 0,_=>none
  | ad+1,aa=>if (decide (aa<(ab.1.2.length:Int)))=true then ((Zk ab.1.2 aa).bind fun ae=>(Zk ac.1.2 aa).bind fun af=>if (!decide (ae=af))=true then (some false) else ((Zec N ab ac ad) (i64.wrap (aa+1)))) else (some true)
termination_by structural x=>x
def Zeb (N:Nat) (aa:R1) (ac:R1):Nat→Int→Option Bool
  | 0,_=>none
  | ad+1,ab=>if (decide (ab<(aa.2.length:Int)))=true then ((Zk aa.2 ab).bind fun ae=>(Zk ac.2 ab).bind fun af=>if (!decide (ae=af))=true then (some false) else ((Zeb N aa ac ad) (i64.wrap (ab+1)))) else (Zec N aa ac N 0)
termination_by structural x=>x
def Zgz (N:Nat) (aa:R1) (ab:R1) (ac:Bool):Option Bool:=
  if ac=true then (some false) else (Zeb N aa ab N 0)
def Zb8 (N:Nat) (aa:R1) (ab:R1):Option Bool:=
  if (!decide (aa.1.1=ab.1.1))=true then (Zgz N aa ab true) else (if (!decide ((aa.1.2.length:Int)=(ab.1.2.length:Int)))=true then (Zgz N aa ab true) else (Zgz N aa ab (!decide ((aa.2.length:Int)=(ab.2.length:Int)))))
theorem Zpg {N aj ak al am:Nat} {an ao ap aq:Option Addr} {col:Zd} {w0:World} {ac ad:R1} {r:Bool} (hm:Zb8 N ac ad=some r) (ar:Sl (Za.int .u32) col w0 an aj ac.1.2) (au:Sl (Za.int .u32) col w0 ao ak ac.2) (av:Sl (Za.int .u32) col w0 ap al ad.1.2) (aw:Sl (Za.int .u32) col w0 aq am ad.2):
    Calls Tryz.prog 25 #[(.agg #[.bool ac.1.1,.slice an ac.1.2.length aj,.slice ao ac.2.length ak]),(.agg #[.bool ad.1.1,.slice ap ad.1.2.length al,.slice aq ad.2.length am])] w0 (fun e w'=>e= .returned ((.bool r))∧Below w0.heap.size w0 w'):=by
 refine Xe 4 (m:=73) func25 rfl rfl rfl rfl rfl ?_;rw [Zb8.eq_1] at hm;have aa:=St.start col w0;refine go ?_;refine Xf (col:=(Zi col)) 1 rfl ?_;intro a1 bf bd be ab;refine Xf (col:=bd) 2 rfl ?_;intro a2 bg bh bc ae;refine Zct rfl<|Zl<|Zu<|Zu ?_;replace ar:=ar.keep (Zj.start col w0);replace au:=au.keep (Zj.start col w0);replace av:=av.keep (Zj.start col w0);replace aw:=aw.keep (Zj.start col w0);replace aa:=(aa.grow be).grow bc;replace ab:=ab.gr bc;refine Wp.cutK [2,3,1000000] (fun f ax=>∃ ay a3,Zgz N ac ad a3=some r∧St w0 (Zi col) ay ax∧Zm 47 1 ay ax a1 #[.bool ac.1.1,.slice an ac.1.2.length aj,.slice ao ac.2.length ak]∧Zm 47 2 ay ax a2 #[.bool ad.1.1,.slice ap ad.1.2.length al,.slice aq ad.2.length am]∧[33].map f=[.bool a3]) ?_ ?_
 ·intro f ax hJ;obtain ⟨ay,a3,hm,aa,ab,ae,hs⟩:=hJ;rw [Zgz.eq_1] at hm;refine .lL [33] hs ?_;refine Zp hm (fun hb hm=>go ?_) fun hb hm=>go ?_
  ·cases hm;exact ⟨rfl,rfl,aa.below⟩
  refine Z0 [2,3,1000000] (fun n f az=>∃ af a4 ah,ah=n∧Zeb N ac ad ah a4=some r∧St w0 (Zi col) af az∧Zm 47 1 af az a1 #[.bool ac.1.1,.slice an ac.1.2.length aj,.slice ao ac.2.length ak]∧Zm 47 2 af az a2 #[.bool ad.1.1,.slice ap ad.1.2.length al,.slice aq ad.2.length am]∧[5].map f=[.int .i64 a4]) N ⟨_,0,_,rfl,hm,aa,ab,ae,rfl⟩ ?_;clear hm;intro n f az hI;obtain ⟨af,a4,ah,hn,hm,aa,ab,ae,hs⟩:=hI;subst hn;refine .lL [5] hs ?_
  cases ah with
  | zero=>rw [Zeb.eq_1] at hm;cases hm
  | succ ah=>
   rw [Zeb.eq_2] at hm;refine go ?_;refine Z7 ab ?_;refine go ?_;refine Zp hm (fun hb hm=>go ?_) fun hb hm=>go ?_
   ·refine Wg (col:=af) (by kernel_rfl) (by kernel_rfl)<|qF ⟨_,_,rfl⟩ ?_;refine qW (fun _ hC=>((ab.atN).nth (q:=2) rfl).gr (hC.bl af)) ?_;refine go ?_;obtain ⟨bi,a5,hm⟩:=bZ hm;refine qI a5 ((au.ks aa).addr a5)<|qW (fun _ hC=>((au.ks aa).gr (hC.bl af)).atInt a5) ?_;refine qF ⟨_,_,rfl⟩ ?_;refine qW (fun _ hC=>((ae.atN).nth (q:=2) rfl).gr (hC.bl af)) ?_;refine go ?_;obtain ⟨bj,a6,hm⟩:=bZ hm;refine qI a6 ((aw.ks aa).addr a6)<|qW (fun _ hC=>((aw.ks aa).gr (hC.bl af)).atInt a6) ?_;refine go ?_;refine Yk ?_;intro bk hC;replace hC:=hC.bl af;replace ab:=ab.gr hC;replace ae:=ae.gr hC;replace aa:=aa.grow hC;refine Zp hm (fun hb hm=>go ?_) fun hb hm=>go ?_
    ·cases hm;exact ⟨rfl,rfl,aa.below⟩
    exact ⟨ah,by omega,rfl,⟨_,_,_,rfl,hm,aa,ab,ae,rfl⟩⟩
   refine Z0 [2,3,1000000] (fun n f a0=>∃ ag a7 ai,ai=n∧Zec N ac ad ai a7=some r∧St w0 (Zi col) ag a0∧Zm 47 1 ag a0 a1 #[.bool ac.1.1,.slice an ac.1.2.length aj,.slice ao ac.2.length ak]∧Zm 47 2 ag a0 a2 #[.bool ad.1.1,.slice ap ad.1.2.length al,.slice aq ad.2.length am]∧[6].map f=[.int .i64 a7]) N ⟨_,0,_,rfl,hm,aa,ab,ae,rfl⟩ ?_;clear hm;intro n f a0 hI;obtain ⟨ag,a7,ai,hn,hm,aa,ab,ae,hs⟩:=hI;subst hn;refine .lL [6] hs ?_
   cases ai with
   | zero=>rw [Zec.eq_1] at hm;cases hm
   | succ ai=>
    rw [Zec.eq_2] at hm;refine go ?_;refine Xb ⟨_,_,rfl⟩ ?_;refine Xb (Yz ⟨_,_,rfl⟩) ?_;refine lW ((((ab.atN).part 0 2 _ rfl)).nth (q:=1) rfl)<|go ?_;refine Zp hm (fun hb hm=>go ?_) fun hb hm=>go ?_
    ·refine Wg (col:=ag) (by kernel_rfl) (by kernel_rfl)<|qF ⟨_,_,rfl⟩ ?_;refine qF (Yz ⟨_,_,rfl⟩) ?_;refine qW (fun _ hC=>((((ab.atN).part 0 2 _ rfl)).nth (q:=1) rfl).gr (hC.bl ag)) ?_;refine go ?_;obtain ⟨bm,a8,hm⟩:=bZ hm;refine qI a8 ((ar.ks aa).addr a8)<|qW (fun _ hC=>((ar.ks aa).gr (hC.bl ag)).atInt a8) ?_;refine qF ⟨_,_,rfl⟩ ?_;refine qF (Yz ⟨_,_,rfl⟩) ?_;refine qW (fun _ hC=>((((ae.atN).part 0 2 _ rfl)).nth (q:=1) rfl).gr (hC.bl ag)) ?_;refine go ?_;obtain ⟨bn,a9,hm⟩:=bZ hm;refine qI a9 ((av.ks aa).addr a9)<|qW (fun _ hC=>((av.ks aa).gr (hC.bl ag)).atInt a9) ?_;refine go ?_;refine Yk ?_;intro bo hC;replace hC:=hC.bl ag;replace ab:=ab.gr hC;replace ae:=ae.gr hC;replace aa:=aa.grow hC;refine Zp hm (fun hb hm=>go ?_) fun hb hm=>go ?_
     ·cases hm;exact ⟨rfl,rfl,aa.below⟩
     exact ⟨ai,by omega,rfl,⟨_,_,_,rfl,hm,aa,ab,ae,rfl⟩⟩
    cases hm;exact ⟨rfl,rfl,aa.below⟩
 refine Wh<|Xb ⟨_,_,rfl⟩ ?_;refine Xb (Yz ⟨_,_,rfl⟩) ?_;refine lW ((((ab.atN).part 0 2 _ rfl)).nth (q:=0) rfl)<|Xb ⟨_,_,rfl⟩ ?_;refine Xb (Yz ⟨_,_,rfl⟩) ?_;refine lW ((((ae.atN).part 0 2 _ rfl)).nth (q:=0) rfl)<|go ?_;refine Xn hm (fun ba hm=>go ?_) fun ba hm=>go ?_
 ·refine lV (.bool true) (Z1 (congrArg Value.bool ba) rfl)<|Xx rfl<|lP 25 rfl rfl<|lP 25 rfl rfl<|lP 25 rfl rfl<|lP 25 rfl rfl<|lP 25 rfl rfl<|lP 25 rfl rfl<|lP 25 rfl rfl<|lV (.bool true) (Z1 rfl rfl)<|Zl ?_;exact ⟨rfl,_,_,hm,aa,ab,ae,rfl⟩
 refine Xb ⟨_,_,rfl⟩ ?_;refine go ?_;refine Xb (Yz ⟨_,_,rfl⟩) ?_;refine go ?_;refine lW ((((ab.atN).part 0 2 _ rfl)).nth (q:=1) rfl)<|go ?_;refine Xb ⟨_,_,rfl⟩ ?_;refine go ?_;refine Xb (Yz ⟨_,_,rfl⟩) ?_;refine go ?_;refine lW ((((ae.atN).part 0 2 _ rfl)).nth (q:=1) rfl)<|go ?_;refine lV (.bool (!decide ((ac.1.2.length:Int)=(ad.1.2.length:Int)))) (Xj (congrArg Value.bool ba) rfl)<|Xx rfl ?_;refine Xn hm (fun bb hm=>go ?_) fun bb hm=>go ?_
 ·refine lV (.bool true) (Z1 (congrArg Value.bool bb) rfl)<|Zl ?_;exact ⟨rfl,_,_,hm,aa,ab,ae,rfl⟩
 refine Xb ⟨_,_,rfl⟩ ?_;refine go ?_;refine lW ((ab.atN).nth (q:=2) rfl)<|go ?_;refine Xb ⟨_,_,rfl⟩ ?_;refine go ?_;refine lW ((ae.atN).nth (q:=2) rfl)<|go ?_;refine lV (.bool (!decide ((ac.2.length:Int)=(ad.2.length:Int)))) (Xj (congrArg Value.bool bb) rfl)<|Zl ?_;exact ⟨rfl,_,_,hm,aa,ab,ae,rfl⟩
def Ziz (aa:Int) (kk_L2:(Int→Option Bool)) (ab:Bool):Option Bool:=
  if ab=true then (some false) else (kk_L2 (i64.wrap (aa+1)))
def Zd6 (N:Nat) (ad:R3) (af:R0) (ab:Int) (kk_L2:(Int→Option Bool)) (aa:List Int):Nat→Int→Option Bool
  | 0,_=>none
  | ah+1,ac=>if (decide (ac<(aa.length:Int)))=true then ((Zk ad.2.2.2.1 ab).bind fun ag=>(Zk (ag.2.take ag.1) ac).bind fun ai=>(Zk af.2.2.2.1 ab).bind fun aj=>(Zk aj ac).bind fun ak=>if (!decide (ai=ak))=true then (some false) else ((Zd6 N ad af ab kk_L2 aa ah) (i64.wrap (ac+1)))) else ((Zk ad.2.2.2.1 ab).bind fun ae=>Zv ((0:Int)≤(i64.wrap ((aa.length:Int)+2))∧(i64.wrap ((aa.length:Int)+2))≤(ae.2.length:Int)) ((Zk (ae.2.take (Int.toNat (i64.wrap ((aa.length:Int)+2)))) (aa.length:Int)).bind fun al=>if (!decide (al=(-95)))=true then (Ziz ab kk_L2 true) else ((Zk (ae.2.take (Int.toNat (i64.wrap ((aa.length:Int)+2)))) (i64.wrap ((aa.length:Int)+1))).bind fun am=>Ziz ab kk_L2 (!decide (am=(-96))))))
termination_by structural x=>x
def Zb6 (aa:Int) (kk_L5:(Int→Option Bool)) (ab:Bool):Option Bool:=
  if ab=true then (some false) else (kk_L5 (i64.wrap (aa+1)))
def Zd4 (aa:Int) (kk_L4:(Int→Option Bool)) (ab:Bool):Option Bool:=
  if ab=true then (some false) else (kk_L4 (i64.wrap (aa+1)))
def Sg (N:Nat) (ae:R3) (af:R0) (ab:Int) (kk_L4:(Int→Option Bool)) (ac:Rd):Nat→Int→Option Bool
  | 0,_=>none
  | ag+1,ad=>if (decide (ad<(ac.length:Int)))=true then ((Zk ae.2.2.2.2 ab).bind fun al=>(Zk (al.2.take al.1) ad).bind fun aa=>Zv ((0:Int)≤(i64.wrap (((aa.1.2.2.take aa.1.2.1).length:Int)+2))∧(i64.wrap (((aa.1.2.2.take aa.1.2.1).length:Int)+2))≤(aa.1.2.2.length:Int)) (Zv ((0:Int)≤(i64.wrap (((aa.2.2.take aa.2.1).length:Int)+2))∧(i64.wrap (((aa.2.2.take aa.2.1).length:Int)+2))≤(aa.2.2.length:Int)) ((Zk af.2.2.2.2 ab).bind fun am=>(Zk am ad).bind fun aj=>(Zb8 N ((aa.1.1,aa.1.2.2.take aa.1.2.1),aa.2.2.take aa.2.1) ((aj.1.1,aj.1.2),aj.2)).bind fun an=>if (!an)=true then (Zb6 ad (Sg N ae af ab kk_L4 ac ag) true) else ((Zk (aa.1.2.2.take (Int.toNat (i64.wrap (((aa.1.2.2.take aa.1.2.1).length:Int)+2)))) (i64.wrap (((aa.1.2.2.take (Int.toNat (i64.wrap (((aa.1.2.2.take aa.1.2.1).length:Int)+2)))).length:Int) - 1))).bind fun ao=>if (!decide (ao=902))=true then (Zb6 ad (Sg N ae af ab kk_L4 ac ag) true) else ((Zk (aa.1.2.2.take (Int.toNat (i64.wrap (((aa.1.2.2.take aa.1.2.1).length:Int)+2)))) (i64.wrap (((aa.1.2.2.take (Int.toNat (i64.wrap (((aa.1.2.2.take aa.1.2.1).length:Int)+2)))).length:Int) - 2))).bind fun ap=>if (!decide (ap=901))=true then (Zb6 ad (Sg N ae af ab kk_L4 ac ag) true) else ((Zk (aa.2.2.take (Int.toNat (i64.wrap (((aa.2.2.take aa.2.1).length:Int)+2)))) (i64.wrap (((aa.2.2.take (Int.toNat (i64.wrap (((aa.2.2.take aa.2.1).length:Int)+2)))).length:Int) - 1))).bind fun aq=>if (!decide (aq=904))=true then (Zb6 ad (Sg N ae af ab kk_L4 ac ag) true) else ((Zk (aa.2.2.take (Int.toNat (i64.wrap (((aa.2.2.take aa.2.1).length:Int)+2)))) (i64.wrap (((aa.2.2.take (Int.toNat (i64.wrap (((aa.2.2.take aa.2.1).length:Int)+2)))).length:Int) - 2))).bind fun ar=>Zb6 ad (Sg N ae af ab kk_L4 ac ag) (!decide (ar=903))))))))) else ((Zk ae.2.2.2.2 ab).bind fun ak=>Zv ((0:Int)≤(i64.wrap ((ac.length:Int)+2))∧(i64.wrap ((ac.length:Int)+2))≤(ak.2.length:Int)) ((Zk (ak.2.take (Int.toNat (i64.wrap ((ac.length:Int)+2)))) (ac.length:Int)).bind fun ah=>if (!decide (((ah.2.2.take ah.2.1).length:Int)=1))=true then (Zd4 ab kk_L4 true) else ((Zk (ah.2.2.take ah.2.1) 0).bind fun au=>if (!decide (au=97))=true then (Zd4 ab kk_L4 true) else ((Zk (ak.2.take (Int.toNat (i64.wrap ((ac.length:Int)+2)))) (i64.wrap ((ac.length:Int)+1))).bind fun ai=>if (!decide (((ai.2.2.take ai.2.1).length:Int)=1))=true then (Zd4 ab kk_L4 true) else ((Zk (ai.2.2.take ai.2.1) 0).bind fun av=>Zd4 ab kk_L4 (!decide (av=98)))))))
termination_by structural x=>x
def S6 (N:Nat) (ac:R3) (aa:R0):Nat→Int→Option Bool
  | 0,_=>none
  | af+1,ab=>if (decide (ab<(aa.2.2.2.2.length:Int)))=true then ((Zk aa.2.2.2.2 ab).bind fun ad=>(Zk ac.2.2.2.2 ab).bind fun ae=>if (!decide (((ae.2.take ae.1).length:Int)=(ad.length:Int)))=true then (some false) else (Sg N ac aa ab (S6 N ac aa af) ad N 0)) else (some true)
termination_by structural x=>x
def Q0 (N:Nat) (ab:R3) (aa:R0):Nat→Int→Option Bool
  | 0,_=>none
  | af+1,ac=>if (decide (ac<(aa.2.2.2.1.length:Int)))=true then ((Zk aa.2.2.2.1 ac).bind fun ad=>(Zk ab.2.2.2.1 ac).bind fun ae=>if (!decide (((ae.2.take ae.1).length:Int)=(ad.length:Int)))=true then (some false) else (Zd6 N ab aa ac (Q0 N ab aa af) ad N 0)) else (S6 N ab aa N 0)
termination_by structural x=>x
def Zd5 (N:Nat) (ac:R3) (aa:R0):Nat→Int→Option Bool
  | 0,_=>none
  | ae+1,ab=>if (decide (ab<(aa.2.2.1.length:Int)))=true then ((Zk ac.2.2.1 ab).bind fun ad=>(Zk aa.2.2.1 ab).bind fun af=>(Zee N ad.1 ad.2 af (⟨#[35,51]⟩) (⟨#[35,52]⟩)).bind fun ag=>if (!ag)=true then (some false) else ((Zd5 N ac aa ae) (i64.wrap (ab+1)))) else (Q0 N ac aa N 0)
termination_by structural x=>x
def Zb5 (N:Nat) (aa:R3) (ab:R0) (ac:Bool):Option Bool:=
  if ac=true then (some false) else (Zd5 N aa ab N 0)
def Zgw (N:Nat) (aa:R3) (ab:R0):Option Bool:=
  if (!decide (aa.1=ab.1))=true then (Zb5 N aa ab true) else (if (!decide ((aa.2.2.1.length:Int)=(ab.2.2.1.length:Int)))=true then (Zb5 N aa ab true) else (if (!decide ((aa.2.2.2.1.length:Int)=(ab.2.2.2.1.length:Int)))=true then (Zb5 N aa ab true) else (if (!decide ((aa.2.2.2.2.length:Int)=(ab.2.2.2.2.length:Int)))=true then (Zb5 N aa ab true) else ((Zee N aa.2.1.1 aa.2.1.2 ab.2.1 (⟨#[35,49]⟩) (⟨#[35,50]⟩)).bind fun ac=>Zb5 N aa ab (!ac)))))
theorem Zxz {N al am an ao ap aq ar au:Nat} {av aw ax ay az a0 a1 a2:Option Addr} {col:Zd} {w0:World} {ab:R3} {ac:R0} {r:Bool} (hm:Zgw N ab ac=some r) (cp:Sl Za.str col w0 av al ab.2.1.2) (b1:Sl (Za.view Za.str) col w0 aw am ab.2.2.1) (ba:Sl (Za.view (Za.int .i64)) col w0 ax an ab.2.2.2.1) (bb:Sl (Za.view (Za.pair (Za.pair Za.bool (Za.view (Za.int .u32))) (Za.view (Za.int .u32)))) col w0 ay ao ab.2.2.2.2) (cq:Sl Za.str col w0 az ap ac.2.1) (b2:Sl (Za.slice Za.str) col w0 a0 aq ac.2.2.1) (bi:Sl (Za.slice (Za.int .i64)) col w0 a1 ar ac.2.2.2.1) (bj:Sl (Za.slice (Za.pair (Za.pair Za.bool (Za.slice (Za.int .u32))) (Za.slice (Za.int .u32)))) col w0 a2 au ac.2.2.2.2):
    Calls Tryz.prog 19 #[(.agg #[.string ab.1,.slice av ((ab.2.1.2.take ab.2.1.1).length) al,.slice aw ab.2.2.1.length am,.slice ax ab.2.2.2.1.length an,.slice ay ab.2.2.2.2.length ao]),(.agg #[.string ac.1,.slice az ac.2.1.length ap,.slice a0 ac.2.2.1.length aq,.slice a1 ac.2.2.2.1.length ar,.slice a2 ac.2.2.2.2.length au])] w0 (fun e w'=>e= .returned ((.bool r))∧Below w0.heap.size w0 w'):=by
 refine Xe 4 (m:=283) func19 rfl rfl rfl rfl rfl ?_;rw [Zgw.eq_1] at hm;have aa:=St.start col w0;refine go ?_;refine Xf (col:=(Zi col)) 1 rfl ?_;intro a7 ha ed ee ad;refine Xf (col:=ed) 2 rfl ?_;intro a8 ef d9 ea ae;refine Zct rfl<|Zl<|Zu<|Zu ?_;replace cp:=cp.keep (Zj.start col w0);replace b1:=b1.keep (Zj.start col w0);replace ba:=ba.keep (Zj.start col w0);replace bb:=bb.keep (Zj.start col w0);replace cq:=cq.keep (Zj.start col w0);replace b2:=b2.keep (Zj.start col w0);replace bi:=bi.keep (Zj.start col w0);replace bj:=bj.keep (Zj.start col w0);replace aa:=(aa.grow ee).grow ea;replace ad:=ad.gr ea;refine Wp.cutK [2,3,1000000] (fun f b3=>∃ b4 cr,Zb5 N ab ac cr=some r∧St w0 (Zi col) b4 b3∧Zm 27 1 b4 b3 a7 #[.string ab.1,.slice av ((ab.2.1.2.take ab.2.1.1).length) al,.slice aw ab.2.2.1.length am,.slice ax ab.2.2.2.1.length an,.slice ay ab.2.2.2.2.length ao]∧Zm 27 2 b4 b3 a8 #[.string ac.1,.slice az ac.2.1.length ap,.slice a0 ac.2.2.1.length aq,.slice a1 ac.2.2.2.1.length ar,.slice a2 ac.2.2.2.2.length au]∧[56].map f=[.bool cr]) ?_ ?_
 ·intro f b3 hJ;obtain ⟨b4,cr,hm,aa,ad,ae,hs⟩:=hJ;rw [Zb5.eq_1] at hm;refine .lL [56] hs ?_;refine Zp hm (fun hb hm=>go ?_) fun hb hm=>go ?_
  ·cases hm;exact ⟨rfl,rfl,aa.below⟩
  refine Z0 [2,3,1000000] (fun n f bp=>∃ ak cs bk,bk=n∧Zd5 N ab ac bk cs=some r∧St w0 (Zi col) ak bp∧Zm 27 1 ak bp a7 #[.string ab.1,.slice av ((ab.2.1.2.take ab.2.1.1).length) al,.slice aw ab.2.2.1.length am,.slice ax ab.2.2.2.1.length an,.slice ay ab.2.2.2.2.length ao]∧Zm 27 2 ak bp a8 #[.string ac.1,.slice az ac.2.1.length ap,.slice a0 ac.2.2.1.length aq,.slice a1 ac.2.2.2.1.length ar,.slice a2 ac.2.2.2.2.length au]∧[5].map f=[.int .i64 cs]) N ⟨_,0,_,rfl,hm,aa,ad,ae,rfl⟩ ?_;clear hm;intro n f bp hI;obtain ⟨ak,cs,bk,hn,hm,aa,ad,ae,hs⟩:=hI;subst hn;refine .lL [5] hs ?_
  cases bk with
  | zero=>rw [Zd5.eq_1] at hm;cases hm
  | succ bk=>
   rw [Zd5.eq_2] at hm;refine go ?_;refine Z7 ae ?_;refine go ?_;refine Zp hm (fun hb hm=>go ?_) fun hb hm=>go ?_
   ·refine Wg (col:=ak) (by kernel_rfl) (by kernel_rfl)<|qF ⟨_,_,rfl⟩ ?_;refine qW (fun _ hC=>((ad.atN).nth (q:=2) rfl).gr (hC.bl ak)) ?_;refine go ?_;obtain ⟨eg,ct,hm⟩:=bZ hm;refine qI ct ((b1.ks aa).addr ct) ?_;obtain ⟨_,eh,ei⟩:=(b1.ks aa).atN ct;obtain ⟨⟨ej,ek,rfl,cu⟩,_⟩:=eh;replace cu:Sl Za.str ak bp ej ek eg.2:=cu;refine qW (fun _ hC=>ei.one.gr (hC.bl ak)) ?_;refine qF ⟨_,_,rfl⟩ ?_;refine qW (fun _ hC=>((ae.atN).nth (q:=2) rfl).gr (hC.bl ak)) ?_;refine go ?_;obtain ⟨hc,cv,hm⟩:=bZ hm;refine qI cv ((b2.ks aa).addr cv) ?_;obtain ⟨_,el,em⟩:=(b2.ks aa).atN cv;obtain ⟨⟨hd,he,rfl,en⟩,_⟩:=el;refine qW (fun _ hC=>em.one.gr (hC.bl ak)) ?_;obtain ⟨eo,ep,hm⟩:=bZ hm;refine qc (v:=(.bool eo)) rfl (fun _ hC=>⟨_,_,Ztl call82 rfl rfl rfl rfl,(Zpi ep (cu.gr (hC.bl ak)) (en.gr (hC.bl ak)):).mono fun _ _ h=>⟨h.1,hC.trans (.of_below h.2)⟩⟩) ?_;refine go ?_;refine Yk ?_;intro hf hC;replace hC:=hC.bl ak;replace ad:=ad.gr hC;replace ae:=ae.gr hC;replace aa:=aa.grow hC;refine Zp hm (fun hb hm=>go ?_) fun hb hm=>go ?_
    ·cases hm;exact ⟨rfl,rfl,aa.below⟩
    exact ⟨bk,by omega,rfl,⟨_,_,_,rfl,hm,aa,ad,ae,rfl⟩⟩
   refine Z0 [2,3,1000000] (fun n f b5=>∃ b6 bq bc,bc=n∧Q0 N ab ac bc bq=some r∧St w0 (Zi col) b6 b5∧Zm 27 1 b6 b5 a7 #[.string ab.1,.slice av ((ab.2.1.2.take ab.2.1.1).length) al,.slice aw ab.2.2.1.length am,.slice ax ab.2.2.2.1.length an,.slice ay ab.2.2.2.2.length ao]∧Zm 27 2 b6 b5 a8 #[.string ac.1,.slice az ac.2.1.length ap,.slice a0 ac.2.2.1.length aq,.slice a1 ac.2.2.2.1.length ar,.slice a2 ac.2.2.2.2.length au]∧[6].map f=[.int .i64 bq]) N ⟨_,0,_,rfl,hm,aa,ad,ae,rfl⟩ ?_;clear hm;intro n f b5 hI;obtain ⟨b6,bq,bc,hn,hm,aa,ad,ae,hs⟩:=hI;subst hn;refine .lL [6] hs ?_
   cases bc with
   | zero=>rw [Q0.eq_1] at hm;cases hm
   | succ bc=>
    rw [Q0.eq_2] at hm;refine go ?_;refine Z7 ae ?_;refine go ?_;refine Zp hm (fun hb hm=>go ?_) fun hb hm=>go ?_
    ·refine Z7 ae<|Xy rfl ?_;obtain ⟨bd,cw,hm⟩:=bZ hm;refine lI cw ((bi.ks aa).addr cw) ?_;obtain ⟨_,eq,er⟩:=(bi.ks aa).atN cw;obtain ⟨⟨hg,hh,rfl,hi⟩,_⟩:=eq;refine lW er.one<|go ?_;refine Z7 ad<|Xy rfl ?_;obtain ⟨hj,cx,hm⟩:=bZ hm;refine lI cx ((ba.ks aa).addr cx) ?_;obtain ⟨_,es,et⟩:=(ba.ks aa).atN cx;obtain ⟨⟨hk,hl,rfl,ho⟩,_⟩:=es;refine lW et.one<|go ?_;refine Zp hm (fun hb hm=>go ?_) fun hb hm=>go ?_
     ·cases hm;exact ⟨rfl,rfl,aa.below⟩
     refine Z0 [2,3,6,7,1000000] (fun n f bm=>∃ aj cy bn,bn=n∧Zd6 N ab ac bq (Q0 N ab ac bc) bd bn cy=some r∧St w0 (Zi col) aj bm∧Zm 27 1 aj bm a7 #[.string ab.1,.slice av ((ab.2.1.2.take ab.2.1.1).length) al,.slice aw ab.2.2.1.length am,.slice ax ab.2.2.2.1.length an,.slice ay ab.2.2.2.2.length ao]∧Zm 27 2 aj bm a8 #[.string ac.1,.slice az ac.2.1.length ap,.slice a0 ac.2.2.1.length aq,.slice a1 ac.2.2.2.1.length ar,.slice a2 ac.2.2.2.2.length au]∧[8].map f=[.int .i64 cy]) N ⟨_,0,_,rfl,hm,aa,ad,ae,rfl⟩ ?_;clear hm;intro n f bm hI;obtain ⟨aj,cy,bn,hn,hm,aa,ad,ae,hs⟩:=hI;subst hn;refine .lL [8] hs ?_
     cases bn with
     | zero=>rw [Zd6.eq_1] at hm;cases hm
     | succ bn=>
      rw [Zd6.eq_2] at hm;refine go ?_;refine Zp hm (fun hb hm=>go ?_) fun hb hm=>go ?_
      ·refine Wg (col:=aj) (by kernel_rfl) (by kernel_rfl)<|qF ⟨_,_,rfl⟩ ?_;refine qW (fun _ hC=>((ad.atN).nth (q:=3) rfl).gr (hC.bl aj)) ?_;refine go ?_;obtain ⟨cz,c0,hm⟩:=bZ hm;refine qI c0 ((ba.ks aa).addr c0) ?_;obtain ⟨_,eu,ew⟩:=(ba.ks aa).atN c0;obtain ⟨⟨ey,ez,rfl,b7⟩,_⟩:=eu;replace b7:Sl (Za.int .i64) aj bm ey ez cz.2:=b7;refine qW (fun _ hC=>ew.one.gr (hC.bl aj)) ?_;refine go ?_;obtain ⟨hp,c1,hm⟩:=bZ hm;refine qI c1 ((b7.take cz.1).addr c1)<|qW (fun _ hC=>((b7.take cz.1).gr (hC.bl aj)).atInt c1) ?_;refine qF ⟨_,_,rfl⟩ ?_;refine qW (fun _ hC=>((ae.atN).nth (q:=3) rfl).gr (hC.bl aj)) ?_;refine go ?_;obtain ⟨hq,c2,hm⟩:=bZ hm;refine qI c2 ((bi.ks aa).addr c2) ?_;obtain ⟨_,e0,e1⟩:=(bi.ks aa).atN c2;obtain ⟨⟨hr,ht,rfl,eb⟩,_⟩:=e0;refine qW (fun _ hC=>e1.one.gr (hC.bl aj)) ?_;refine go ?_;obtain ⟨hu,c3,hm⟩:=bZ hm;refine qI c3 (eb.addr c3)<|qW (fun _ hC=>(eb.gr (hC.bl aj)).atInt c3) ?_;refine go ?_;refine Yk ?_;intro hv hC;replace hC:=hC.bl aj;replace ad:=ad.gr hC;replace ae:=ae.gr hC;replace aa:=aa.grow hC;refine Zp hm (fun hb hm=>go ?_) fun hb hm=>go ?_
       ·cases hm;exact ⟨rfl,rfl,aa.below⟩
       exact ⟨bn,by omega,rfl,⟨_,_,_,rfl,hm,aa,ad,ae,rfl⟩⟩
      refine Z7 ad<|Xy rfl ?_;obtain ⟨c4,c5,hm⟩:=bZ hm;refine lI c5 ((ba.ks aa).addr c5) ?_;obtain ⟨_,e2,e3⟩:=(ba.ks aa).atN c5;obtain ⟨⟨b8,b9,rfl,bg⟩,_⟩:=e2;replace bg:Sl (Za.int .i64) aj bm b8 b9 c4.2:=bg;refine lW e3.one<|go ?_;obtain ⟨c6,hm⟩:=Zy hm;refine lv (v:=.slice b8 (Int.toNat (i64.wrap ((bd.length:Int)+2))) b9) rfl rfl (Vs underlying40 sizeOf3 rfl rfl c6.1 (by have:=bg.1.2;have:=c6.2;omega))<|.ld (d:=126) (v:=(.slice b8 ((c4.2.take (Int.toNat (i64.wrap ((bd.length:Int)+2)))).length) b9)) (congrArg (fun n=>Value.slice b8 n b9) (List.length_take_of_le (show (Int.toNat (i64.wrap ((bd.length:Int)+2)))≤c4.2.length by have:=c6.2;omega)).symm) ?_;refine U7 rfl<|Zl<|Zu ?_;refine Wp.cutK [2,3,6,1000000] (fun f ca=>∃ cb c7,Ziz bq (Q0 N ab ac bc) c7=some r∧St w0 (Zi col) cb ca∧Zm 27 1 cb ca a7 #[.string ab.1,.slice av ((ab.2.1.2.take ab.2.1.1).length) al,.slice aw ab.2.2.1.length am,.slice ax ab.2.2.2.1.length an,.slice ay ab.2.2.2.2.length ao]∧Zm 27 2 cb ca a8 #[.string ac.1,.slice az ac.2.1.length ap,.slice a0 ac.2.2.1.length aq,.slice a1 ac.2.2.2.1.length ar,.slice a2 ac.2.2.2.2.length au]∧[139].map f=[.bool c7]) ?_ ?_
      ·intro f ca hJ;obtain ⟨cb,c7,hm,aa,ad,ae,hs⟩:=hJ;rw [Ziz.eq_1] at hm;refine .lL [139] hs ?_;refine Zp hm (fun hb hm=>go ?_) fun hb hm=>go ?_
       ·cases hm;exact ⟨rfl,rfl,aa.below⟩
       exact ⟨bc,by omega,rfl,⟨_,_,_,rfl,hm,aa,ad,ae,rfl⟩⟩
      refine go ?_;obtain ⟨hw,c8,hm⟩:=bZ hm;refine lI c8 ((bg.take (Int.toNat (i64.wrap ((bd.length:Int)+2)))).addr c8)<|lW ((bg.take (Int.toNat (i64.wrap ((bd.length:Int)+2)))).atInt c8) ?_;refine go ?_;refine Xn hm (fun c9 hm=>go ?_) fun c9 hm=>go ?_
      ·refine lV (.bool true) (Z1 (congrArg Value.bool c9) rfl)<|Zl ?_;exact ⟨rfl,_,_,hm,aa,ad,ae,rfl⟩
      obtain ⟨e4,da,hm⟩:=bZ hm;refine lI da ((bg.take (Int.toNat (i64.wrap ((bd.length:Int)+2)))).addr da) ?_;refine go ?_;refine lW ((bg.take (Int.toNat (i64.wrap ((bd.length:Int)+2)))).atInt da)<|go ?_;refine lV (.bool (!decide (e4=(-96)))) (Xj (congrArg Value.bool c9) rfl)<|Zl ?_;exact ⟨rfl,_,_,hm,aa,ad,ae,rfl⟩
    refine Z0 [2,3,1000000] (fun n f cc=>∃ cd bo a9,a9=n∧S6 N ab ac a9 bo=some r∧St w0 (Zi col) cd cc∧Zm 27 1 cd cc a7 #[.string ab.1,.slice av ((ab.2.1.2.take ab.2.1.1).length) al,.slice aw ab.2.2.1.length am,.slice ax ab.2.2.2.1.length an,.slice ay ab.2.2.2.2.length ao]∧Zm 27 2 cd cc a8 #[.string ac.1,.slice az ac.2.1.length ap,.slice a0 ac.2.2.1.length aq,.slice a1 ac.2.2.2.1.length ar,.slice a2 ac.2.2.2.2.length au]∧[10].map f=[.int .i64 bo]) N ⟨_,0,_,rfl,hm,aa,ad,ae,rfl⟩ ?_;clear hm;intro n f cc hI;obtain ⟨cd,bo,a9,hn,hm,aa,ad,ae,hs⟩:=hI;subst hn;refine .lL [10] hs ?_
    cases a9 with
    | zero=>rw [S6.eq_1] at hm;cases hm
    | succ a9=>
     rw [S6.eq_2] at hm;refine go ?_;refine Z7 ae ?_;refine go ?_;refine Zp hm (fun hb hm=>go ?_) fun hb hm=>go ?_
     ·refine Z7 ae<|Xy rfl ?_;obtain ⟨ah,db,hm⟩:=bZ hm;refine lI db ((bj.ks aa).addr db) ?_;obtain ⟨_,e5,e6⟩:=(bj.ks aa).atN db;obtain ⟨⟨hx,hy,rfl,hz⟩,_⟩:=e5;refine lW e6.one<|go ?_;refine Z7 ad<|Xy rfl ?_;obtain ⟨h0,dc,hm⟩:=bZ hm;refine lI dc ((bb.ks aa).addr dc) ?_;obtain ⟨_,e7,e8⟩:=(bb.ks aa).atN dc;obtain ⟨⟨h1,h2,rfl,h3⟩,_⟩:=e7;refine lW e8.one<|go ?_;refine Zp hm (fun hb hm=>go ?_) fun hb hm=>go ?_
      ·cases hm;exact ⟨rfl,rfl,aa.below⟩
      refine Z0 [10,11,2,3,1000000] (fun n f a4=>∃ a3 ce bh,bh=n∧Sg N ab ac bo (S6 N ab ac a9) ah bh ce=some r∧St w0 (Zi col) a3 a4∧Zm 27 1 a3 a4 a7 #[.string ab.1,.slice av ((ab.2.1.2.take ab.2.1.1).length) al,.slice aw ab.2.2.1.length am,.slice ax ab.2.2.2.1.length an,.slice ay ab.2.2.2.2.length ao]∧Zm 27 2 a3 a4 a8 #[.string ac.1,.slice az ac.2.1.length ap,.slice a0 ac.2.2.1.length aq,.slice a1 ac.2.2.2.1.length ar,.slice a2 ac.2.2.2.2.length au]∧[12].map f=[.int .i64 ce]) N ⟨_,0,_,rfl,hm,aa,ad,ae,rfl⟩ ?_;clear hm;intro n f a4 hI;obtain ⟨a3,ce,bh,hn,hm,aa,ad,ae,hs⟩:=hI;subst hn;refine .lL [12] hs ?_
      cases bh with
      | zero=>rw [Sg.eq_1] at hm;cases hm
      | succ bh=>
       rw [Sg.eq_2] at hm;refine go ?_;refine Zp hm (fun hb hm=>go ?_) fun hb hm=>go ?_
       ·refine Z7 ad<|Xy rfl ?_;obtain ⟨dd,de,hm⟩:=bZ hm;refine lI de ((bb.ks aa).addr de) ?_;obtain ⟨_,e9,fa⟩:=(bb.ks aa).atN de;obtain ⟨⟨fb,fc,rfl,cf⟩,_⟩:=e9;replace cf:Sl (Za.pair (Za.pair Za.bool (Za.view (Za.int .u32))) (Za.view (Za.int .u32))) a3 a4 fb fc dd.2:=cf;refine lW fa.one<|Xy rfl ?_;obtain ⟨af,df,hm⟩:=bZ hm;refine lI df ((cf.take dd.1).addr df) ?_;obtain ⟨_,fd,fe⟩:=(cf.take dd.1).atN df;obtain ⟨_,_,rfl,ff,fg⟩:=Ym fd;obtain ⟨_,_,rfl,fh,fi⟩:=Ym ff;obtain ⟨rfl,_⟩:=fh;obtain ⟨⟨br,bs,rfl,a5⟩,_⟩:=fi;replace a5:Sl (Za.int .u32) a3 a4 br bs af.1.2.2:=a5;obtain ⟨⟨bt,bu,rfl,a6⟩,_⟩:=fg;replace a6:Sl (Za.int .u32) a3 a4 bt bu af.2.2:=a6;refine lV (.agg #[.bool af.1.1,.slice br ((af.1.2.2.take af.1.2.1).length) bs,.slice bt ((af.2.2.take af.2.1).length) bu]) (Xv isAgg47 sizeOf47 rfl rfl fe)<|Xr (col:=a3) #[.bool false,.slice none (([]:List Int).length) 0,.slice none (([]:List Int).length) 0] 3 zeroValue47 ?_;intro h4 h5 ag bv fj;refine Z9 fj ?_;intro h6 bw fk bx;refine go ?_;refine Xb ⟨_,_,rfl⟩ ?_;refine Xb (Yz ⟨_,_,rfl⟩) ?_;refine lW ((((bx.atN).part 0 2 _ rfl)).nth (q:=1) rfl)<|Xb ⟨_,_,rfl⟩ ?_;refine Xb (Yz ⟨_,_,rfl⟩) ?_;refine lW ((((bx.atN).part 0 2 _ rfl)).nth (q:=1) rfl)<|go ?_;obtain ⟨dg,hm⟩:=Zy hm;replace a5:=(a5.gr bv).kp bw;refine lv (v:=.slice br (Int.toNat (i64.wrap (((af.1.2.2.take af.1.2.1).length:Int)+2))) bs) rfl rfl (Vs underlying43 sizeOf79 rfl rfl dg.1 (by have:=a5.1.2;have:=dg.2;omega))<|.ld (d:=182) (v:=(.slice br ((af.1.2.2.take (Int.toNat (i64.wrap (((af.1.2.2.take af.1.2.1).length:Int)+2)))).length) bs)) (congrArg (fun n=>Value.slice br n bs) (List.length_take_of_le (show (Int.toNat (i64.wrap (((af.1.2.2.take af.1.2.1).length:Int)+2)))≤af.1.2.2.length by have:=dg.2;omega)).symm) ?_;refine go ?_;refine Z7 bx<|Z7 bx ?_;refine go ?_;obtain ⟨dh,hm⟩:=Zy hm;replace a6:=(a6.gr bv).kp bw
        refine lv (v:=.slice bt (Int.toNat (i64.wrap (((af.2.2.take af.2.1).length:Int)+2))) bu) rfl rfl (Vs underlying43 sizeOf79 rfl rfl dh.1 (by have:=a6.1.2;have:=dh.2;omega))<|.ld (d:=189) (v:=(.slice bt ((af.2.2.take (Int.toNat (i64.wrap (((af.2.2.take af.2.1).length:Int)+2)))).length) bu)) (congrArg (fun n=>Value.slice bt n bu) (List.length_take_of_le (show (Int.toNat (i64.wrap (((af.2.2.take af.2.1).length:Int)+2)))≤af.2.2.length by have:=dh.2;omega)).symm) ?_;refine U7 rfl<|Zl<|Zu ?_;replace ad:=(ad.gr bv).kp bw;replace ae:=(ae.gr bv).kp bw;replace aa:=(aa.grow bv).kp bw fk;refine Wp.cutK [10,11,12,2,3,1000000] (fun f cg=>∃ ch di,Zb6 ce (Sg N ab ac bo (S6 N ab ac a9) ah bh) di=some r∧St w0 (Zi col) ch cg∧Zm 27 1 ch cg a7 #[.string ab.1,.slice av ((ab.2.1.2.take ab.2.1.1).length) al,.slice aw ab.2.2.1.length am,.slice ax ab.2.2.2.1.length an,.slice ay ab.2.2.2.2.length ao]∧Zm 27 2 ch cg a8 #[.string ac.1,.slice az ac.2.1.length ap,.slice a0 ac.2.2.1.length aq,.slice a1 ac.2.2.2.1.length ar,.slice a2 ac.2.2.2.2.length au]∧[236].map f=[.bool di]) ?_ ?_
        ·intro f cg hJ;obtain ⟨ch,di,hm,aa,ad,ae,hs⟩:=hJ;rw [Zb6.eq_1] at hm;refine .lL [236] hs ?_;refine Zp hm (fun hb hm=>go ?_) fun hb hm=>go ?_
         ·cases hm;exact ⟨rfl,rfl,aa.below⟩
         exact ⟨bh,by omega,rfl,⟨_,_,_,rfl,hm,aa,ad,ae,rfl⟩⟩
        refine Wg (col:=ag) (by kernel_rfl) (by kernel_rfl)<|qv rfl (fun _ hC=>Z8 isAgg47 sizeOf47 (bx.gr (hC.bl ag))) ?_;refine qF ⟨_,_,rfl⟩ ?_;refine qW (fun _ hC=>((ae.atN).nth (q:=4) rfl).gr (hC.bl ag)) ?_;refine go ?_;obtain ⟨h7,dj,hm⟩:=bZ hm;refine qI dj ((bj.ks aa).addr dj) ?_;obtain ⟨_,fl,fm⟩:=(bj.ks aa).atN dj;obtain ⟨⟨h8,h9,rfl,ec⟩,_⟩:=fl;refine qW (fun _ hC=>fm.one.gr (hC.bl ag)) ?_;refine go ?_;obtain ⟨dk,dl,hm⟩:=bZ hm;refine qI dl (ec.addr dl) ?_;obtain ⟨_,fn,fp⟩:=ec.atN dl;obtain ⟨_,_,rfl,fq,fr⟩:=Ym fn;obtain ⟨_,_,rfl,ft,fu⟩:=Ym fq;obtain ⟨rfl,_⟩:=ft;obtain ⟨⟨fv,fw,rfl,fx⟩,_⟩:=fu;obtain ⟨⟨fy,fz,rfl,f0⟩,_⟩:=fr;refine qv (v:=(.agg #[.bool dk.1.1,.slice fv dk.1.2.length fw,.slice fy dk.2.length fz])) rfl (fun _ hC=>Xv isAgg47 sizeOf47 rfl rfl (fp.gr (hC.bl ag))) ?_;obtain ⟨f1,f2,hm⟩:=bZ hm;refine qc (v:=(.bool f1)) rfl (fun _ hC=>⟨_,_,Ts call25 rfl rfl,(Zpg f2 ((a5.take af.1.2.1).gr (hC.bl ag)) ((a6.take af.2.1).gr (hC.bl ag)) (fx.gr (hC.bl ag)) (f0.gr (hC.bl ag)):).mono fun _ _ h=>⟨h.1,hC.trans (.of_below h.2)⟩⟩) ?_;refine go ?_;refine Xn hm (fun dm hm=>go ?_) fun dm hm=>go ?_
        ·refine qv (v:=(.bool true)) rfl (fun _ hC=>Z1 (congrArg Value.bool dm) rfl) ?_;refine go ?_;refine qP 210 rfl rfl<|qP 210 rfl rfl<|qP 210 rfl rfl<|qP 210 rfl rfl<|qP 210 rfl rfl<|qP 210 rfl rfl<|qP 210 rfl rfl<|qv (v:=(.bool true)) rfl (fun _ hC=>Z1 rfl rfl) ?_;refine go ?_;refine qP 219 rfl rfl<|qP 219 rfl rfl<|qP 219 rfl rfl<|qP 219 rfl rfl<|qP 219 rfl rfl<|qP 219 rfl rfl<|qP 219 rfl rfl<|qv (v:=(.bool true)) rfl (fun _ hC=>Z1 rfl rfl) ?_;refine go ?_;refine qP 228 rfl rfl<|qP 228 rfl rfl<|qP 228 rfl rfl<|qP 228 rfl rfl<|qP 228 rfl rfl<|qP 228 rfl rfl<|qP 228 rfl rfl<|qv (v:=(.bool true)) rfl (fun _ hC=>Z1 rfl rfl) ?_;refine Yk ?_;intro ia hC;replace hC:=hC.bl ag;replace ad:=ad.gr hC;replace ae:=ae.gr hC;replace aa:=aa.grow hC;exact ⟨rfl,_,_,hm,aa,ad,ae,rfl⟩
        obtain ⟨f3,dn,hm⟩:=bZ hm;refine qI dn ((a5.take (Int.toNat (i64.wrap (((af.1.2.2.take af.1.2.1).length:Int)+2)))).addr dn) ?_;refine go ?_;refine qW (fun _ hC=>((a5.take (Int.toNat (i64.wrap (((af.1.2.2.take af.1.2.1).length:Int)+2)))).gr (hC.bl ag)).atInt dn) ?_;refine go ?_;refine qv (v:=(.bool (!decide (f3=902)))) rfl (fun _ hC=>Xj (congrArg Value.bool dm) rfl) ?_;refine go ?_;refine Xn hm (fun dp hm=>go ?_) fun dp hm=>go ?_
        ·refine qv (v:=(.bool true)) rfl (fun _ hC=>Z1 (congrArg Value.bool dp) rfl) ?_;refine go ?_;refine qP 219 rfl rfl<|qP 219 rfl rfl<|qP 219 rfl rfl<|qP 219 rfl rfl<|qP 219 rfl rfl<|qP 219 rfl rfl<|qP 219 rfl rfl<|qv (v:=(.bool true)) rfl (fun _ hC=>Z1 rfl rfl) ?_;refine go ?_;refine qP 228 rfl rfl<|qP 228 rfl rfl<|qP 228 rfl rfl<|qP 228 rfl rfl<|qP 228 rfl rfl<|qP 228 rfl rfl<|qP 228 rfl rfl<|qv (v:=(.bool true)) rfl (fun _ hC=>Z1 rfl rfl) ?_;refine Yk ?_;intro ib hC;replace hC:=hC.bl ag;replace ad:=ad.gr hC;replace ae:=ae.gr hC;replace aa:=aa.grow hC;exact ⟨rfl,_,_,hm,aa,ad,ae,rfl⟩
        obtain ⟨f4,dq,hm⟩:=bZ hm;refine qI dq ((a5.take (Int.toNat (i64.wrap (((af.1.2.2.take af.1.2.1).length:Int)+2)))).addr dq) ?_;refine go ?_;refine qW (fun _ hC=>((a5.take (Int.toNat (i64.wrap (((af.1.2.2.take af.1.2.1).length:Int)+2)))).gr (hC.bl ag)).atInt dq) ?_;refine go ?_;refine qv (v:=(.bool (!decide (f4=901)))) rfl (fun _ hC=>Xj (congrArg Value.bool dp) rfl) ?_;refine go ?_;refine Xn hm (fun dr hm=>go ?_) fun dr hm=>go ?_
        ·refine qv (v:=(.bool true)) rfl (fun _ hC=>Z1 (congrArg Value.bool dr) rfl) ?_;refine go ?_;refine qP 228 rfl rfl<|qP 228 rfl rfl<|qP 228 rfl rfl<|qP 228 rfl rfl<|qP 228 rfl rfl<|qP 228 rfl rfl<|qP 228 rfl rfl<|qv (v:=(.bool true)) rfl (fun _ hC=>Z1 rfl rfl) ?_;refine Yk ?_;intro ic hC;replace hC:=hC.bl ag;replace ad:=ad.gr hC;replace ae:=ae.gr hC;replace aa:=aa.grow hC;exact ⟨rfl,_,_,hm,aa,ad,ae,rfl⟩
        obtain ⟨f5,ds,hm⟩:=bZ hm;refine qI ds ((a6.take (Int.toNat (i64.wrap (((af.2.2.take af.2.1).length:Int)+2)))).addr ds) ?_;refine go ?_;refine qW (fun _ hC=>((a6.take (Int.toNat (i64.wrap (((af.2.2.take af.2.1).length:Int)+2)))).gr (hC.bl ag)).atInt ds) ?_;refine go ?_;refine qv (v:=(.bool (!decide (f5=904)))) rfl (fun _ hC=>Xj (congrArg Value.bool dr) rfl) ?_;refine go ?_;refine Xn hm (fun dt hm=>go ?_) fun dt hm=>go ?_
        ·refine qv (v:=(.bool true)) rfl (fun _ hC=>Z1 (congrArg Value.bool dt) rfl) ?_;refine Yk ?_;intro id hC;replace hC:=hC.bl ag;replace ad:=ad.gr hC;replace ae:=ae.gr hC;replace aa:=aa.grow hC;exact ⟨rfl,_,_,hm,aa,ad,ae,rfl⟩
        obtain ⟨f6,du,hm⟩:=bZ hm;refine qI du ((a6.take (Int.toNat (i64.wrap (((af.2.2.take af.2.1).length:Int)+2)))).addr du) ?_;refine go ?_;refine qW (fun _ hC=>((a6.take (Int.toNat (i64.wrap (((af.2.2.take af.2.1).length:Int)+2)))).gr (hC.bl ag)).atInt du) ?_;refine go ?_;refine qv (v:=(.bool (!decide (f6=903)))) rfl (fun _ hC=>Xj (congrArg Value.bool dt) rfl) ?_;refine Yk ?_;intro ie hC;replace hC:=hC.bl ag;replace ad:=ad.gr hC;replace ae:=ae.gr hC;replace aa:=aa.grow hC;exact ⟨rfl,_,_,hm,aa,ad,ae,rfl⟩
       refine Z7 ad<|Xy rfl ?_;obtain ⟨dv,dw,hm⟩:=bZ hm;refine lI dw ((bb.ks aa).addr dw) ?_;obtain ⟨_,f7,f8⟩:=(bb.ks aa).atN dw;obtain ⟨⟨ci,cj,rfl,ai⟩,_⟩:=f7;replace ai:Sl (Za.pair (Za.pair Za.bool (Za.view (Za.int .u32))) (Za.view (Za.int .u32))) a3 a4 ci cj dv.2:=ai;refine lW f8.one<|go ?_;obtain ⟨dx,hm⟩:=Zy hm;refine lv (v:=.slice ci (Int.toNat (i64.wrap ((ah.length:Int)+2))) cj) rfl rfl (Vs underlying56 sizeOf47 rfl rfl dx.1 (by have:=ai.1.2;have:=dx.2;omega))<|.ld (d:=244) (v:=(.slice ci ((dv.2.take (Int.toNat (i64.wrap ((ah.length:Int)+2)))).length) cj)) (congrArg (fun n=>Value.slice ci n cj) (List.length_take_of_le (show (Int.toNat (i64.wrap ((ah.length:Int)+2)))≤dv.2.length by have:=dx.2;omega)).symm) ?_;refine U7 rfl<|Zl<|Zu ?_;refine Wp.cutK [10,2,3,1000000] (fun f ck=>∃ cl dy,Zd4 bo (S6 N ab ac a9) dy=some r∧St w0 (Zi col) cl ck∧Zm 27 1 cl ck a7 #[.string ab.1,.slice av ((ab.2.1.2.take ab.2.1.1).length) al,.slice aw ab.2.2.1.length am,.slice ax ab.2.2.2.1.length an,.slice ay ab.2.2.2.2.length ao]∧Zm 27 2 cl ck a8 #[.string ac.1,.slice az ac.2.1.length ap,.slice a0 ac.2.2.1.length aq,.slice a1 ac.2.2.2.1.length ar,.slice a2 ac.2.2.2.2.length au]∧[282].map f=[.bool dy]) ?_ ?_
       ·intro f ck hJ;obtain ⟨cl,dy,hm,aa,ad,ae,hs⟩:=hJ;rw [Zd4.eq_1] at hm;refine .lL [282] hs ?_;refine Zp hm (fun hb hm=>go ?_) fun hb hm=>go ?_
        ·cases hm;exact ⟨rfl,rfl,aa.below⟩
        exact ⟨a9,by omega,rfl,⟨_,_,_,rfl,hm,aa,ad,ae,rfl⟩⟩
       refine go ?_;obtain ⟨dz,be,hm⟩:=bZ hm;refine lI be ((ai.take (Int.toNat (i64.wrap ((ah.length:Int)+2)))).addr be)<|Xb (Yz ((ai.take (Int.toNat (i64.wrap ((ah.length:Int)+2)))).addr be)) ?_;obtain ⟨_,f9,ga⟩:=(ai.take (Int.toNat (i64.wrap ((ah.length:Int)+2)))).atN be;obtain ⟨_,_,rfl,gb,gc⟩:=Ym f9;obtain ⟨_,_,rfl,gd,ge⟩:=Ym gb;obtain ⟨rfl,_⟩:=gd;obtain ⟨⟨ig,ih,rfl,ii⟩,_⟩:=ge;obtain ⟨⟨ij,ik,rfl,il⟩,_⟩:=gc;refine lW ((ga).nth (q:=2) rfl)<|go ?_;refine Xn hm (fun d0 hm=>go ?_) fun d0 hm=>go ?_
       ·refine lV (.bool true) (Z1 (congrArg Value.bool d0) rfl)<|Xx rfl<|lP 262 rfl rfl<|lP 262 rfl rfl<|lP 262 rfl rfl<|lP 262 rfl rfl<|lP 262 rfl rfl<|lP 262 rfl rfl<|lP 262 rfl rfl<|lP 262 rfl rfl<|lV (.bool true) (Z1 rfl rfl)<|Xx rfl<|lP 272 rfl rfl<|lP 272 rfl rfl<|lP 272 rfl rfl<|lP 272 rfl rfl<|lP 272 rfl rfl<|lP 272 rfl rfl<|lP 272 rfl rfl<|lP 272 rfl rfl<|lP 272 rfl rfl<|lV (.bool true) (Z1 rfl rfl)<|Zl ?_;exact ⟨rfl,_,_,hm,aa,ad,ae,rfl⟩
       refine lI be ((ai.take (Int.toNat (i64.wrap ((ah.length:Int)+2)))).addr be) ?_;refine go ?_;refine Xb (Yz ((ai.take (Int.toNat (i64.wrap ((ah.length:Int)+2)))).addr be)) ?_;refine go ?_;obtain ⟨_,gf,gg⟩:=(ai.take (Int.toNat (i64.wrap ((ah.length:Int)+2)))).atN be;obtain ⟨_,_,rfl,gh,gi⟩:=Ym gf;obtain ⟨_,_,rfl,gj,gk⟩:=Ym gh;obtain ⟨rfl,_⟩:=gj;obtain ⟨⟨im,io,rfl,ip⟩,_⟩:=gk;obtain ⟨⟨gl,gm,rfl,cn⟩,_⟩:=gi;replace cn:Sl (Za.int .u32) a3 a4 gl gm dz.2.2:=cn;refine lW ((gg).nth (q:=2) rfl)<|go ?_;obtain ⟨gp,d1,hm⟩:=bZ hm;refine lI d1 ((cn.take dz.2.1).addr d1) ?_;refine go ?_;refine lW ((cn.take dz.2.1).atInt d1)<|go ?_;refine lV (.bool (!decide (gp=97))) (Xj (congrArg Value.bool d0) rfl)<|Xx rfl ?_;refine Xn hm (fun d2 hm=>go ?_) fun d2 hm=>go ?_
       ·refine lV (.bool true) (Z1 (congrArg Value.bool d2) rfl)<|Xx rfl<|lP 272 rfl rfl<|lP 272 rfl rfl<|lP 272 rfl rfl<|lP 272 rfl rfl<|lP 272 rfl rfl<|lP 272 rfl rfl<|lP 272 rfl rfl<|lP 272 rfl rfl<|lP 272 rfl rfl<|lV (.bool true) (Z1 rfl rfl)<|Zl ?_;exact ⟨rfl,_,_,hm,aa,ad,ae,rfl⟩
       obtain ⟨bz,bf,hm⟩:=bZ hm;refine lI bf ((ai.take (Int.toNat (i64.wrap ((ah.length:Int)+2)))).addr bf) ?_;refine go ?_;refine Xb (Yz ((ai.take (Int.toNat (i64.wrap ((ah.length:Int)+2)))).addr bf)) ?_;refine go ?_;obtain ⟨_,gs,gt⟩:=(ai.take (Int.toNat (i64.wrap ((ah.length:Int)+2)))).atN bf;obtain ⟨_,_,rfl,gu,gv⟩:=Ym gs;obtain ⟨_,_,rfl,gw,gx⟩:=Ym gu;obtain ⟨rfl,_⟩:=gw;obtain ⟨⟨iq,ir,rfl,it⟩,_⟩:=gx;obtain ⟨⟨iu,iv,rfl,iw⟩,_⟩:=gv;refine lW ((gt).nth (q:=2) rfl)<|go ?_;refine lV (.bool (!decide (((bz.2.2.take bz.2.1).length:Int)=1))) (Xj (congrArg Value.bool d2) rfl)<|Xx rfl ?_;refine Xn hm (fun d3 hm=>go ?_) fun d3 hm=>go ?_
       ·refine lV (.bool true) (Z1 (congrArg Value.bool d3) rfl)<|Zl ?_;exact ⟨rfl,_,_,hm,aa,ad,ae,rfl⟩
       refine lI bf ((ai.take (Int.toNat (i64.wrap ((ah.length:Int)+2)))).addr bf) ?_;refine go ?_;refine Xb (Yz ((ai.take (Int.toNat (i64.wrap ((ah.length:Int)+2)))).addr bf)) ?_;refine go ?_;obtain ⟨_,gy,gz⟩:=(ai.take (Int.toNat (i64.wrap ((ah.length:Int)+2)))).atN bf;obtain ⟨_,_,rfl,g0,g1⟩:=Ym gy;obtain ⟨_,_,rfl,g2,g3⟩:=Ym g0;obtain ⟨rfl,_⟩:=g2;obtain ⟨⟨ix,iy,rfl,iz⟩,_⟩:=g3;obtain ⟨⟨g4,g5,rfl,co⟩,_⟩:=g1;replace co:Sl (Za.int .u32) a3 a4 g4 g5 bz.2.2:=co;refine lW ((gz).nth (q:=2) rfl)<|go ?_;obtain ⟨g6,d4,hm⟩:=bZ hm;refine lI d4 ((co.take bz.2.1).addr d4) ?_;refine go ?_;refine lW ((co.take bz.2.1).atInt d4)<|go ?_;refine lV (.bool (!decide (g6=98))) (Xj (congrArg Value.bool d3) rfl)<|Zl ?_;exact ⟨rfl,_,_,hm,aa,ad,ae,rfl⟩
     cases hm;exact ⟨rfl,rfl,aa.below⟩
 refine Wh<|Z7 ad<|Z7 ae ?_;refine go ?_;refine Xn hm (fun d5 hm=>go ?_) fun d5 hm=>go ?_
 ·refine lV (.bool true) (Z1 (congrArg Value.bool d5) rfl)<|Xx rfl<|lP 31 rfl rfl<|lP 31 rfl rfl<|lP 31 rfl rfl<|lP 31 rfl rfl<|lP 31 rfl rfl<|lP 31 rfl rfl<|lP 31 rfl rfl<|lV (.bool true) (Z1 rfl rfl)<|Xx rfl<|lP 40 rfl rfl<|lP 40 rfl rfl<|lP 40 rfl rfl<|lP 40 rfl rfl<|lP 40 rfl rfl<|lP 40 rfl rfl<|lP 40 rfl rfl<|lV (.bool true) (Z1 rfl rfl)<|Xx rfl<|lP 49 rfl rfl<|lP 49 rfl rfl<|lP 49 rfl rfl<|lP 49 rfl rfl<|lP 49 rfl rfl<|lP 49 rfl rfl<|lV (.bool true) (Z1 rfl rfl)<|Zl ?_;exact ⟨rfl,_,_,hm,aa,ad,ae,rfl⟩
 refine Xb ⟨_,_,rfl⟩ ?_;refine go ?_;refine lW ((ad.atN).nth (q:=2) rfl)<|go ?_;refine Xb ⟨_,_,rfl⟩ ?_;refine go ?_;refine lW ((ae.atN).nth (q:=2) rfl)<|go ?_;refine lV (.bool (!decide ((ab.2.2.1.length:Int)=(ac.2.2.1.length:Int)))) (Xj (congrArg Value.bool d5) rfl)<|Xx rfl ?_;refine Xn hm (fun d6 hm=>go ?_) fun d6 hm=>go ?_
 ·refine lV (.bool true) (Z1 (congrArg Value.bool d6) rfl)<|Xx rfl<|lP 40 rfl rfl<|lP 40 rfl rfl<|lP 40 rfl rfl<|lP 40 rfl rfl<|lP 40 rfl rfl<|lP 40 rfl rfl<|lP 40 rfl rfl<|lV (.bool true) (Z1 rfl rfl)<|Xx rfl<|lP 49 rfl rfl<|lP 49 rfl rfl<|lP 49 rfl rfl<|lP 49 rfl rfl<|lP 49 rfl rfl<|lP 49 rfl rfl<|lV (.bool true) (Z1 rfl rfl)<|Zl ?_;exact ⟨rfl,_,_,hm,aa,ad,ae,rfl⟩
 refine Xb ⟨_,_,rfl⟩ ?_;refine go ?_;refine lW ((ad.atN).nth (q:=3) rfl)<|go ?_;refine Xb ⟨_,_,rfl⟩ ?_;refine go ?_;refine lW ((ae.atN).nth (q:=3) rfl)<|go ?_;refine lV (.bool (!decide ((ab.2.2.2.1.length:Int)=(ac.2.2.2.1.length:Int)))) (Xj (congrArg Value.bool d6) rfl)<|Xx rfl ?_;refine Xn hm (fun d7 hm=>go ?_) fun d7 hm=>go ?_
 ·refine lV (.bool true) (Z1 (congrArg Value.bool d7) rfl)<|Xx rfl<|lP 49 rfl rfl<|lP 49 rfl rfl<|lP 49 rfl rfl<|lP 49 rfl rfl<|lP 49 rfl rfl<|lP 49 rfl rfl<|lV (.bool true) (Z1 rfl rfl)<|Zl ?_;exact ⟨rfl,_,_,hm,aa,ad,ae,rfl⟩
 refine Xb ⟨_,_,rfl⟩ ?_;refine go ?_;refine lW ((ad.atN).nth (q:=4) rfl)<|go ?_;refine Xb ⟨_,_,rfl⟩ ?_;refine go ?_;refine lW ((ae.atN).nth (q:=4) rfl)<|go ?_;refine lV (.bool (!decide ((ab.2.2.2.2.length:Int)=(ac.2.2.2.2.length:Int)))) (Xj (congrArg Value.bool d7) rfl)<|Xx rfl ?_;refine Xn hm (fun d8 hm=>go ?_) fun d8 hm=>go ?_
 ·refine lV (.bool true) (Z1 (congrArg Value.bool d8) rfl)<|Zl ?_;exact ⟨rfl,_,_,hm,aa,ad,ae,rfl⟩
 refine Xb ⟨_,_,rfl⟩ ?_;refine go ?_;refine lW ((ad.atN).nth (q:=1) rfl)<|go ?_;refine Xb ⟨_,_,rfl⟩ ?_;refine go ?_;refine lW ((ae.atN).nth (q:=1) rfl)<|go ?_;obtain ⟨g7,g8,hm⟩:=bZ hm;refine Zh (Zpi g8 (cp.ks aa) (cq.ks aa)) ?_;rintro _ g9 ⟨rfl,b0⟩;refine ⟨_,rfl,?_⟩;replace b0:Zf d9 ef d9 g9:=.of_below b0;refine go ?_;refine lV (.bool (!g7)) (Xj (congrArg Value.bool d8) rfl)<|Zl ?_;replace ad:=ad.gr b0;replace ae:=ae.gr b0;replace aa:=aa.grow b0;exact ⟨rfl,_,_,hm,aa,ad,ae,rfl⟩
abbrev Zhl:=ByteArray×List ByteArray×List R9×List R2×List (List QV)
abbrev VQ:=(Bool×R5)×R5
def Y6 {α:Type} (ms l:List α):Nat×List α:=(l.length,l++ms)
def Yf (x:QV):VQ:=((x.1.1,Y6 [901,902] x.1.2),Y6 [903,904] x.2)
def Q1 (k:Int):VQ:=((false,(0,[])),([k].length,[k]))
def Wz (t:List QV):Nat×List VQ:=(t.length,t.map Yf++[Q1 97,Q1 98])
def Yt (n:Zhl):ByteArray×R6×List R6×List R5×List (Nat×List VQ):=
 (n.1,Y6 [⟨#[35,49]⟩,⟨#[35,50]⟩] n.2.1,n.2.2.1.map (Y6 [⟨#[35,51]⟩,⟨#[35,52]⟩]),n.2.2.2.1.map (Y6 [-95,-96]),n.2.2.2.2.map Wz)
structure Zjt (n:Zhl):Prop where
 nm:n.2.1.length≤1048576
 vn:n.2.2.1.length≤1048576
 vl:∀ l ∈ n.2.2.1,l.length≤1048576
 pn:n.2.2.2.1.length≤1048576
 pl:∀ l ∈ n.2.2.2.1,l.length≤1048576
 tn:n.2.2.2.2.length≤1048576
 tl:∀ t ∈ n.2.2.2.2,t.length≤1048576
 tm:∀ t ∈ n.2.2.2.2,∀ x ∈ t,x.1.2.length≤1048576∧x.2.length≤1048576
theorem Q4 {α:Type} (ms l:List α):Xh (Y6 ms l)=l:=by rw [Xh,Y6];exact List.take_left
theorem Z0a {α:Type} (ms:List α) (L:List (List α)):(L.map (Y6 ms)).map Xh=L:=by
 rw [List.map_map]
 conv=>rhs;rw [← List.map_id L]
 exact List.map_congr_left fun l _=>Q4 ms l
theorem Z2n (x:QV):Prod.map (Prod.map id Xh) Xh (Yf x)=x:=by
 rw [Yf];simp only [Prod.map,id,Q4]
theorem Z2o (t:List QV):Ve (Prod.map (Prod.map id Xh) Xh) (Wz t)=t:=by
 rw [Ve,Wz]
 show List.map _ (List.take t.length (t.map Yf++_))=t
 rw [show t.length=(t.map Yf).length by rw [List.length_map],List.take_left,List.map_map]
 conv=>rhs;rw [← List.map_id t]
 exact List.map_congr_left fun x _=>Z2n x
theorem Z0b (T:List (List QV)):(T.map Wz).map (Ve (Prod.map (Prod.map id Xh) Xh))=T:=by
 rw [List.map_map]
 conv=>rhs;rw [← List.map_id T]
 exact List.map_congr_left fun t _=>Z2o t
theorem Zv1 (n:Zhl):((Yt n).1,(Yt n).2.1.2.take (Yt n).2.1.1,(Yt n).2.2.1.map Xh,(Yt n).2.2.2.1.map Xh,(Yt n).2.2.2.2.map (Ve (Prod.map (Prod.map id Xh) Xh)))=n:=by
 rw [Yt]
 simp only [Z0a,Z0b]
 have:=Q4 [⟨#[35,49]⟩,⟨#[35,50]⟩] n.2.1
 rw [Xh] at this
 rw [this]
theorem Zpt {x:QV} (h1:x.1.2.length≤1048576) (h2:x.2.length≤1048576):Zb4 x=some (Yf x):=by
 rw [Zb4,Z4 (by simp only [List.length_nil,maxLen];omega),Z4 (by simp only [List.length_append,List.length_nil,List.length_cons,maxLen];omega),Z4 (by simp only [List.length_nil,maxLen];omega),Z4 (by simp only [List.length_append,List.length_nil,List.length_cons,maxLen];omega),Z4 (by simp only [List.length_append,List.length_nil,List.length_cons];omega),Z4 (by simp only [List.length_append,List.length_nil,List.length_cons];omega),Yf,Y6,Y6,List.nil_append,List.nil_append,Int.toNat_natCast,Int.toNat_natCast]
section
variable {N:Nat} {n:Zhl} (hs:Zjt n) (hN:1048577<N)
include hs hN
omit hN in
theorem Zrr {m4:ByteArray} {m5:List ByteArray} {m9:List R6} {m13:List R5} {m17:List (Nat×List VQ)} {i:Nat} (hi:i<n.2.2.2.2.length) (hm:m17.length≤1048576) (hib:i≤1048576) (kk:ByteArray→List ByteArray→List R6→List R5→List (Nat×List VQ)→Int→Option (ByteArray×R6×List R6×List R5×List (Nat×List VQ))):∀ (f k:Nat) (l:List VQ),k≤n.2.2.2.2[i].length→n.2.2.2.2[i].length<f+k→l=(n.2.2.2.2[i].take k).map Yf→
  Zd9 N n m4 m5 m9 m13 m17 (i:Int) kk f (k:Int) l=kk m4 m5 m9 m13 (m17++[Wz n.2.2.2.2[i]]) ((i:Int)+1)
 | 0,k,l,h1,h2,_=>by omega
 | f+1,k,l,h1,h2,h3=>by
  have ht:=hs.tl _ (List.getElem_mem hi)
  have hl:l.length=k:=by rw [h3,List.length_map,List.length_take];omega
  rw [Zd9.eq_2,Zx hi,Option.bind_some]
  by_cases hk:k<n.2.2.2.2[i].length
  ·obtain ⟨x1,x2⟩:=hs.tm _ (List.getElem_mem hi) _ (List.getElem_mem hk)
   have hc:Zb4 (((n.2.2.2.2[i][k]).1.1,(n.2.2.2.2[i][k]).1.2),(n.2.2.2.2[i][k]).2)=some (Yf n.2.2.2.2[i][k]):=Zpt (x:=n.2.2.2.2[i][k]) x1 x2
   rw [if_pos (decide_eq_true (by omega)),Zx hk,Option.bind_some,hc,Option.bind_some,Z4 (by simp only [List.length_singleton,maxLen];omega),Zq (by omega)]
   exact Zrr hi hm hib kk f (k+1) _ (by omega) (by omega) (by rw [h3,List.take_add_one,List.getElem?_eq_getElem hk,Option.toList_some,List.map_append];rfl)
  ·have hk2:k=n.2.2.2.2[i].length:=by omega
   rw [if_neg (by rw [decide_eq_false (by omega)];decide),Z4 (by simp only [List.length_cons,List.length_nil,maxLen];omega),Z4 (by simp only [List.length_append,List.length_cons,List.length_nil];omega),Z4 (by simp only [List.length_singleton,maxLen];omega),Zq (by omega),Int.toNat_natCast,h3,hk2,List.take_length]
   rfl
theorem Zrq {m4:ByteArray} {m5:List ByteArray} {m9:List R6} {m13:List R5}:∀ (f i:Nat) (m17:List (Nat×List VQ)),i≤n.2.2.2.2.length→n.2.2.2.2.length<f+i→m17=(n.2.2.2.2.take i).map Wz→
  Zb7 N n f m4 m5 m9 m13 m17 (i:Int)=some (m4,(n.2.1.length,m5),m9,m13,n.2.2.2.2.map Wz)
 | 0,i,m17,h1,h2,_=>by omega
 | f+1,i,m17,h1,h2,h3=>by
  have htn:=hs.tn
  have hl:m17.length=i:=by rw [h3,List.length_map,List.length_take];omega
  rw [Zb7.eq_2]
  by_cases hi:i<n.2.2.2.2.length
  ·have ht:=hs.tl _ (List.getElem_mem hi)
   rw [if_pos (decide_eq_true (by omega)),show (0:Int)=((0:Nat):Int) from rfl,Zrr hs hi (by omega) (by omega) _ N 0 [] (by omega) (by omega) (by simp)]
   exact Zrq f (i+1) _ (by omega) (by omega) (by rw [h3,List.take_add_one,List.getElem?_eq_getElem hi,Option.toList_some,List.map_append];rfl)
  ·rw [if_neg (by rw [decide_eq_false (by omega)];decide),h3,List.take_of_length_le (by omega),Int.toNat_natCast]
theorem Zrp {m4:ByteArray} {m5:List ByteArray} {m9:List R6}:∀ (f i:Nat) (m13:List R5),i≤n.2.2.2.1.length→n.2.2.2.1.length<f+i→m13=(n.2.2.2.1.take i).map (Y6 [-95,-96])→
  Zd8 N n f m4 m5 m9 m13 [] (i:Int)=some (m4,(n.2.1.length,m5),m9,n.2.2.2.1.map (Y6 [-95,-96]),n.2.2.2.2.map Wz)
 | 0,i,m13,h1,h2,_=>by omega
 | f+1,i,m13,h1,h2,h3=>by
  have hpn:=hs.pn;have htn:=hs.tn
  have hl:m13.length=i:=by rw [h3,List.length_map,List.length_take];omega
  rw [Zd8.eq_2]
  by_cases hi:i<n.2.2.2.1.length
  ·have ht:=hs.pl _ (List.getElem_mem hi)
   rw [if_pos (decide_eq_true (by omega)),Zx hi,Option.bind_some,Z4 (by simp only [List.length_nil,maxLen];omega),Z4 (by simp only [List.length_append,List.length_nil,List.length_cons,maxLen];omega),Z4 (by simp only [List.length_append,List.length_nil,List.length_cons];omega),Z4 (by simp only [List.length_singleton,maxLen];omega),Zq (by omega)]
   exact Zrp f (i+1) _ (by omega) (by omega) (by rw [h3,List.take_add_one,List.getElem?_eq_getElem hi,Option.toList_some,List.map_append];rfl)
  ·rw [if_neg (by rw [decide_eq_false (by omega)];decide),show (0:Int)=((0:Nat):Int) from rfl,Zrq hs hN N 0 [] (by omega) (by omega) (by simp),h3,List.take_of_length_le (by omega)]
theorem Zro {m4:ByteArray} {m5:List ByteArray}:∀ (f i:Nat) (m9:List R6),i≤n.2.2.1.length→n.2.2.1.length<f+i→m9=(n.2.2.1.take i).map (Y6 [⟨#[35,51]⟩,⟨#[35,52]⟩])→
  Zd7 N n f m4 m5 m9 [] [] (i:Int)=some (m4,(n.2.1.length,m5),n.2.2.1.map (Y6 [⟨#[35,51]⟩,⟨#[35,52]⟩]),n.2.2.2.1.map (Y6 [-95,-96]),n.2.2.2.2.map Wz)
 | 0,i,m9,h1,h2,_=>by omega
 | f+1,i,m9,h1,h2,h3=>by
  have hpn:=hs.vn;have htn:=hs.pn
  have hl:m9.length=i:=by rw [h3,List.length_map,List.length_take];omega
  rw [Zd7.eq_2]
  by_cases hi:i<n.2.2.1.length
  ·have ht:=hs.vl _ (List.getElem_mem hi)
   rw [if_pos (decide_eq_true (by omega)),Zx hi,Option.bind_some,Z4 (by simp only [List.length_nil,maxLen];omega),Z4 (by simp only [List.length_append,List.length_nil,List.length_cons,maxLen];omega),Z4 (by simp only [List.length_append,List.length_nil,List.length_cons];omega),Z4 (by simp only [List.length_singleton,maxLen];omega),Zq (by omega)]
   exact Zro f (i+1) _ (by omega) (by omega) (by rw [h3,List.take_add_one,List.getElem?_eq_getElem hi,Option.toList_some,List.map_append];rfl)
  ·rw [if_neg (by rw [decide_eq_false (by omega)];decide),show (0:Int)=((0:Nat):Int) from rfl,Zrp hs hN N 0 [] (by omega) (by omega) (by simp),h3,List.take_of_length_le (by omega)]
theorem Zz1:Zgx N n=some (Yt n):=by
 have hnm:=hs.nm;have hvn:=hs.vn
 rw [Zgx,Z4 (by simp only [List.length_nil,maxLen];omega),Z4 (by simp only [List.length_append,List.length_nil,List.length_cons,maxLen];omega),Z4 (by simp only [List.length_append,List.length_nil,List.length_cons];omega),show (0:Int)=((0:Nat):Int) from rfl,Zro hs hN N 0 [] (by omega) (by omega) (by simp)]
 rfl
end
theorem Zvq {α:Type} (ms l:List α):(Y6 ms l).2.take (Y6 ms l).1=l:=Q4 ms l
theorem Zh2 {α:Type} (ms l:List α):(Y6 ms l).2.length=l.length+ms.length:=by rw [Y6];exact List.length_append
theorem Zew {α:Type} {ms l:List α} {j k:Nat} (hj:j<ms.length) (hk:l.length+j<k):Zk ((l++ms).take k) ((l.length+j:Nat):Int)=some ms[j]:=by
 rw [Uf,List.getElem?_take,if_pos hk,List.getElem?_append_right (by omega),show l.length+j - l.length=j by omega,List.getElem?_eq_getElem hj]
theorem Zvr {N:Nat} {l:List ByteArray} {one two:ByteArray} (hl:l.length≤1048576):∀ (f i:Nat),i≤l.length→l.length<f+i→Zef N l.length (l++[one,two]) l one two f (i:Int)=some true
 | 0,i,h1,h2=>by omega
 | f+1,i,h1,h2=>by
  have e:(l++[one,two]).take l.length=l:=List.take_left
  rw [Zef.eq_2,e]
  by_cases hi:i<l.length
  ·rw [if_pos (decide_eq_true (by omega)),Zx hi,Option.bind_some,Option.bind_some,if_neg (by rw [decide_eq_true rfl];decide),Zq (by omega)]
   exact Zvr hl f (i+1) (by omega) (by omega)
  ·have a0:=Zew (ms:=[one,two]) (l:=l) (j:=0) (k:=l.length+2) (by simp) (by omega)
   have a1:=Zew (ms:=[one,two]) (l:=l) (j:=1) (k:=l.length+2) (by simp) (by omega)
   rw [if_neg (by rw [decide_eq_false (by omega)];decide),Zq (x:=(l.length:Int)+2) (by omega),Z4 (by simp only [List.length_append,List.length_cons,List.length_nil];omega),show Int.toNat ((l.length:Int)+2)=l.length+2 by omega]
   simp only [Nat.add_zero] at a0
   rw [a0,Option.bind_some,show [one,two][0]=one from rfl,if_pos (decide_eq_true rfl),Zq (by omega),show (l.length:Int)+1=((l.length+1:Nat):Int) by omega,a1,Option.bind_some,Zi1]
   simp
theorem Zvs {N:Nat} {l:List ByteArray} {one two:ByteArray} (hl:l.length≤1048576) (hN:1048577<N):Zee N (Y6 [one,two] l).1 (Y6 [one,two] l).2 l one two=some true:=by
 have e:(l++[one,two]).take l.length=l:=List.take_left
 rw [Zee,Y6,e,if_neg (by rw [decide_eq_true rfl];decide)]
 exact Zvr hl N 0 (by omega) (by omega)
theorem Zvb {N:Nat} {x:QV} (h1:x.1.2.length≤1048576):∀ (f i:Nat),i≤x.1.2.length→x.1.2.length<f+i→Zec N x x f (i:Int)=some true
 | 0,i,g1,g2=>by omega
 | f+1,i,g1,g2=>by
  rw [Zec.eq_2]
  by_cases hi:i<x.1.2.length
  ·rw [if_pos (decide_eq_true (by omega)),Zx hi,Option.bind_some,Option.bind_some,if_neg (by rw [decide_eq_true rfl];decide),Zq (by omega)]
   exact Zvb h1 f (i+1) (by omega) (by omega)
  ·rw [if_neg (by rw [decide_eq_false (by omega)];decide)]
theorem Zva {N:Nat} {x:QV} (h1:x.1.2.length≤1048576) (h2:x.2.length≤1048576) (hN:1048577<N):∀ (f i:Nat),i≤x.2.length→x.2.length<f+i→Zeb N x x f (i:Int)=some true
 | 0,i,g1,g2=>by omega
 | f+1,i,g1,g2=>by
  rw [Zeb.eq_2]
  by_cases hi:i<x.2.length
  ·rw [if_pos (decide_eq_true (by omega)),Zx hi,Option.bind_some,Option.bind_some,if_neg (by rw [decide_eq_true rfl];decide),Zq (by omega)]
   exact Zva h1 h2 hN f (i+1) (by omega) (by omega)
  ·rw [if_neg (by rw [decide_eq_false (by omega)];decide)]
   exact Zvb h1 N 0 (by omega) (by omega)
theorem Zvc {N:Nat} {x:QV} (h1:x.1.2.length≤1048576) (h2:x.2.length≤1048576) (hN:1048577<N):Zb8 N x x=some true:=by
 rw [Zb8,if_neg (by rw [decide_eq_true rfl];decide),if_neg (by rw [decide_eq_true rfl];decide),Zgz,if_neg (by rw [decide_eq_true rfl];decide)]
 exact Zva h1 h2 hN N 0 (by omega) (by omega)
section
variable {N:Nat} {n:Zhl} (hs:Zjt n) (hN:1048577<N)
include hs hN
theorem Zq9 {i:Nat} (hi:i<n.2.2.2.2.length) (kk:Int→Option Bool):∀ (f j:Nat),j≤n.2.2.2.2[i].length→n.2.2.2.2[i].length<f+j→
  Sg N (Yt n) n (i:Int) kk n.2.2.2.2[i] f (j:Int)=kk ((i:Int)+1)
 | 0,j,h1,h2=>by omega
 | f+1,j,h1,h2=>by
  have ht:=hs.tl _ (List.getElem_mem hi)
  have htn:=hs.tn
  have hm:Zk (Yt n).2.2.2.2 (i:Int)=some (Wz n.2.2.2.2[i]):=by
   rw [Uf]
   show (n.2.2.2.2.map Wz)[i]?=_
   rw [List.getElem?_map,List.getElem?_eq_getElem hi];rfl
  rw [Sg.eq_2,hm,Option.bind_some,Option.bind_some]
  generalize hT:n.2.2.2.2[i]=t at *
  by_cases hj:j<t.length
  ·have hmem:t ∈ n.2.2.2.2:=by rw [← hT];exact List.getElem_mem hi
   obtain ⟨x1,x2⟩:=hs.tm _ hmem _ (List.getElem_mem hj)
   have e1:Zk ((Wz t).2.take (Wz t).1) (j:Int)=some (Yf t[j]):=by
    rw [Uf,Wz,List.getElem?_take,if_pos hj,List.getElem?_append_left (by rw [List.length_map];exact hj),List.getElem?_map,List.getElem?_eq_getElem hj];rfl
   rw [if_pos (decide_eq_true (by omega)),e1,Option.bind_some]
   obtain ⟨x,hx⟩:∃ x,x=t[j]:=⟨_,rfl⟩
   rw [← hx] at x1 x2 ⊢
   have v1:(Yf x).1.2.2.take (Yf x).1.2.1=x.1.2:=Q4 _ _
   have v2:(Yf x).2.2.take (Yf x).2.1=x.2:=Q4 _ _
   have l1:(Yf x).1.2.2.length=x.1.2.length+2:=Zh2 _ _
   have l2:(Yf x).2.2.length=x.2.length+2:=Zh2 _ _
   have hat:Zk n.2.2.2.2 (i:Int)=some t:=by rw [Zx hi,hT]
   have sm:Zb8 N (((Yf x).1.1,x.1.2),x.2) ((x.1.1,x.1.2),x.2)=some true:=Zvc (x:=x) x1 x2 hN
   have t1:(Yf x).1.2.2.take (x.1.2.length+2)=x.1.2++[901,902]:=List.take_of_length_le (by rw [l1];omega)
   have t2:(Yf x).2.2.take (x.2.length+2)=x.2++[903,904]:=List.take_of_length_le (by rw [l2];omega)
   have q:∀ (l:List Int) (a b:Int),Zk (l++[a,b]) ((l.length:Int)+2 - 1)=some b∧Zk (l++[a,b]) ((l.length:Int)+2 - 2)=some a:=fun l a b=>by
    constructor
    ·rw [show (l.length:Int)+2 - 1=((l.length+1:Nat):Int) by omega,Uf,List.getElem?_append_right (by omega),show l.length+1 - l.length=1 by omega];rfl
    ·rw [show (l.length:Int)+2 - 2=((l.length:Nat):Int) by omega,Uf,List.getElem?_append_right (by omega),show l.length - l.length=0 by omega];rfl
   have ql:∀ (l:List Int) (a b:Int),((l++[a,b]).length:Int)=(l.length:Int)+2:=fun l a b=>by simp
   rw [v1,v2,l1,l2,Zq (x:=(x.1.2.length:Int)+2) (by omega),Zq (x:=(x.2.length:Int)+2) (by omega),Z4 (by omega),Z4 (by omega),hat,Option.bind_some,Zx hj,Option.bind_some,← hx,sm,Option.bind_some,if_neg (by decide),
    show Int.toNat ((x.1.2.length:Int)+2)=x.1.2.length+2 by omega,show Int.toNat ((x.2.length:Int)+2)=x.2.length+2 by omega,t1,t2,ql,ql,Zq (x:=(x.1.2.length:Int)+2 - 1) (by omega),Zq (x:=(x.1.2.length:Int)+2 - 2) (by omega),Zq (x:=(x.2.length:Int)+2 - 1) (by omega),Zq (x:=(x.2.length:Int)+2 - 2) (by omega),
    (q x.1.2 901 902).1,Option.bind_some,if_neg (by decide),(q x.1.2 901 902).2,Option.bind_some,if_neg (by decide),(q x.2 903 904).1,Option.bind_some,if_neg (by decide),(q x.2 903 904).2,Option.bind_some,Zb6,if_neg (by decide),Zq (by omega)]
   have ih:=Zq9 hi kk f (j+1) (by rw [hT];omega) (by rw [hT];omega)
   rw [hT] at ih
   exact ih
  ·have b0:Zk ((Wz t).2.take (t.length+2)) (t.length:Int)=some (Q1 97):=by
    have:=Zew (ms:=[Q1 97,Q1 98]) (l:=t.map Yf) (j:=0) (k:=t.length+2) (by simp) (by rw [List.length_map];omega)
    rw [List.length_map,Nat.add_zero] at this
    exact this
   have b1:Zk ((Wz t).2.take (t.length+2)) ((t.length:Int)+1)=some (Q1 98):=by
    have:=Zew (ms:=[Q1 97,Q1 98]) (l:=t.map Yf) (j:=1) (k:=t.length+2) (by simp) (by rw [List.length_map];omega)
    rw [List.length_map] at this
    exact this
   have bl:(Wz t).2.length=t.length+2:=by rw [Wz];simp
   have c0:∀ k:Int,(Q1 k).2.2.take (Q1 k).2.1=[k]:=fun k=>rfl
   rw [if_neg (by rw [decide_eq_false (by omega)];decide),Zq (x:=(t.length:Int)+2) (by omega),Z4 (by omega),show Int.toNat ((t.length:Int)+2)=t.length+2 by omega,b0,Option.bind_some,c0,if_neg (by decide),show Zk [(97:Int)] 0=some 97 from rfl,Option.bind_some,if_neg (by decide),Zq (x:=(t.length:Int)+1) (by omega),b1,Option.bind_some,c0,if_neg (by decide),show Zk [(98:Int)] 0=some 98 from rfl,Option.bind_some,Zd4,if_neg (by decide),Zq (by omega)]
theorem Zq8:∀ (f i:Nat),i≤n.2.2.2.2.length→n.2.2.2.2.length<f+i→S6 N (Yt n) n f (i:Int)=some true
 | 0,i,h1,h2=>by omega
 | f+1,i,h1,h2=>by
  have htn:=hs.tn
  rw [S6.eq_2]
  by_cases hi:i<n.2.2.2.2.length
  ·have ht:=hs.tl _ (List.getElem_mem hi)
   have hm:Zk (Yt n).2.2.2.2 (i:Int)=some (Wz n.2.2.2.2[i]):=by
    rw [Uf]
    show (n.2.2.2.2.map Wz)[i]?=_
    rw [List.getElem?_map,List.getElem?_eq_getElem hi];rfl
   have hl:((Wz n.2.2.2.2[i]).2.take (Wz n.2.2.2.2[i]).1).length=n.2.2.2.2[i].length:=by rw [Wz,List.length_take];simp
   have h5:=Zq9 hs hN hi (S6 N (Yt n) n f) N 0 (by omega) (by omega)
   rw [show ((0:Nat):Int)=0 from rfl] at h5
   rw [if_pos (decide_eq_true (by omega)),Zx hi,Option.bind_some,hm,Option.bind_some,hl,if_neg (by rw [decide_eq_true rfl];decide),h5]
   exact Zq8 f (i+1) (by omega) (by omega)
  ·rw [if_neg (by rw [decide_eq_false (by omega)];decide)]
omit hN in
theorem Zq7 {i:Nat} (hi:i<n.2.2.2.1.length) (kk:Int→Option Bool):∀ (f j:Nat),j≤n.2.2.2.1[i].length→n.2.2.2.1[i].length<f+j→Zd6 N (Yt n) n (i:Int) kk n.2.2.2.1[i] f (j:Int)=kk ((i:Int)+1)
 | 0,j,h1,h2=>by omega
 | f+1,j,h1,h2=>by
  have ht:=hs.pl _ (List.getElem_mem hi)
  have hpn:=hs.pn
  have hm:Zk (Yt n).2.2.2.1 (i:Int)=some (Y6 [-95,-96] n.2.2.2.1[i]):=by
   rw [Uf]
   show (n.2.2.2.1.map (Y6 [-95,-96]))[i]?=_
   rw [List.getElem?_map,List.getElem?_eq_getElem hi];rfl
  rw [Zd6.eq_2,hm,Option.bind_some,Option.bind_some,Zvq]
  by_cases hj:j<n.2.2.2.1[i].length
  ·rw [if_pos (decide_eq_true (by omega)),Zx hj,Option.bind_some,Zx hi,Option.bind_some,Zx hj,Option.bind_some,if_neg (by rw [decide_eq_true rfl];decide),Zq (by omega)]
   exact Zq7 hi kk f (j+1) (by omega) (by omega)
  ·have a0:=Zew (ms:=[-95,-96]) (l:=n.2.2.2.1[i]) (j:=0) (k:=n.2.2.2.1[i].length+2) (by simp) (by omega)
   have a1:=Zew (ms:=[-95,-96]) (l:=n.2.2.2.1[i]) (j:=1) (k:=n.2.2.2.1[i].length+2) (by simp) (by omega)
   simp only [Nat.add_zero] at a0
   have hl:(Y6 [-95,-96] n.2.2.2.1[i]).2=n.2.2.2.1[i]++[-95,-96]:=rfl
   rw [if_neg (by rw [decide_eq_false (by omega)];decide),Zq (x:=(n.2.2.2.1[i].length:Int)+2) (by omega),Z4 (by rw [Zh2];simp only [List.length_cons,List.length_nil];omega),show Int.toNat ((n.2.2.2.1[i].length:Int)+2)=n.2.2.2.1[i].length+2 by omega,hl,a0,Option.bind_some,if_neg (by decide),Zq (by omega),show (n.2.2.2.1[i].length:Int)+1=((n.2.2.2.1[i].length+1:Nat):Int) by omega,a1,Option.bind_some,Ziz,if_neg (by decide),Zq (by omega)]
theorem Zq6:∀ (f i:Nat),i≤n.2.2.2.1.length→n.2.2.2.1.length<f+i→Q0 N (Yt n) n f (i:Int)=some true
 | 0,i,h1,h2=>by omega
 | f+1,i,h1,h2=>by
  have htn:=hs.pn;have htn2:=hs.tn
  rw [Q0.eq_2]
  by_cases hi:i<n.2.2.2.1.length
  ·have ht:=hs.pl _ (List.getElem_mem hi)
   have hm:Zk (Yt n).2.2.2.1 (i:Int)=some (Y6 [-95,-96] n.2.2.2.1[i]):=by
    rw [Uf]
    show (n.2.2.2.1.map (Y6 [-95,-96]))[i]?=_
    rw [List.getElem?_map,List.getElem?_eq_getElem hi];rfl
   have h5:=Zq7 (N:=N) hs hi (Q0 N (Yt n) n f) N 0 (by omega) (by omega)
   rw [show ((0:Nat):Int)=0 from rfl] at h5
   rw [if_pos (decide_eq_true (by omega)),Zx hi,Option.bind_some,hm,Option.bind_some,Zvq,if_neg (by rw [decide_eq_true rfl];decide),h5]
   exact Zq6 f (i+1) (by omega) (by omega)
  ·rw [if_neg (by rw [decide_eq_false (by omega)];decide)]
   exact Zq8 hs hN N 0 (by omega) (by omega)
theorem Zq5:∀ (f i:Nat),i≤n.2.2.1.length→n.2.2.1.length<f+i→Zd5 N (Yt n) n f (i:Int)=some true
 | 0,i,h1,h2=>by omega
 | f+1,i,h1,h2=>by
  have htn:=hs.vn;have htn2:=hs.pn
  rw [Zd5.eq_2]
  by_cases hi:i<n.2.2.1.length
  ·have ht:=hs.vl _ (List.getElem_mem hi)
   have hm:Zk (Yt n).2.2.1 (i:Int)=some (Y6 [⟨#[35,51]⟩,⟨#[35,52]⟩] n.2.2.1[i]):=by
    rw [Uf]
    show (n.2.2.1.map (Y6 [⟨#[35,51]⟩,⟨#[35,52]⟩]))[i]?=_
    rw [List.getElem?_map,List.getElem?_eq_getElem hi];rfl
   rw [if_pos (decide_eq_true (by omega)),hm,Option.bind_some,Zx hi,Option.bind_some,Zvs ht hN,Option.bind_some,if_neg (by decide),Zq (by omega)]
   exact Zq5 f (i+1) (by omega) (by omega)
  ·rw [if_neg (by rw [decide_eq_false (by omega)];decide)]
   exact Zq6 hs hN N 0 (by omega) (by omega)
theorem Zzq:Zgw N (Yt n) n=some true:=by
 have h1:=hs.nm;have h2:=hs.vn
 have l1:(Yt n).2.2.1.length=n.2.2.1.length:=by show (n.2.2.1.map _).length=_;rw [List.length_map]
 have l2:(Yt n).2.2.2.1.length=n.2.2.2.1.length:=by show (n.2.2.2.1.map _).length=_;rw [List.length_map]
 have l3:(Yt n).2.2.2.2.length=n.2.2.2.2.length:=by show (n.2.2.2.2.map _).length=_;rw [List.length_map]
 have t1:Zee N (Yt n).2.1.1 (Yt n).2.1.2 n.2.1 (⟨#[35,49]⟩) (⟨#[35,50]⟩)=some true:=Zvs h1 hN
 rw [Zgw,l1,l2,l3,if_neg (by rw [show (Yt n).1=n.1 from rfl,decide_eq_true rfl];decide),if_neg (by rw [decide_eq_true rfl];decide),if_neg (by rw [decide_eq_true rfl];decide),if_neg (by rw [decide_eq_true rfl];decide),t1,Option.bind_some,Zb5,if_neg (by decide)]
 exact Zq5 hs hN N 0 (by omega) (by omega)
end
def Zgy (ae:R0) (aa:Int) (kk_L1:(Int→Int→Option Int)) (ab:Int) (ac:Int) (kk_L2:(Int→Int→Option Int)) (af:Bool):Option Int:=
  if af=true then ((Zk ae.2.2.2.2 aa).bind fun ag=>(Zk ag ac).bind fun ad=>kk_L2 (i64.wrap ((i64.wrap (ab+(ad.1.2.length:Int)))+(ad.2.length:Int))) (i64.wrap (ac+1))) else (kk_L1 ab (i64.wrap (aa+1)))
def Zaz (N:Nat) (aa:R0) (ab:Int) (kk_L1:(Int→Int→Option Int)):Nat→Int→Int→Option Int
  | 0,_,_=>none
  | ae+1,ac,ad=>(Zk aa.2.2.2.2 ab).bind fun af=>if (decide (ad<(af.length:Int)))=true then (Zgy aa ab kk_L1 ac ad (Zaz N aa ab kk_L1 ae) (decide (ac<10000))) else (Zgy aa ab kk_L1 ac ad (Zaz N aa ab kk_L1 ae) false)
termination_by structural x=>x
def S7 (N:Nat) (aa:R0):Nat→Int→Int→Option Int
  | 0,_,_=>none
  | ad+1,ab,ac=>if (decide (ac<(aa.2.2.2.2.length:Int)))=true then (Zaz N aa ac (S7 N aa ad) N ab 0) else (some (if 10000<ab then 10000 else ab))
termination_by structural x=>x
def Zkw (N:Nat) (aa:R0):Option Int:=
  S7 N aa N 0 0
theorem Zx1 {N al am an ao:Nat} {ap aq ar au:Option Addr} {col:Zd} {w0:World} {aa:R0} {r:Int} (hm:Zkw N aa=some r) (bs:Sl Za.str col w0 ap al aa.2.1) (bt:Sl (Za.slice Za.str) col w0 aq am aa.2.2.1) (bu:Sl (Za.slice (Za.int .i64)) col w0 ar an aa.2.2.2.1) (ag:Sl (Za.slice (Za.pair (Za.pair Za.bool (Za.slice (Za.int .u32))) (Za.slice (Za.int .u32)))) col w0 au ao aa.2.2.2.2):
    Calls Tryz.prog 84 #[(.agg #[.string aa.1,.slice ap aa.2.1.length al,.slice aq aa.2.2.1.length am,.slice ar aa.2.2.2.1.length an,.slice au aa.2.2.2.2.length ao])] w0 (fun e w'=>e= .returned ((.int .i64 r))∧Below w0.heap.size w0 w'):=by
 refine Xe 2 (m:=53) func84 rfl rfl rfl rfl rfl ?_;rw [Zkw.eq_1] at hm;have ab:=St.start col w0;refine go ?_;refine Xf (col:=(Zi col)) 1 rfl ?_;intro ay bv bw a8 ac;refine go ?_;replace ab:=ab.grow a8;refine Z0 [1,1000000] (fun n f az=>∃ a0 ai aj ae,ae=n∧S7 N aa ae ai aj=some r∧St w0 (Zi col) a0 az∧Zm 27 1 a0 az ay #[.string aa.1,.slice ap aa.2.1.length al,.slice aq aa.2.2.1.length am,.slice ar aa.2.2.2.1.length an,.slice au aa.2.2.2.2.length ao]∧[3,4].map f=[.int .i64 ai,.int .i64 aj]) N ⟨_,0,0,_,rfl,hm,ab,ac,rfl⟩ ?_;clear hm;intro n f az hI;obtain ⟨a0,ai,aj,ae,hn,hm,ab,ac,hs⟩:=hI;subst hn;refine .lL [3,4] hs ?_;replace ag:=ag.keep (Zj.start col w0)
 cases ae with
 | zero=>rw [S7.eq_1] at hm;cases hm
 | succ ae=>
  rw [S7.eq_2] at hm;refine go ?_;refine Z7 ac ?_;refine go ?_;refine Zp hm (fun hb hm=>go ?_) fun hb hm=>go ?_
  ·refine Z0 [1,4,1000000] (fun n f a1=>∃ a2 av aw ah,ah=n∧Zaz N aa aj (S7 N aa ae) ah av aw=some r∧St w0 (Zi col) a2 a1∧Zm 27 1 a2 a1 ay #[.string aa.1,.slice ap aa.2.1.length al,.slice aq aa.2.2.1.length am,.slice ar aa.2.2.2.1.length an,.slice au aa.2.2.2.2.length ao]∧[3,5].map f=[.int .i64 av,.int .i64 aw]) N ⟨_,_,0,_,rfl,hm,ab,ac,rfl⟩ ?_;clear hm;intro n f a1 hI;obtain ⟨a2,av,aw,ah,hn,hm,ab,ac,hs⟩:=hI;subst hn;refine .lL [3,5] hs ?_
   cases ah with
   | zero=>rw [Zaz.eq_1] at hm;cases hm
   | succ ah=>
    rw [Zaz.eq_2] at hm;refine Zu<|Zu ?_;refine Wp.cutK [1,3,4,5,1000000] (fun f a3=>∃ ad a4,Zgy aa aj (S7 N aa ae) av aw (Zaz N aa aj (S7 N aa ae) ah) a4=some r∧St w0 (Zi col) ad a3∧Zm 27 1 ad a3 ay #[.string aa.1,.slice ap aa.2.1.length al,.slice aq aa.2.2.1.length am,.slice ar aa.2.2.2.1.length an,.slice au aa.2.2.2.2.length ao]∧[24].map f=[.bool a4]) ?_ ?_
    ·intro f a3 hJ;obtain ⟨ad,a4,hm,ab,ac,hs⟩:=hJ;rw [Zgy.eq_1] at hm;refine .lL [24] hs ?_;refine Zp hm (fun hb hm=>go ?_) fun hb hm=>go ?_
     ·refine Wg (col:=ad) (by kernel_rfl) (by kernel_rfl)<|go ?_;refine qF ⟨_,_,rfl⟩ ?_;refine qW (fun _ hC=>((ac.atN).nth (q:=4) rfl).gr (hC.bl ad)) ?_;refine go ?_;obtain ⟨bx,ak,hm⟩:=bZ hm;refine qI ak ((ag.ks ab).addr ak) ?_;obtain ⟨_,a9,ba⟩:=(ag.ks ab).atN ak;obtain ⟨⟨bz,b0,rfl,ax⟩,_⟩:=a9;refine qW (fun _ hC=>ba.one.gr (hC.bl ad)) ?_;refine go ?_;obtain ⟨b1,af,hm⟩:=bZ hm;refine qI af (ax.addr af)<|qF (Yz (ax.addr af)) ?_;refine qF (Yz (Yz (ax.addr af))) ?_;obtain ⟨_,bb,bc⟩:=ax.atN af;obtain ⟨_,_,rfl,bd,be⟩:=Ym bb;obtain ⟨_,_,rfl,bf,bg⟩:=Ym bd;obtain ⟨rfl,_⟩:=bf;obtain ⟨⟨b2,b3,rfl,b4⟩,_⟩:=bg;obtain ⟨⟨b5,b6,rfl,b7⟩,_⟩:=be;refine qW (fun _ hC=>((((bc).part 0 2 _ rfl)).nth (q:=1) rfl).gr (hC.bl ad)) ?_;refine go ?_;refine qF ⟨_,_,rfl⟩ ?_;refine qW (fun _ hC=>((ac.atN).nth (q:=4) rfl).gr (hC.bl ad)) ?_;refine go ?_;refine qI ak ((ag.ks ab).addr ak) ?_;obtain ⟨_,bh,bi⟩:=(ag.ks ab).atN ak;obtain ⟨⟨b8,b9,rfl,a5⟩,_⟩:=bh;refine qW (fun _ hC=>bi.one.gr (hC.bl ad)) ?_;refine go ?_;refine qI af (a5.addr af)<|qF (Yz (a5.addr af)) ?_;obtain ⟨_,bj,bk⟩:=a5.atN af;obtain ⟨_,_,rfl,bm,bn⟩:=Ym bj;obtain ⟨_,_,rfl,bo,bp⟩:=Ym bm;obtain ⟨rfl,_⟩:=bo;obtain ⟨⟨ca,cb,rfl,cc⟩,_⟩:=bp;obtain ⟨⟨cd,ce,rfl,cf⟩,_⟩:=bn;refine qW (fun _ hC=>((bk).nth (q:=2) rfl).gr (hC.bl ad)) ?_;refine go ?_;refine Yk ?_;intro cg hC;replace hC:=hC.bl ad;refine go ?_;replace ac:=ac.gr hC;replace ab:=ab.grow hC;exact ⟨ah,by omega,rfl,⟨_,_,_,_,rfl,hm,ab,ac,rfl⟩⟩
     exact ⟨ae,by omega,rfl,⟨_,_,_,_,rfl,hm,ab,ac,rfl⟩⟩
    refine go ?_;refine Z7 ac<|Xy rfl ?_;obtain ⟨ch,a6,hm⟩:=bZ hm;refine lI a6 ((ag.ks ab).addr a6) ?_;obtain ⟨_,bq,br⟩:=(ag.ks ab).atN a6;obtain ⟨⟨ci,cj,rfl,ck⟩,_⟩:=bq;refine lW br.one<|go ?_;refine Xn hm (fun a7 hm=>go ?_) fun a7 hm=>go ?_
    ·refine lV (.bool (decide (av<10000))) (Z1 (congrArg Value.bool a7) rfl)<|Zl ?_;exact ⟨rfl,_,_,hm,ab,ac,rfl⟩
    refine lV (.bool false) (Xj (congrArg Value.bool a7) rfl)<|Zl ?_;exact ⟨rfl,_,_,hm,ab,ac,rfl⟩
  refine lV (.int .i64 (if 10000<ai then 10000 else ai)) (Znt ai 10000 rfl rfl)<|go ?_;cases hm;exact ⟨rfl,rfl,ab.below⟩
def Zfi (aa:Bool):Option Bool:=
  some aa
def Zc7 (N:Nat) (aa:R0) (ab:Int) (ac:Int) (kk_L1:(Int→Int→Option Bool)) (ad:Bool):Option Bool:=
  if ad=true then ((Zk aa.2.2.2.2 ac).bind fun ae=>kk_L1 (i64.wrap (ab+(ae.length:Int))) (i64.wrap (ac+1))) else (if (decide (12<(aa.2.1.length:Int)))=true then (Zfi true) else (if (decide (600<ab))=true then (Zfi true) else (if (decide (12<(aa.2.2.2.2.length:Int)))=true then (Zfi true) else ((Zkw N (aa.1,aa.2.1,aa.2.2.1,aa.2.2.2.1,aa.2.2.2.2)).bind fun af=>Zfi (decide (3000<af))))))
def Qs (N:Nat) (aa:R0):Nat→Int→Int→Option Bool
  | 0,_,_=>none
  | ac+1,ad,ab=>if (decide (ab<(aa.2.2.2.2.length:Int)))=true then (Zc7 N aa ad ab (Qs N aa ac) (decide (ab<13))) else (Zc7 N aa ad ab (Qs N aa ac) false)
termination_by structural x=>x
def Zh6 (N:Nat) (aa:R0):Option Bool:=
  Qs N aa N 0 0
theorem Zwy {N ai aj ak al:Nat} {am an ao ap:Option Addr} {col:Zd} {w0:World} {aa:R0} {r:Bool} (hm:Zh6 N aa=some r) (ar:Sl Za.str col w0 am ai aa.2.1) (au:Sl (Za.slice Za.str) col w0 an aj aa.2.2.1) (av:Sl (Za.slice (Za.int .i64)) col w0 ao ak aa.2.2.2.1) (ae:Sl (Za.slice (Za.pair (Za.pair Za.bool (Za.slice (Za.int .u32))) (Za.slice (Za.int .u32)))) col w0 ap al aa.2.2.2.2):
    Calls Tryz.prog 21 #[(.agg #[.string aa.1,.slice am aa.2.1.length ai,.slice an aa.2.2.1.length aj,.slice ao aa.2.2.2.1.length ak,.slice ap aa.2.2.2.2.length al])] w0 (fun e w'=>e= .returned ((.bool r))∧Below w0.heap.size w0 w'):=by
 refine Xe 2 (m:=43) func21 rfl rfl rfl rfl rfl ?_;rw [Zh6.eq_1] at hm;have ab:=St.start col w0;refine go ?_;refine Xf (col:=(Zi col)) 1 rfl ?_;intro a6 bf bg a9 ac;refine go ?_;replace ab:=ab.grow a9;refine Z0 [1,1000000] (fun n f aw=>∃ ax af ag ad,ad=n∧Qs N aa ad af ag=some r∧St w0 (Zi col) ax aw∧Zm 27 1 ax aw a6 #[.string aa.1,.slice am aa.2.1.length ai,.slice an aa.2.2.1.length aj,.slice ao aa.2.2.2.1.length ak,.slice ap aa.2.2.2.2.length al]∧[3,4].map f=[.int .i64 af,.int .i64 ag]) N ⟨_,0,0,_,rfl,hm,ab,ac,rfl⟩ ?_;clear hm;intro n f aw hI;obtain ⟨ax,af,ag,ad,hn,hm,ab,ac,hs⟩:=hI;subst hn;refine .lL [3,4] hs ?_;replace ar:=ar.keep (Zj.start col w0);replace au:=au.keep (Zj.start col w0);replace av:=av.keep (Zj.start col w0);replace ae:=ae.keep (Zj.start col w0)
 cases ad with
 | zero=>rw [Qs.eq_1] at hm;cases hm
 | succ ad=>
  rw [Qs.eq_2] at hm;refine Zu<|Zu ?_;refine Wp.cutK [1,3,4,1000000] (fun f aq=>∃ ah ay,Zc7 N aa af ag (Qs N aa ad) ay=some r∧St w0 (Zi col) ah aq∧Zm 27 1 ah aq a6 #[.string aa.1,.slice am aa.2.1.length ai,.slice an aa.2.2.1.length aj,.slice ao aa.2.2.2.1.length ak,.slice ap aa.2.2.2.2.length al]∧[13].map f=[.bool ay]) ?_ ?_
  ·intro f aq hJ;obtain ⟨ah,ay,hm,ab,ac,hs⟩:=hJ;rw [Zc7.eq_1] at hm;refine .lL [13] hs ?_;refine Zp hm (fun hb hm=>go ?_) fun hb hm=>?_
   ·refine Z7 ac<|Xy rfl ?_;obtain ⟨bh,az,hm⟩:=bZ hm;refine lI az ((ae.ks ab).addr az) ?_;obtain ⟨_,ba,bb⟩:=(ae.ks ab).atN az;obtain ⟨⟨bi,bj,rfl,bk⟩,_⟩:=ba;refine lW bb.one<|go ?_;exact ⟨ad,by omega,rfl,⟨_,_,_,_,rfl,hm,ab,ac,rfl⟩⟩
   refine Zjo (Zhy ?_);refine Zu ?_;refine Wp.cutK [1000000] (fun f a7=>∃ a8 a0,Zfi a0=some r∧St w0 (Zi col) a8 a7∧[2].map f=[.bool a0]) ?_ ?_
   ·intro f a7 hJ;obtain ⟨a8,a0,hm,ab,hs⟩:=hJ;rw [Zfi.eq_1] at hm;refine .lL [2] hs<|Wa ?_;cases hm;exact ⟨rfl,rfl,ab.below⟩
   refine Wh<|Z7 ac ?_;refine go ?_;refine Xn hm (fun a1 hm=>go ?_) fun a1 hm=>go ?_
   ·refine lV (.bool true) (Z1 (congrArg Value.bool a1) rfl)<|Xx rfl<|lP 32 rfl rfl<|lP 32 rfl rfl<|lP 32 rfl rfl<|lP 32 rfl rfl<|lV (.bool true) (Z1 rfl rfl)<|Xx rfl<|lP 38 rfl rfl<|lP 38 rfl rfl<|lP 38 rfl rfl<|lV (.bool true) (Z1 rfl rfl)<|go ?_;exact ⟨rfl,_,_,hm,ab,rfl⟩
   refine lV (.bool (decide (600<af))) (Xj (congrArg Value.bool a1) rfl)<|Xx rfl ?_;refine Xn hm (fun a2 hm=>go ?_) fun a2 hm=>go ?_
   ·refine lV (.bool true) (Z1 (congrArg Value.bool a2) rfl)<|Xx rfl<|lP 38 rfl rfl<|lP 38 rfl rfl<|lP 38 rfl rfl<|lV (.bool true) (Z1 rfl rfl)<|go ?_;exact ⟨rfl,_,_,hm,ab,rfl⟩
   refine Xb ⟨_,_,rfl⟩ ?_;refine go ?_;refine lW ((ac.atN).nth (q:=4) rfl)<|go ?_;refine lV (.bool (decide (12<(aa.2.2.2.2.length:Int)))) (Xj (congrArg Value.bool a2) rfl)<|Xx rfl ?_;refine Xn hm (fun a3 hm=>go ?_) fun a3 hm=>go ?_
   ·refine lV (.bool true) (Z1 (congrArg Value.bool a3) rfl)<|go ?_;exact ⟨rfl,_,_,hm,ab,rfl⟩
   refine lV _ (Z8 isAgg27 sizeOf27 ac)<|go ?_;obtain ⟨bc,bd,hm⟩:=bZ hm;refine Zh (Zx1 bd (ar.ks ab) (au.ks ab) (av.ks ab) (ae.ks ab)) ?_;rintro _ be ⟨rfl,a4⟩;refine ⟨_,rfl,?_⟩;replace a4:Zf ah aq ah be:=.of_below a4;refine go ?_;refine lV (.bool (decide (3000<bc))) (Xj (congrArg Value.bool a3) rfl)<|go ?_;replace ab:=ab.grow a4;exact ⟨rfl,_,_,hm,ab,rfl⟩
  refine go ?_;refine Z7 ac ?_;refine go ?_;refine Xn hm (fun a5 hm=>go ?_) fun a5 hm=>go ?_
  ·refine lV (.bool (decide (ag<13))) (Z1 (congrArg Value.bool a5) rfl)<|Zl ?_;exact ⟨rfl,_,_,hm,ab,ac,rfl⟩
  refine lV (.bool false) (Xj (congrArg Value.bool a5) rfl)<|Zl ?_;exact ⟨rfl,_,_,hm,ab,ac,rfl⟩
def Zea (N:Nat) (ab:List Int) (ac:List Int):Nat→Int→Option Bool
  | 0,_=>none
  | ad+1,aa=>if (decide (aa<(ab.length:Int)))=true then ((Zk ab aa).bind fun ae=>(Zk ac aa).bind fun af=>if (!decide (ae=af))=true then (some false) else ((Zea N ab ac ad) (i64.wrap (aa+1)))) else (some true)
termination_by structural x=>x
def Zb9 (N:Nat) (aa:List Int) (ab:List Int):Option Bool:=
  if (!decide ((aa.length:Int)=(ab.length:Int)))=true then (some false) else (Zea N aa ab N 0)
theorem Zka {N ai aj:Nat} {a0 a1:Option Addr} {col:Zd} {w0:World} {ad ae:R2} {r:Bool} (hm:Zb9 N ad ae=some r) (h0:Sl (Za.int .i64) col w0 a0 ai ad) (h1:Sl (Za.int .i64) col w0 a1 aj ae):
    Calls Tryz.prog 31 #[.slice a0 ad.length ai,.slice a1 ae.length aj] w0 (fun e w'=>e= .returned ((.bool r))∧Below w0.heap.size w0 w'):=by
 refine Xe 4 (m:=26) func31 rfl rfl rfl rfl rfl ?_;rw [Zb9.eq_1] at hm;have aa:=St.start col w0;refine go ?_;replace h0:=h0.keep (Zj.start col w0);replace h1:=h1.keep (Zj.start col w0);refine Zp hm (fun hb hm=>go ?_) fun hb hm=>go ?_
 ·cases hm;exact ⟨rfl,rfl,aa.below⟩
 refine Z0 [0,1,1000000] (fun n f ak=>∃ ab af ac,ac=n∧Zea N ad ae ac af=some r∧St w0 (Zi col) ab ak∧[5].map f=[.int .i64 af]) N ⟨_,0,_,rfl,hm,aa,rfl⟩ ?_;clear hm;intro n f ak hI;obtain ⟨ab,af,ac,hn,hm,aa,hs⟩:=hI;subst hn;refine .lL [5] hs ?_
 cases ac with
 | zero=>rw [Zea.eq_1] at hm;cases hm
 | succ ac=>
  rw [Zea.eq_2] at hm;refine go ?_;refine Zp hm (fun hb hm=>go ?_) fun hb hm=>go ?_
  ·refine Wg (col:=ab) (by kernel_rfl) (by kernel_rfl)<|go ?_;obtain ⟨al,ag,hm⟩:=bZ hm;refine qI ag ((h0.ks aa).addr ag)<|qW (fun _ hC=>((h0.ks aa).gr (hC.bl ab)).atInt ag) ?_;refine go ?_;obtain ⟨am,ah,hm⟩:=bZ hm;refine qI ah ((h1.ks aa).addr ah)<|qW (fun _ hC=>((h1.ks aa).gr (hC.bl ab)).atInt ah) ?_;refine go ?_;refine Yk ?_;intro an hC;replace hC:=hC.bl ab;replace aa:=aa.grow hC;refine Zp hm (fun hb hm=>go ?_) fun hb hm=>go ?_
   ·cases hm;exact ⟨rfl,rfl,aa.below⟩
   exact ⟨ac,by omega,rfl,⟨_,_,_,rfl,hm,aa,rfl⟩⟩
  cases hm;exact ⟨rfl,rfl,aa.below⟩
theorem Zvd {N:Nat} {l:List Int} (hl:l.length≤1048576):∀ (f i:Nat),i≤l.length→l.length<f+i→Zea N l l f (i:Int)=some true
 | 0,i,h1,h2=>by omega
 | f+1,i,h1,h2=>by
  rw [Zea.eq_2]
  by_cases hi:i<l.length
  ·rw [if_pos (decide_eq_true (by omega)),Zx hi,Option.bind_some,Option.bind_some,if_neg (by rw [decide_eq_true rfl];decide),wS (by omega)]
   exact Zvd hl f (i+1) (by omega) (by omega)
  ·rw [if_neg (by rw [decide_eq_false (by omega)];decide)]
theorem Z2b {N:Nat} {l:List Int} (hl:l.length≤1048576) (hN:1048577<N):Zb9 N l l=some true:=by
 rw [Zb9,if_neg (by rw [decide_eq_true rfl];decide)]
 exact Zvd hl N 0 (Nat.zero_le _) (by omega)
/-! which networks are gone through -/
theorem Zrx {N:Nat} {n:Xq} (hb:∀ t ∈ n.2.2.2.2,t.length≤1048576∧∀ x ∈ t,x.1.2.length≤1048576∧x.2.length≤1048576) {i:Nat} (hi:i<n.2.2.2.2.length) (hib:i<4611686018427387904) (kk:Int→Int→Option Int) (hkk:∀ s:Int,0≤s→s≤3000000→∃ r,kk s ((i+1:Nat):Int)=some r):∀ (f k:Nat) (s:Int),0≤s→s≤3000000→k≤n.2.2.2.2[i].length→n.2.2.2.2[i].length<f+k→∃ r,Zaz N n (i:Int) kk f s (k:Int)=some r
 | 0,k,s,_,_,h1,h2=>by omega
 | f+1,k,s,s1,s2,h1,h2=>by
  have ht:=hb _ (List.getElem_mem hi)
  rw [Zaz.eq_2,Zx hi,Option.bind_some]
  by_cases hk:k<n.2.2.2.2[i].length
  ·have hx:=ht.2 _ (List.getElem_mem hk)
   rw [if_pos (decide_eq_true (by omega)),Zgy]
   by_cases hs:s<10000
   ·rw [decide_eq_true hs,if_pos rfl,Zx hi,Option.bind_some,Zx hk,Option.bind_some,Zq (x:=s+_) (by omega),Zq (by omega),wS (by omega)]
    exact Zrx hb hi hib kk hkk f (k+1) _ (by omega) (by omega) (by omega) (by omega)
   ·rw [decide_eq_false hs,if_neg (by decide),wS (by omega)]
    exact hkk s s1 s2
  ·rw [if_neg (by rw [decide_eq_false (by omega)];decide),Zgy,if_neg (by decide),wS (by omega)]
   exact hkk s s1 s2
theorem Zrw {N:Nat} {n:Xq} (hb:∀ t ∈ n.2.2.2.2,t.length≤1048576∧∀ x ∈ t,x.1.2.length≤1048576∧x.2.length≤1048576) (hl:n.2.2.2.2.length≤1048576) (hN:1048577<N):∀ (f i:Nat) (s:Int),0≤s→s≤3000000→i≤n.2.2.2.2.length→n.2.2.2.2.length<f+i→∃ r,S7 N n f s (i:Int)=some r
 | 0,i,s,_,_,h1,h2=>by omega
 | f+1,i,s,s1,s2,h1,h2=>by
  rw [S7.eq_2]
  by_cases hi:i<n.2.2.2.2.length
  ·rw [if_pos (decide_eq_true (by omega))]
   have ht:=hb _ (List.getElem_mem hi)
   have:=Zrx (N:=N) hb hi (by omega) (S7 N n f) (fun s' a b=>Zrw hb hl hN f (i+1) s' a b (by omega) (by omega)) N 0 s s1 s2 (Nat.zero_le _) (by omega)
   exact this
  ·rw [if_neg (by rw [decide_eq_false (by omega)];decide)]
   exact ⟨_,rfl⟩
theorem Zr1 {N:Nat} {n:Xq} (hb:∀ t ∈ n.2.2.2.2,t.length≤1048576∧∀ x ∈ t,x.1.2.length≤1048576∧x.2.length≤1048576) (hl:n.2.2.2.2.length≤1048576) (hN:1048577<N):∀ (f i:Nat) (s:Int),0≤s→s≤1048576 * (i:Int)→i≤13→13<f+i→∃ r,Qs N n f s (i:Int)=some r
 | 0,i,s,_,_,h1,h2=>by omega
 | f+1,i,s,s1,s2,h1,h2=>by
  have fin:∃ r,Zc7 N n s (i:Int) (Qs N n f) false=some r:=by
   rw [Zc7,if_neg (by decide)]
   by_cases c1:(12:Int)<(n.2.1.length:Int)
   ·rw [if_pos (decide_eq_true c1)];exact ⟨_,rfl⟩
   ·rw [if_neg (by rw [decide_eq_false c1];decide)]
    by_cases c2:(600:Int)<s
    ·rw [if_pos (decide_eq_true c2)];exact ⟨_,rfl⟩
    ·rw [if_neg (by rw [decide_eq_false c2];decide)]
     by_cases c3:(12:Int)<(n.2.2.2.2.length:Int)
     ·rw [if_pos (decide_eq_true c3)];exact ⟨_,rfl⟩
     ·rw [if_neg (by rw [decide_eq_false c3];decide)]
      obtain ⟨r,hr⟩:=Zrw (N:=N) hb hl hN N 0 0 (by omega) (by omega) (Nat.zero_le _) (by omega)
      have hr':Zkw N (n.1,n.2.1,n.2.2.1,n.2.2.2.1,n.2.2.2.2)=some r:=hr
      rw [hr',Option.bind_some];exact ⟨_,rfl⟩
  rw [Qs.eq_2]
  by_cases hi:i<n.2.2.2.2.length
  ·rw [if_pos (decide_eq_true (by omega))]
   by_cases h13:i<13
   ·rw [decide_eq_true (by omega),Zc7,if_pos rfl,Zx hi,Option.bind_some]
    have ht:=hb _ (List.getElem_mem hi)
    rw [Zq (x:=s+_) (by omega),wS (by omega)]
    exact Zr1 hb hl hN f (i+1) _ (by omega) (by omega) (by omega) (by omega)
   ·rw [decide_eq_false (by omega)];exact fin
  ·rw [if_neg (by rw [decide_eq_false (by omega)];decide)];exact fin
theorem Zz9 {N:Nat} {n:Xq} (hb:∀ t ∈ n.2.2.2.2,t.length≤1048576∧∀ x ∈ t,x.1.2.length≤1048576∧x.2.length≤1048576) (hl:n.2.2.2.2.length≤1048576) (hN:1048577<N):∃ r,Zh6 N n=some r:=
 Zr1 hb hl hN N 0 0 (by omega) (by omega) (by omega) (by omega)
theorem Zyy:Wu Tryz.prog 3 1 8:=⟨Tryz.t3,_,rfl,rfl,rfl,rfl,rfl⟩
def Zh8 (aa:List Int) (ab:Int) (kk_L3:(Int→Option R4)) (ac:Bool):Option R4:=
  if ac=true then (some (false,aa)) else (kk_L3 (i64.wrap (ab+1)))
def Qt (N:Nat) (aa:List Int) (ac:List Int):Nat→Int→Option R4
  | 0,_=>none
  | ad+1,ab=>if (decide (ab<(aa.length:Int)))=true then ((Zk aa ab).bind fun ae=>if (!decide (ae=(-1)))=true then (Zh8 aa ab (Qt N aa ac ad) true) else ((Zk ac ab).bind fun af=>Zh8 aa ab (Qt N aa ac ad) (!decide (af=(-1))))) else (some (true,aa))
termination_by structural x=>x
def Zbk (N:Nat) (ab:List Int):Nat→R2→Int→Option R4
  | 0,_,_=>none
  | ad+1,aa,ac=>if (decide (ac<40))=true then (Zv ((aa.length+[(-2)].length) * 8≤140737488355328∧aa.length+[(-2)].length≤maxLen) ((Zbk N ab ad) (aa++[(-2)]) (i64.wrap (ac+1)))) else (Qt N ab aa N 0)
termination_by structural x=>x
def Zc8 (N:Nat):Nat→R2→Int→Option R4
  | 0,_,_=>none
  | ac+1,aa,ab=>if (decide (ab<(aa.length:Int)))=true then ((Zk aa ab).bind fun ae=>(some (aa.set (Int.toNat ab) (-1))).bind fun ad=>(Zc8 N ac) ad (i64.wrap (ab+1))) else (Zbk N aa N aa 0)
termination_by structural x=>x
def Zh7 (N:Nat) (aa:List Int):Option R4:=
  Zc8 N N aa 0
theorem Zwz {N ad:Nat} {a0:Option Addr} {col:Zd} {w0:World} {af:R2} {r:R4} (qc0:Nat) (hm:Zh7 N af=some r) (hd:Sw [qc0]=true) (h0:Zc (Za.int .i64) 3 qc0 col w0 a0 ad af):
    Calls Tryz.prog 33 #[.slice a0 af.length ad] w0 (fun e w'=>∃ (col':Zd),e= .returned ((.bool r.1))∧Z2 (pS [qc0]) col w0 col' w'∧Zc (Za.int .i64) 3 qc0 col' w' a0 ad r.2∧r.2.length=af.length):=by
 refine Xe 2 (m:=42) func33 rfl rfl rfl rfl rfl ?_;rw [Zh7.eq_1] at hm;have aa:=St.startL (l:=[qc0]) rfl col w0;replace h0:=h0.startL (Q8 hd 0 rfl) (Q7 hd 0 rfl);refine go ?_;refine Z0 [1000000] (fun n f aq=>∃ ar ab an ah,ah=n∧Zc8 N ah ab an=some r∧St w0 (Xo [qc0] col) ar aq∧Zc (Za.int .i64) 3 440 ar aq a0 ad ab∧ab.length=af.length∧ab.length=af.length∧[0,3].map f=[.slice a0 ab.length ad,.int .i64 an]) N ⟨_,_,0,_,rfl,hm,aa,h0,rfl,rfl,rfl⟩ ?_;clear hm;intro n f aq hI;obtain ⟨ar,ab,an,ah,hn,hm,aa,au,av,bo,hs⟩:=hI;subst hn;refine .lL [0,3] hs ?_
 cases ah with
 | zero=>rw [Zc8.eq_1] at hm;cases hm
 | succ ah=>
  rw [Zc8.eq_2] at hm;refine go ?_;refine Zp hm (fun hb hm=>go ?_) fun hb hm=>go ?_
  ·obtain ⟨bp,aw,hm⟩:=bZ hm;refine lI aw (au.addr aw) ?_;obtain ⟨aj,ak,hm⟩:=bZ hm;have ak:aj=ab.set (Int.toNat an) (-1):=(Option.some.inj ak).symm;refine Yx (x1:=(-1)) au aw ?_;intro bq bc bd a8;rw [← ak] at a8;have a9:aj.length=af.length:=(show ab.length=aj.length by rw [ak,List.length_set]).symm.trans av;refine .ld (d:=0) (v:=(.slice a0 aj.length ad)) (congrArg (fun n=>Value.slice a0 n ad) (show ab.length=aj.length by rw [ak,List.length_set])) ?_;refine go ?_;replace aa:=aa.kp bc bd;exact ⟨ah,by omega,rfl,⟨_,_,_,_,rfl,hm,aa,a8,a9,a9,rfl⟩⟩
  have be:=au.ex;refine Z0 [0,1000000] (fun n f ax=>∃ ao al am ae ay ai,ai=n∧Zbk N ab ai ae ay=some r∧St w0 (Xo [qc0] col) ao ax∧Ex (Za.int .i64) 3 440 ao ax a0 ad ab al am ae∧[4,5].map f=[.slice al ae.length am,.int .i64 ay]) N ⟨_,_,_,_,0,_,rfl,hm,aa,be,rfl⟩ ?_;clear hm;intro n f ax hI;obtain ⟨ao,al,am,ae,ay,ai,hn,hm,aa,ac,hs⟩:=hI;subst hn;refine .lL [4,5] hs ?_
  cases ai with
  | zero=>rw [Zbk.eq_1] at hm;cases hm
  | succ ai=>
   rw [Zbk.eq_2] at hm;refine go ?_;refine Zp hm (fun hb hm=>go ?_) fun hb hm=>go ?_
   ·refine W4 (col:=ao) [(-2)] 1 ?_;intro br bf bg ba bh;obtain ⟨bb,hm⟩:=Zy hm;replace ac:=ac.gr ba;refine Zcv (col:=bg) (w:=bf) (r:=(Za.int .i64)) (c:=440) (c2:=440) ac (bh.srcN (NB.int (k:=.i64))) rfl underlying40 Zyy rfl rfl rfl bb.1 bb.2 (by decide) ?_;intro bs bt bu bv bi bj;refine go ?_;replace aa:=(aa.grow ba).kpp bi;exact ⟨ai,by omega,rfl,⟨_,_,_,_,_,_,rfl,hm,aa,bj,rfl⟩⟩
   refine Z0 [0,4,1000000] (fun n f az=>∃ a1 ap ag,ag=n∧Qt N ab ae ag ap=some r∧St w0 (Xo [qc0] col) a1 az∧Ex (Za.int .i64) 3 440 a1 az a0 ad ab al am ae∧[6].map f=[.int .i64 ap]) N ⟨_,0,_,rfl,hm,aa,ac,rfl⟩ ?_;clear hm;intro n f az hI;obtain ⟨a1,ap,ag,hn,hm,aa,ac,hs⟩:=hI;subst hn;refine .lL [6] hs ?_
   cases ag with
   | zero=>rw [Qt.eq_1] at hm;cases hm
   | succ ag=>
    rw [Qt.eq_2] at hm;refine go ?_;refine Zp hm (fun hb hm=>?_) fun hb hm=>go ?_
    ·refine X7<|Zu<|Zeu<|Zu ?_;refine Wp.cutK [0,4,6,1000000] (fun f a2=>∃ a3 a4,Zh8 ab ap (Qt N ab ae ag) a4=some r∧St w0 (Xo [qc0] col) a3 a2∧Ex (Za.int .i64) 3 440 a3 a2 a0 ad ab al am ae∧[41].map f=[.bool a4]) ?_ ?_
     ·intro f a2 hJ;obtain ⟨a3,a4,hm,aa,ac,hs⟩:=hJ;rw [Zh8.eq_1] at hm;refine .lL [41] hs ?_;refine Zp hm (fun hb hm=>go ?_) fun hb hm=>go ?_
      ·have bk:=ac.old;refine go ?_;cases hm;exact ⟨rfl,_,rfl,aa.finL rfl (cm [(440,qc0)]),aa.foL bk,av⟩
      exact ⟨ag,by omega,rfl,⟨_,_,_,rfl,hm,aa,ac,rfl⟩⟩
     refine go ?_;obtain ⟨bw,a5,hm⟩:=bZ hm;refine lI a5 (ac.old.addr a5)<|lW (ac.old.atInt a5) ?_;refine go ?_;refine Xn hm (fun a6 hm=>go ?_) fun a6 hm=>go ?_
     ·refine lV (.bool true) (Z1 (congrArg Value.bool a6) rfl)<|Zl ?_;exact ⟨rfl,_,_,hm,aa,ac,rfl⟩
     obtain ⟨bm,a7,hm⟩:=bZ hm;refine lI a7 (ac.new.addr a7) ?_;refine go ?_;refine lW (ac.new.atInt a7)<|go ?_;refine lV (.bool (!decide (bm=(-1)))) (Xj (congrArg Value.bool a6) rfl)<|Zl ?_;exact ⟨rfl,_,_,hm,aa,ac,rfl⟩
    have bn:=ac.old;refine go ?_;cases hm;exact ⟨rfl,_,rfl,aa.finL rfl (cm [(440,qc0)]),aa.foL bn,av⟩
theorem Zvl {N:Nat} (m:Nat) (M:List Int) (hm:m≤1048576):∀ (f i:Nat),i≤m→m<f+i→Qt N (List.replicate m (-1)) (List.replicate m (-1)++M) f (i:Int)=some (true,List.replicate m (-1))
 | 0,i,h1,h2=>by omega
 | f+1,i,h1,h2=>by
  rw [Qt.eq_2,List.length_replicate]
  by_cases hi:i<m
  ·rw [if_pos (decide_eq_true (by omega)),Zx (by rw [List.length_replicate];exact hi),List.getElem_replicate,Option.bind_some,if_neg (by decide),Zx (by rw [List.length_append,List.length_replicate];omega),List.getElem_append_left (by rw [List.length_replicate];exact hi),List.getElem_replicate,Option.bind_some,Zh8,if_neg (by decide),wS (by omega)]
   exact Zvl m M hm f (i+1) (by omega) (by omega)
  ·rw [if_neg (by rw [decide_eq_false (by omega)];decide)]
theorem Zvk {N:Nat} (R:List Int) (hm:R.length≤1048576):∀ (f i:Nat),i≤40→40<f+i→Zbk N R f (R++List.replicate i (-2)) (i:Int)=Qt N R (R++List.replicate 40 (-2)) N 0
 | 0,i,h1,h2=>by omega
 | f+1,i,h1,h2=>by
  rw [Zbk.eq_2]
  by_cases hi:i<40
  ·rw [if_pos (decide_eq_true (by omega)),Z4 (by simp only [List.length_append,List.length_replicate,List.length_singleton,maxLen];omega),List.append_assoc,← List.replicate_succ',wS (by omega)]
   exact Zvk R hm f (i+1) (by omega) (by omega)
  ·rw [if_neg (by rw [decide_eq_false (by omega)];decide),show i=40 by omega]
theorem Zvj {N:Nat} {l:List Int} (hm:l.length≤1048576):∀ (f i:Nat),i≤l.length→l.length<f+i→Zc8 N f (List.replicate i (-1)++l.drop i) (i:Int)=Zbk N (List.replicate l.length (-1)) N (List.replicate l.length (-1)) 0
 | 0,i,h1,h2=>by omega
 | f+1,i,h1,h2=>by
  have hlen:(List.replicate i (-1)++l.drop i).length=l.length:=by rw [List.length_append,List.length_replicate,List.length_drop];omega
  rw [Zc8.eq_2,hlen]
  by_cases hi:i<l.length
  ·have e:(List.replicate i (-1)++l.drop i).set i (-1)=List.replicate (i+1) (-1)++l.drop (i+1):=by
    rw [List.drop_eq_getElem_cons hi,List.set_append_right (i:=i) (-1) (by rw [List.length_replicate];exact Nat.le_refl _),List.length_replicate,Nat.sub_self,List.set_cons_zero,List.replicate_succ',List.append_assoc];rfl
   rw [if_pos (decide_eq_true (by omega)),Zx (by rw [hlen];exact hi),Option.bind_some,Int.toNat_natCast,e,Option.bind_some,wS (by omega)]
   exact Zvj hm f (i+1) (by omega) (by omega)
  ·have:i=l.length:=by omega
   subst this
   rw [if_neg (by rw [decide_eq_false (by omega)];decide),List.drop_length,List.append_nil]
theorem Z2i {N:Nat} {l:List Int} (hm:l.length≤1048576) (hN:1048577<N):Zh7 N l=some (true,List.replicate l.length (-1)):=by
 have h1:=Zvj (N:=N) hm N 0 (Nat.zero_le _) (by omega)
 have h2:=Zvk (N:=N) (List.replicate l.length (-1)) (by rw [List.length_replicate];exact hm) N 0 (Nat.zero_le _) (by omega)
 have h3:=Zvl (N:=N) l.length (List.replicate 40 (-2)) hm N 0 (Nat.zero_le _) (by omega)
 rw [List.replicate_zero,List.append_nil,show ((0:Nat):Int)=0 from rfl] at h2
 rw [List.replicate_zero,List.nil_append,List.drop_zero,show ((0:Nat):Int)=0 from rfl,h2] at h1
 rw [Zh7,h1]
 exact h3
def Zed (aa:Bool):Option Bool:=
  some aa
def Zi0 (ab:Rh) (aa:R1) (ac:Bool):Option Bool:=
  if ac=true then (some false) else (Zv ((0:Int)≤(i64.wrap ((aa.1.2.length:Int)+2))∧(i64.wrap ((aa.1.2.length:Int)+2))≤(ab.1.2.2.length:Int)) (Zv ((0:Int)≤(i64.wrap ((aa.2.length:Int)+2))∧(i64.wrap ((aa.2.length:Int)+2))≤(ab.2.2.length:Int)) ((Zk (ab.1.2.2.take (Int.toNat (i64.wrap ((aa.1.2.length:Int)+2)))) (i64.wrap (((ab.1.2.2.take (Int.toNat (i64.wrap ((aa.1.2.length:Int)+2)))).length:Int) - 2))).bind fun ad=>if (decide (ad=901))=true then ((Zk (ab.1.2.2.take (Int.toNat (i64.wrap ((aa.1.2.length:Int)+2)))) (i64.wrap (((ab.1.2.2.take (Int.toNat (i64.wrap ((aa.1.2.length:Int)+2)))).length:Int) - 1))).bind fun ae=>if (decide (ae=902))=true then ((Zk (ab.2.2.take (Int.toNat (i64.wrap ((aa.2.length:Int)+2)))) (i64.wrap (((ab.2.2.take (Int.toNat (i64.wrap ((aa.2.length:Int)+2)))).length:Int) - 2))).bind fun af=>if (decide (af=903))=true then ((Zk (ab.2.2.take (Int.toNat (i64.wrap ((aa.2.length:Int)+2)))) (i64.wrap (((ab.2.2.take (Int.toNat (i64.wrap ((aa.2.length:Int)+2)))).length:Int) - 1))).bind fun ag=>Zed (decide (ag=904))) else (Zed false)) else (Zed false)) else (Zed false))))
def Zg0 (N:Nat) (aa:Rh) (ab:R1):Option Bool:=
  (Zb8 N ((aa.1.1,aa.1.2.2.take aa.1.2.1),aa.2.2.take aa.2.1) ((ab.1.1,ab.1.2),ab.2)).bind fun ac=>if (!ac)=true then (Zi0 aa ab true) else (Zv (i64.wrap ((ab.1.2.length:Int)+2)≤(aa.1.2.2.length:Int)) (Zv (i64.wrap ((ab.2.length:Int)+2)≤(aa.2.2.length:Int)) (Zi0 aa ab false)))
theorem Zph {N ah ai ao ap:Nat} {aj ak aq ar:Option Addr} {col:Zd} {w0:World} {ac:Rh} {ab:R1} {r:Bool} (hm:Zg0 N ac ab=some r) (af:Sl (Za.int .u32) col w0 aj ah ac.1.2.2) (ag:Sl (Za.int .u32) col w0 ak ai ac.2.2) (au:Sl (Za.int .u32) col w0 aq ao ab.1.2) (av:Sl (Za.int .u32) col w0 ar ap ab.2):
    Calls Tryz.prog 32 #[(.agg #[.bool ac.1.1,.slice aj ((ac.1.2.2.take ac.1.2.1).length) ah,.slice ak ((ac.2.2.take ac.2.1).length) ai]),(.agg #[.bool ab.1.1,.slice aq ab.1.2.length ao,.slice ar ab.2.length ap])] w0 (fun e w'=>e= .returned ((.bool r))∧Below w0.heap.size w0 w'):=by
 refine Xe 4 (m:=83) func32 rfl rfl rfl rfl rfl ?_;rw [Zg0.eq_1] at hm;have aa:=St.start col w0;refine go ?_;refine Xf (col:=(Zi col)) 1 rfl ?_;intro be bp bf bg ad;refine Xf (col:=bf) 2 rfl ?_;intro bh bi a8 a9 ae;refine Zct rfl<|Zl<|Zu<|Zu ?_;replace af:=af.keep (Zj.start col w0);replace ag:=ag.keep (Zj.start col w0);replace au:=au.keep (Zj.start col w0);replace av:=av.keep (Zj.start col w0);replace aa:=(aa.grow bg).grow a9;replace ad:=ad.gr a9;refine Wp.cutK [2,3,1000000] (fun f am=>∃ an aw,Zi0 ac ab aw=some r∧St w0 (Zi col) an am∧Zm 47 1 an am be #[.bool ac.1.1,.slice aj ((ac.1.2.2.take ac.1.2.1).length) ah,.slice ak ((ac.2.2.take ac.2.1).length) ai]∧Zm 47 2 an am bh #[.bool ab.1.1,.slice aq ab.1.2.length ao,.slice ar ab.2.length ap]∧[32].map f=[.bool aw]) ?_ ?_
 ·intro f am hJ;obtain ⟨an,aw,hm,aa,ad,ae,hs⟩:=hJ;rw [Zi0.eq_1] at hm;refine .lL [32] hs ?_;refine Zp hm (fun hb hm=>go ?_) fun hb hm=>go ?_
  ·cases hm;exact ⟨rfl,rfl,aa.below⟩
  refine Xb ⟨_,_,rfl⟩ ?_;refine Xb (Yz ⟨_,_,rfl⟩) ?_;refine lW ((((ad.atN).part 0 2 _ rfl)).nth (q:=1) rfl)<|Xb ⟨_,_,rfl⟩ ?_;refine Xb (Yz ⟨_,_,rfl⟩) ?_;refine lW ((((ae.atN).part 0 2 _ rfl)).nth (q:=1) rfl)<|go ?_;obtain ⟨ax,hm⟩:=Zy hm;refine lv (v:=.slice aj (Int.toNat (i64.wrap ((ab.1.2.length:Int)+2))) ah) rfl rfl (Vs underlying43 sizeOf79 rfl rfl ax.1 (by have:=(af.ks aa).1.2;have:=ax.2;omega))<|.ld (d:=41) (v:=(.slice aj ((ac.1.2.2.take (Int.toNat (i64.wrap ((ab.1.2.length:Int)+2)))).length) ah)) (congrArg (fun n=>Value.slice aj n ah) (List.length_take_of_le (show (Int.toNat (i64.wrap ((ab.1.2.length:Int)+2)))≤ac.1.2.2.length by have:=ax.2;omega)).symm) ?_;refine go ?_;refine Z7 ad<|Z7 ae ?_;refine go ?_;obtain ⟨ay,hm⟩:=Zy hm;refine lv (v:=.slice ak (Int.toNat (i64.wrap ((ab.2.length:Int)+2))) ai) rfl rfl (Vs underlying43 sizeOf79 rfl rfl ay.1 (by have:=(ag.ks aa).1.2;have:=ay.2;omega))<|.ld (d:=48) (v:=(.slice ak ((ac.2.2.take (Int.toNat (i64.wrap ((ab.2.length:Int)+2)))).length) ai)) (congrArg (fun n=>Value.slice ak n ai) (List.length_take_of_le (show (Int.toNat (i64.wrap ((ab.2.length:Int)+2)))≤ac.2.2.length by have:=ay.2;omega)).symm) ?_;refine U7 rfl<|Zl<|Zu ?_;refine Wp.cutK [1000000] (fun f ba=>∃ bb az,Zed az=some r∧St w0 (Zi col) bb ba∧[4].map f=[.bool az]) ?_ ?_
  ·intro f ba hJ;obtain ⟨bb,az,hm,aa,hs⟩:=hJ;rw [Zed.eq_1] at hm;refine .lL [4] hs<|Wa ?_;cases hm;exact ⟨rfl,rfl,aa.below⟩
  refine go ?_;obtain ⟨bq,a0,hm⟩:=bZ hm;refine lI a0 (((af.ks aa).take (Int.toNat (i64.wrap ((ab.1.2.length:Int)+2)))).addr a0)<|lW (((af.ks aa).take (Int.toNat (i64.wrap ((ab.1.2.length:Int)+2)))).atInt a0) ?_;refine go ?_;refine Xn hm (fun a1 hm=>go ?_) fun a1 hm=>go ?_
  ·obtain ⟨bj,a2,hm⟩:=bZ hm;refine lI a2 (((af.ks aa).take (Int.toNat (i64.wrap ((ab.1.2.length:Int)+2)))).addr a2) ?_;refine go ?_;refine lW (((af.ks aa).take (Int.toNat (i64.wrap ((ab.1.2.length:Int)+2)))).atInt a2)<|go ?_;refine lV (.bool (decide (bj=902))) (Z1 (congrArg Value.bool a1) rfl)<|Xx rfl ?_;refine Xn hm (fun a3 hm=>go ?_) fun a3 hm=>go ?_
   ·obtain ⟨bk,a4,hm⟩:=bZ hm;refine lI a4 (((ag.ks aa).take (Int.toNat (i64.wrap ((ab.2.length:Int)+2)))).addr a4) ?_;refine go ?_;refine lW (((ag.ks aa).take (Int.toNat (i64.wrap ((ab.2.length:Int)+2)))).atInt a4)<|go ?_;refine lV (.bool (decide (bk=903))) (Z1 (congrArg Value.bool a3) rfl)<|Xx rfl ?_;refine Xn hm (fun a5 hm=>go ?_) fun a5 hm=>go ?_
    ·obtain ⟨bm,a6,hm⟩:=bZ hm;refine lI a6 (((ag.ks aa).take (Int.toNat (i64.wrap ((ab.2.length:Int)+2)))).addr a6) ?_;refine go ?_;refine lW (((ag.ks aa).take (Int.toNat (i64.wrap ((ab.2.length:Int)+2)))).atInt a6)<|go ?_;refine lV (.bool (decide (bm=904))) (Z1 (congrArg Value.bool a5) rfl)<|go ?_;exact ⟨rfl,_,_,hm,aa,rfl⟩
    refine lV (.bool false) (Xj (congrArg Value.bool a5) rfl)<|go ?_;exact ⟨rfl,_,_,hm,aa,rfl⟩
   refine lV (.bool false) (Xj (congrArg Value.bool a3) rfl)<|Xx rfl<|lP 74 rfl rfl<|lP 74 rfl rfl<|lP 74 rfl rfl<|lP 74 rfl rfl<|lP 74 rfl rfl<|lP 74 rfl rfl<|lP 74 rfl rfl<|lV (.bool false) (Xj rfl rfl)<|go ?_;exact ⟨rfl,_,_,hm,aa,rfl⟩
  refine lV (.bool false) (Xj (congrArg Value.bool a1) rfl)<|Xx rfl<|lP 65 rfl rfl<|lP 65 rfl rfl<|lP 65 rfl rfl<|lP 65 rfl rfl<|lP 65 rfl rfl<|lP 65 rfl rfl<|lP 65 rfl rfl<|lV (.bool false) (Xj rfl rfl)<|Xx rfl<|lP 74 rfl rfl<|lP 74 rfl rfl<|lP 74 rfl rfl<|lP 74 rfl rfl<|lP 74 rfl rfl<|lP 74 rfl rfl<|lP 74 rfl rfl<|lV (.bool false) (Xj rfl rfl)<|go ?_;exact ⟨rfl,_,_,hm,aa,rfl⟩
 refine Wh<|lV _ (Z8 isAgg47 sizeOf47 ad)<|lV _ (Z8 isAgg47 sizeOf47 ae) ?_;obtain ⟨br,bn,hm⟩:=bZ hm;refine Zh (Zpg bn ((af.ks aa).take ac.1.2.1) ((ag.ks aa).take ac.2.1) (au.ks aa) (av.ks aa)) ?_;rintro _ bo ⟨rfl,al⟩;refine ⟨_,rfl,?_⟩;replace al:Zf a8 bi a8 bo:=.of_below al;refine go ?_;replace ad:=ad.gr al;replace ae:=ae.gr al;replace aa:=aa.grow al;refine Xn hm (fun a7 hm=>go ?_) fun a7 hm=>go ?_
 ·refine lV (.bool true) (Z1 (congrArg Value.bool a7) rfl)<|Xx rfl<|lP 23 rfl rfl<|lP 23 rfl rfl<|lP 23 rfl rfl<|lP 23 rfl rfl<|lP 23 rfl rfl<|lP 23 rfl rfl<|lP 23 rfl rfl<|lP 23 rfl rfl<|lV (.bool true) (Z1 rfl rfl)<|Zl ?_;exact ⟨rfl,_,_,hm,aa,ad,ae,rfl⟩
 refine Xb ⟨_,_,rfl⟩ ?_;refine go ?_;refine Xb (Yz ⟨_,_,rfl⟩) ?_;refine go ?_;refine lW ((((ad.atN).part 0 2 _ rfl)).nth (q:=1) rfl)<|go ?_;refine lV (.int .i64 ah) (Ztm underlying43 rfl)<|go ?_;refine Xb ⟨_,_,rfl⟩ ?_;refine go ?_;refine Xb (Yz ⟨_,_,rfl⟩) ?_;refine go ?_;refine lW ((((ae.atN).part 0 2 _ rfl)).nth (q:=1) rfl)<|go ?_;obtain ⟨bs,hm⟩:=Zy hm;have bc:decide ((ah:Int)<(i64.wrap ((ab.1.2.length:Int)+2)))=false:=decide_eq_false (by have:=(af.ks aa).1.2;omega);(first | refine lv (v:=(.bool false)) rfl rfl (Ztt bc rfl rfl) ?_ | rw [bc]);refine lV (.bool false) (Xj (congrArg Value.bool a7) rfl)<|Xx rfl<|lG 23 rfl rfl<|Xb ⟨_,_,rfl⟩ ?_;refine lG 23 rfl rfl<|lW ((ad.atN).nth (q:=2) rfl)<|lG 23 rfl rfl<|lV (.int .i64 ai) (Ztm underlying43 rfl)<|lG 23 rfl rfl<|Xb ⟨_,_,rfl⟩ ?_;refine lG 23 rfl rfl<|lW ((ae.atN).nth (q:=2) rfl)<|lG 23 rfl rfl<|go ?_;refine lG 23 rfl rfl<|go ?_;refine lG 23 rfl rfl ?_;obtain ⟨bt,hm⟩:=Zy hm;have bd:decide ((ai:Int)<(i64.wrap ((ab.2.length:Int)+2)))=false:=decide_eq_false (by have:=(ag.ks aa).1.2;omega);(first | refine lv (v:=(.bool false)) rfl rfl (Ztt bd rfl rfl) ?_ | rw [bd]);refine lV (.bool false) (Xj rfl rfl)<|Zl ?_;exact ⟨rfl,_,_,hm,aa,ad,ae,rfl⟩
def Zc6 (aa:Bool):Option Bool:=
  some aa
def Zaf (N:Nat) (ac:R1) (ad:Re) (ab:R3) (aa:Rh) (ae:Re) (af:Re) (ag:Bool):Option Bool:=
  if ag=true then (some false) else ((Zh7 N ae.1).bind fun ah=>(Zbb N (ab.1,ab.2.1.2.take ab.2.1.1,ab.2.2.1.map Xh,ab.2.2.2.1.map Xh,ab.2.2.2.2.map (Ve (Prod.map (Prod.map id Xh) Xh))) ((aa.1.1,aa.1.2.2.take aa.1.2.1),aa.2.2.take aa.2.1)).bind fun ai=>if ah.1=true then ((Zb9 N af.1 ad.1).bind fun aj=>if aj=true then ((Zb9 N ai.1 ad.1).bind fun ak=>if ak=true then ((Zg0 N ((aa.1.1,(aa.1.2.1,aa.1.2.2)),(aa.2.1,aa.2.2)) ((ac.1.1,ac.1.2),ac.2)).bind fun al=>Zc6 al) else (Zc6 false)) else (Zc6 false)) else (Zc6 false))
def Zkl (N:Nat) (ac:R0) (ad:R1):Option Bool:=
  (Zh6 N (ac.1,ac.2.1,ac.2.2.1,ac.2.2.2.1,ac.2.2.2.2)).bind fun ah=>if ah=true then (some true) else ((Zg1 N (ac.1,ac.2.1,ac.2.2.1,ac.2.2.2.1,ac.2.2.2.2) ((ad.1.1,ad.1.2),ad.2)).bind fun ae=>(Zgx N (ac.1,ac.2.1,ac.2.2.1,ac.2.2.2.1,ac.2.2.2.2)).bind fun aa=>(Zb4 ((ad.1.1,ad.1.2),ad.2)).bind fun ab=>(Zbb N (aa.1,aa.2.1.2.take aa.2.1.1,aa.2.2.1.map Xh,aa.2.2.2.1.map Xh,aa.2.2.2.2.map (Ve (Prod.map (Prod.map id Xh) Xh))) ((ab.1.1,ab.1.2.2.take ab.1.2.1),ab.2.2.take ab.2.1)).bind fun af=>(Zbb N (aa.1,aa.2.1.2.take aa.2.1.1,aa.2.2.1.map Xh,aa.2.2.2.1.map Xh,aa.2.2.2.2.map (Ve (Prod.map (Prod.map id Xh) Xh))) ((ab.1.1,ab.1.2.2.take ab.1.2.1),ab.2.2.take ab.2.1)).bind fun ag=>if (!decide (af.2=ae.2))=true then (Zaf N ad ae aa ab af ag true) else (if (!decide (ag.2=ae.2))=true then (Zaf N ad ae aa ab af ag true) else ((Zb9 N af.1 ae.1).bind fun ai=>if (!ai)=true then (Zaf N ad ae aa ab af ag true) else ((Zb9 N ag.1 ae.1).bind fun aj=>if (!aj)=true then (Zaf N ad ae aa ab af ag true) else ((Zgw N (aa.1,(aa.2.1.1,aa.2.1.2),aa.2.2.1,aa.2.2.2.1,aa.2.2.2.2) (ac.1,ac.2.1,ac.2.2.1,ac.2.2.2.1,ac.2.2.2.2)).bind fun ak=>if (!ak)=true then (Zaf N ad ae aa ab af ag true) else ((Zg0 N ((ab.1.1,(ab.1.2.1,ab.1.2.2)),(ab.2.1,ab.2.2)) ((ad.1.1,ad.1.2),ad.2)).bind fun al=>Zaf N ad ae aa ab af ag (!al)))))))
theorem Zwx (N:Nat) (col:Zd) (w0:World) (cn:Option Addr) (co:Nat) (cp:Option Addr) (cq:Nat) (cr:Option Addr) (cs:Nat) (ct:Option Addr) (cu:Nat) (a3:R0) (b1:Option Addr) (b2:Nat) (b3:Option Addr) (b4:Nat) (a4:R1) (bo:Sl Za.str col w0 cn co a3.2.1) (bp:Sl (Za.slice Za.str) col w0 cp cq a3.2.2.1) (bq:Sl (Za.slice (Za.int .i64)) col w0 cr cs a3.2.2.2.1) (br:Sl (Za.slice (Za.pair (Za.pair Za.bool (Za.slice (Za.int .u32))) (Za.slice (Za.int .u32)))) col w0 ct cu a3.2.2.2.2) (bs:Sl (Za.int .u32) col w0 b1 b2 a4.1.2) (bt:Sl (Za.int .u32) col w0 b3 b4 a4.2) (r:Bool) (hm:Zkl N a3 a4=some r):
    Calls Tryz.prog 5 #[(.agg #[.string a3.1,.slice cn a3.2.1.length co,.slice cp a3.2.2.1.length cq,.slice cr a3.2.2.2.1.length cs,.slice ct a3.2.2.2.2.length cu]),(.agg #[.bool a4.1.1,.slice b1 a4.1.2.length b2,.slice b3 a4.2.length b4])] w0 (fun e w'=>e= .returned ((.bool r))∧Below w0.heap.size w0 w'):=by
 refine Xe 4 (m:=96) func5 rfl rfl rfl rfl rfl ?_;rw [Zkl.eq_1] at hm;have ab:=St.start col w0;refine go ?_;refine Xf (col:=(Zi col)) 1 rfl ?_;intro ej ek db dc ao;refine Xf (col:=db) 2 rfl ?_;intro dd de cv cw af;refine go ?_;replace ao:=ao.gr cw;refine lV _ (Z8 isAgg27 sizeOf27 ao) ?_;obtain ⟨el,df,hm⟩:=bZ hm;replace bo:=bo.keep (Zj.start col w0);replace bp:=bp.keep (Zj.start col w0);replace bq:=bq.keep (Zj.start col w0);replace br:=br.keep (Zj.start col w0);replace ab:=(ab.grow dc).grow cw;refine Zh (Zwy df (bo.ks ab) (bp.ks ab) (bq.ks ab) (br.ks ab)) ?_;rintro _ dg ⟨rfl,bv⟩;refine ⟨_,rfl,?_⟩;replace bv:Zf cv de cv dg:=.of_below bv;refine Zl ?_;replace bs:=bs.keep (Zj.start col w0);replace bt:=bt.keep (Zj.start col w0);replace ao:=ao.gr bv;replace af:=af.gr bv;replace ab:=ab.grow bv;refine Zp hm (fun hb hm=>go ?_) fun hb hm=>go ?_
 ·cases hm;exact ⟨rfl,rfl,ab.below⟩
 refine lV _ (Z8 isAgg27 sizeOf27 ao)<|lV _ (Z8 isAgg47 sizeOf47 af) ?_;obtain ⟨bi,dh,hm⟩:=bZ hm;refine Zh (Zx2 3 dh (bo.ks ab) (bp.ks ab) (bq.ks ab) (br.ks ab) (bs.ks ab) (bt.ks ab)) ?_;rintro _ em ⟨en,b5,b6,rfl,b7,al⟩;refine ⟨_,rfl,?_⟩;refine lM (.tuple #[.slice b5 bi.1.length b6,.int .i64 bi.2])<|lV (.slice b5 bi.1.length b6) (X0 rfl rfl)<|lV (.int .i64 bi.2) (X0 rfl rfl)<|go ?_;replace ao:=ao.gr b7;refine lV _ (Z8 isAgg27 sizeOf27 ao) ?_;obtain ⟨aa,di,hm⟩:=bZ hm;replace ab:=ab.grow b7;refine Zh (Zx0 di (bo.ks ab) (bp.ks ab) (bq.ks ab) (br.ks ab)) ?_;rintro _ eo ⟨dj,a7,a8,a9,ba,bb,bc,bd,be,rfl,bz,ag,ah,ai,aj⟩;refine ⟨_,rfl,?_⟩;refine Xr (col:=dj) #[.string (⟨#[]⟩),.slice none (([]:List ByteArray).length) 0,.slice none (([]:List R9).length) 0,.slice none (([]:List R2).length) 0,(.slice none (([]:List Rd).length) 0)] 4 zeroValue27 ?_;intro dk ep eq bf dl;refine Z9 dl ?_;intro er bg dm ak;refine go ?_;replace af:=(((af.gr b7).gr bz).gr bf).kp bg;refine lV _ (Z8 isAgg47 sizeOf47 af) ?_;obtain ⟨av,dn,hm⟩:=bZ hm;replace ab:=((ab.grow bz).grow bf).kp bg dm;refine Zh (Zpf dn (bs.ks ab) (bt.ks ab)) ?_;rintro _ es ⟨dp,cx,cy,cz,c0,rfl,a5,ac,ad⟩;refine ⟨_,rfl,?_⟩;refine Xr (col:=dp) #[.bool false,.slice none (([]:List Int).length) 0,.slice none (([]:List Int).length) 0] 5 zeroValue47 ?_;intro dq et eu a1 dr;refine Z9 dr ?_;intro ew a2 ds ae;refine go ?_;replace ak:=((ak.gr a5).gr a1).kp a2;refine lV _ (Z8 isAgg27 sizeOf27 ak)<|lV _ (Z8 isAgg47 sizeOf47 ae) ?_
 have dt:((.agg #[.string aa.1,.slice a7 ((aa.2.1.2.take aa.2.1.1).length) a8,.slice a9 aa.2.2.1.length ba,.slice bb aa.2.2.2.1.length bc,.slice bd aa.2.2.2.2.length be]):Value)=(.agg #[.string aa.1,(.slice a7 (aa.1,aa.2.1.2.take aa.2.1.1,aa.2.2.1.map Xh,aa.2.2.2.1.map Xh,aa.2.2.2.2.map (Ve (Prod.map (Prod.map id Xh) Xh))).2.1.length a8),(.slice a9 (aa.1,aa.2.1.2.take aa.2.1.1,aa.2.2.1.map Xh,aa.2.2.2.1.map Xh,aa.2.2.2.2.map (Ve (Prod.map (Prod.map id Xh) Xh))).2.2.1.length ba),(.slice bb (aa.1,aa.2.1.2.take aa.2.1.1,aa.2.2.1.map Xh,aa.2.2.2.1.map Xh,aa.2.2.2.2.map (Ve (Prod.map (Prod.map id Xh) Xh))).2.2.2.1.length bc),(.slice bd (aa.1,aa.2.1.2.take aa.2.1.1,aa.2.2.1.map Xh,aa.2.2.2.1.map Xh,aa.2.2.2.2.map (Ve (Prod.map (Prod.map id Xh) Xh))).2.2.2.2.length be)]):=by first | (simp only [List.length_map];done) | simp only [List.length_map,List.take_length]
 obtain ⟨bj,du,hm⟩:=bZ hm;replace ag:=((((ag.gr bf).kp bg).gr a5).gr a1).kp a2;replace ah:=((((ah.gr bf).kp bg).gr a5).gr a1).kp a2;replace ai:=((((ai.gr bf).kp bg).gr a5).gr a1).kp a2;replace aj:=((((aj.gr bf).kp bg).gr a5).gr a1).kp a2;replace ac:=(ac.gr a1).kp a2;replace ad:=(ad.gr a1).kp a2;refine lc rfl rfl (Ts call30 dt rfl) (Zmc 6 du (ag.take aa.2.1.1) (ah.weak Yl.view0) (ai.weak Yl.view0) (aj.weak (Yl.view (Yl.pair (Yl.pair Yl.rfl Yl.view0) Yl.view0))) (ac.take av.1.2.1) (ad.take av.2.1):) ?_;rintro _ ey ⟨ez,bw,bx,rfl,az,am⟩;refine ⟨_,rfl,?_⟩;refine lM (.tuple #[.slice bw bj.1.length bx,.int .i64 bj.2])<|lV (.slice bw bj.1.length bx) (X0 rfl rfl)<|lV (.int .i64 bj.2) (X0 rfl rfl)<|go ?_;replace ak:=ak.gr az;refine lV _ (Z8 isAgg27 sizeOf27 ak) ?_;replace ae:=ae.gr az;refine lV _ (Z8 isAgg47 sizeOf47 ae) ?_;have dv:((.agg #[.string aa.1,.slice a7 ((aa.2.1.2.take aa.2.1.1).length) a8,.slice a9 aa.2.2.1.length ba,.slice bb aa.2.2.2.1.length bc,.slice bd aa.2.2.2.2.length be]):Value)=(.agg #[.string aa.1,(.slice a7 (aa.1,aa.2.1.2.take aa.2.1.1,aa.2.2.1.map Xh,aa.2.2.2.1.map Xh,aa.2.2.2.2.map (Ve (Prod.map (Prod.map id Xh) Xh))).2.1.length a8),(.slice a9 (aa.1,aa.2.1.2.take aa.2.1.1,aa.2.2.1.map Xh,aa.2.2.2.1.map Xh,aa.2.2.2.2.map (Ve (Prod.map (Prod.map id Xh) Xh))).2.2.1.length ba),(.slice bb (aa.1,aa.2.1.2.take aa.2.1.1,aa.2.2.1.map Xh,aa.2.2.2.1.map Xh,aa.2.2.2.2.map (Ve (Prod.map (Prod.map id Xh) Xh))).2.2.2.1.length bc),(.slice bd (aa.1,aa.2.1.2.take aa.2.1.1,aa.2.2.1.map Xh,aa.2.2.2.1.map Xh,aa.2.2.2.2.map (Ve (Prod.map (Prod.map id Xh) Xh))).2.2.2.2.length be)]):=by first | (simp only [List.length_map];done) | simp only [List.length_map,List.take_length]
 obtain ⟨bk,dw,hm⟩:=bZ hm;replace ag:=ag.gr az;replace ah:=ah.gr az;replace ai:=ai.gr az;replace aj:=aj.gr az;replace ac:=ac.gr az;replace ad:=ad.gr az;refine lc rfl rfl (Ts call30 dv rfl) (Zmc 7 dw (ag.take aa.2.1.1) (ah.weak Yl.view0) (ai.weak Yl.view0) (aj.weak (Yl.view (Yl.pair (Yl.pair Yl.rfl Yl.view0) Yl.view0))) (ac.take av.1.2.1) (ad.take av.2.1):) ?_;rintro _ dx ⟨bh,b8,b9,rfl,ay,an⟩;refine ⟨_,rfl,?_⟩;refine lM (.tuple #[.slice b8 bk.1.length b9,.int .i64 bk.2])<|lV (.slice b8 bk.1.length b9) (X0 rfl rfl)<|lV (.int .i64 bk.2) (X0 rfl rfl)<|U7 rfl<|Yw rfl<|Zl<|Zu<|Zu ?_;replace al:=(((((((al.gr bz).gr bf).kp bg).gr a5).gr a1).kp a2).gr az).gr ay;replace ao:=(((((((ao.gr bz).gr bf).kp bg).gr a5).gr a1).kp a2).gr az).gr ay;replace af:=((((af.gr a5).gr a1).kp a2).gr az).gr ay;replace ab:=((((ab.grow a5).grow a1).kp a2 ds).grow az).grow ay;replace ag:=ag.gr ay;replace ah:=ah.gr ay;replace ai:=ai.gr ay;replace aj:=aj.gr ay;replace ac:=ac.gr ay;replace ad:=ad.gr ay;replace am:=am.gr ay;replace ak:=ak.gr ay;replace ae:=ae.gr ay
 refine Wp.cutK [11,3,5,7,8,9,1000000] (fun f aw=>∃ ax ca,Zaf N a4 bi aa av bj bk ca=some r∧St w0 (Zi col) ax aw∧Zc (Za.int .i64) 3 7 ax aw b8 b9 bk.1∧Zm 47 2 ax aw dd #[.bool a4.1.1,.slice b1 a4.1.2.length b2,.slice b3 a4.2.length b4]∧Zc (Za.int .i64) 3 3 ax aw b5 b6 bi.1∧Sl Za.str ax aw a7 a8 aa.2.1.2∧Sl (Za.view Za.str) ax aw a9 ba aa.2.2.1∧Sl (Za.view (Za.int .i64)) ax aw bb bc aa.2.2.2.1∧Sl (Za.view (Za.pair (Za.pair Za.bool (Za.view (Za.int .u32))) (Za.view (Za.int .u32)))) ax aw bd be aa.2.2.2.2∧Zm 27 4 ax aw dk #[.string aa.1,.slice a7 ((aa.2.1.2.take aa.2.1.1).length) a8,.slice a9 aa.2.2.1.length ba,.slice bb aa.2.2.2.1.length bc,.slice bd aa.2.2.2.2.length be]∧Sl (Za.int .u32) ax aw cx cy av.1.2.2∧Sl (Za.int .u32) ax aw cz c0 av.2.2∧Zm 47 5 ax aw dq #[.bool av.1.1,.slice cx ((av.1.2.2.take av.1.2.1).length) cy,.slice cz ((av.2.2.take av.2.1).length) c0]∧Zc (Za.int .i64) 3 6 ax aw bw bx bj.1∧[71].map f=[.bool ca]) ?_ ?_
 ·intro f aw hJ;obtain ⟨ax,ca,hm,ab,an,af,al,ag,ah,ai,aj,ak,ac,ad,ae,am,hs⟩:=hJ;rw [Zaf.eq_1] at hm;refine .lL [71] hs ?_;refine Zp hm (fun hb hm=>go ?_) fun hb hm=>go ?_
  ·cases hm;exact ⟨rfl,rfl,ab.below⟩
  obtain ⟨c1,dy,hm⟩:=bZ hm;refine Zh (Zwz 6 dy rfl am) ?_;rintro _ e0 ⟨e1,rfl,a0,e2,dz⟩;refine ⟨_,rfl,?_⟩;refine .ld (d:=72) (v:=(.slice bw c1.2.length bx)) (congrArg (fun n=>Value.slice bw n bx) (show bj.1.length=c1.2.length from dz.symm)) ?_;refine go ?_;replace ak:=ak.kpp a0;refine lV _ (Z8 isAgg27 sizeOf27 ak) ?_;replace ae:=ae.kpp a0;refine lV _ (Z8 isAgg47 sizeOf47 ae) ?_;have d0:((.agg #[.string aa.1,.slice a7 ((aa.2.1.2.take aa.2.1.1).length) a8,.slice a9 aa.2.2.1.length ba,.slice bb aa.2.2.2.1.length bc,.slice bd aa.2.2.2.2.length be]):Value)=(.agg #[.string aa.1,(.slice a7 (aa.1,aa.2.1.2.take aa.2.1.1,aa.2.2.1.map Xh,aa.2.2.2.1.map Xh,aa.2.2.2.2.map (Ve (Prod.map (Prod.map id Xh) Xh))).2.1.length a8),(.slice a9 (aa.1,aa.2.1.2.take aa.2.1.1,aa.2.2.1.map Xh,aa.2.2.2.1.map Xh,aa.2.2.2.2.map (Ve (Prod.map (Prod.map id Xh) Xh))).2.2.1.length ba),(.slice bb (aa.1,aa.2.1.2.take aa.2.1.1,aa.2.2.1.map Xh,aa.2.2.2.1.map Xh,aa.2.2.2.2.map (Ve (Prod.map (Prod.map id Xh) Xh))).2.2.2.1.length bc),(.slice bd (aa.1,aa.2.1.2.take aa.2.1.1,aa.2.2.1.map Xh,aa.2.2.2.1.map Xh,aa.2.2.2.2.map (Ve (Prod.map (Prod.map id Xh) Xh))).2.2.2.2.length be)]):=by first | (simp only [List.length_map];done) | simp only [List.length_map,List.take_length]
  obtain ⟨b0,d1,hm⟩:=bZ hm;replace ag:=ag.kpp a0;replace ah:=ah.kpp a0;replace ai:=ai.kpp a0;replace aj:=aj.kpp a0;replace ac:=ac.kpp a0;replace ad:=ad.kpp a0;refine lc rfl rfl (Ts call30 d0 rfl) (Zmc 8 d1 (ag.take aa.2.1.1) (ah.weak Yl.view0) (ai.weak Yl.view0) (aj.weak (Yl.view (Yl.pair (Yl.pair Yl.rfl Yl.view0) Yl.view0))) (ac.take av.1.2.1) (ad.take av.2.1):) ?_;rintro _ d2 ⟨bu,c2,c3,rfl,bm,cb⟩;refine ⟨_,rfl,?_⟩;refine lM (.tuple #[.slice c2 b0.1.length c3,.int .i64 b0.2])<|lV (.slice c2 b0.1.length c3) (X0 rfl rfl)<|lV (.int .i64 b0.2) (X0 rfl rfl)<|U7 rfl<|Yw rfl<|Zl<|Zu ?_;replace an:=(an.kpp a0).gr bm;replace al:=(al.kpp a0).gr bm;replace af:=(af.kpp a0).gr bm;replace ab:=(ab.kpp a0).grow bm;replace ac:=ac.gr bm;replace ad:=ad.gr bm;replace ae:=ae.gr bm;refine Wp.cutK [1000000] (fun f c4=>∃ c5 cc,Zc6 cc=some r∧St w0 (Zi col) c5 c4∧[4].map f=[.bool cc]) ?_ ?_
  ·intro f c4 hJ;obtain ⟨c5,cc,hm,ab,hs⟩:=hJ;rw [Zc6.eq_1] at hm;refine .lL [4] hs<|Wa ?_;cases hm;exact ⟨rfl,rfl,ab.below⟩
  refine go ?_;refine Xn hm (fun cd hm=>go ?_) fun cd hm=>go ?_
  ·obtain ⟨d3,d4,hm⟩:=bZ hm;refine Zh (Zka d4 ((an.toSlF (Zn.int .i64)).froz 3) ((al.froz 7 (by decide)).toSlF (Zn.int .i64))) ?_;rintro _ c6 ⟨rfl,a6⟩;refine ⟨_,rfl,?_⟩;replace a6:Zf bu d2 bu c6:=.of_below a6;refine lV (.bool d3) (Z1 (congrArg Value.bool cd) rfl)<|Xx rfl ?_;replace al:=al.gr a6;replace ac:=ac.gr a6;replace ad:=ad.gr a6;replace cb:=cb.gr a6;replace af:=af.gr a6;replace ae:=ae.gr a6;replace ab:=ab.grow a6;refine Xn hm (fun ce hm=>go ?_) fun ce hm=>go ?_
   ·obtain ⟨d5,d6,hm⟩:=bZ hm;refine Zh (Zka d6 ((cb.toSlF (Zn.int .i64)).froz 3) ((al.froz 8 (by decide)).toSlF (Zn.int .i64))) ?_;rintro _ c7 ⟨rfl,bn⟩;refine ⟨_,rfl,?_⟩;replace bn:Zf bu c6 bu c7:=.of_below bn;refine lV (.bool d5) (Z1 (congrArg Value.bool ce) rfl)<|Xx rfl ?_;replace ac:=ac.gr bn;replace ad:=ad.gr bn;replace af:=af.gr bn;replace ae:=ae.gr bn;replace ab:=ab.grow bn;refine Xn hm (fun cf hm=>go ?_) fun cf hm=>go ?_
    ·refine lV _ (Z8 isAgg47 sizeOf47 ae)<|go ?_;refine lV _ (Z8 isAgg47 sizeOf47 af)<|go ?_;obtain ⟨d7,d8,hm⟩:=bZ hm;refine Zh (Zph d8 ac ad (bs.ks ab) (bt.ks ab)) ?_;rintro _ d9 ⟨rfl,cg⟩;refine ⟨_,rfl,?_⟩;replace cg:Zf bu c7 bu d9:=.of_below cg;refine lV (.bool d7) (Z1 (congrArg Value.bool cf) rfl)<|go ?_;replace ab:=ab.grow cg;exact ⟨rfl,_,_,hm,ab,rfl⟩
    refine lV (.bool false) (Xj (congrArg Value.bool cf) rfl)<|go ?_;exact ⟨rfl,_,_,hm,ab,rfl⟩
   refine lV (.bool false) (Xj (congrArg Value.bool ce) rfl)<|Xx rfl<|lP 91 rfl rfl<|lP 91 rfl rfl<|lP 91 rfl rfl<|lV (.bool false) (Xj rfl rfl)<|go ?_;exact ⟨rfl,_,_,hm,ab,rfl⟩
  refine lV (.bool false) (Xj (congrArg Value.bool cd) rfl)<|Xx rfl<|lP 86 rfl rfl<|lP 86 rfl rfl<|lP 86 rfl rfl<|lV (.bool false) (Xj rfl rfl)<|Xx rfl<|lP 91 rfl rfl<|lP 91 rfl rfl<|lP 91 rfl rfl<|lV (.bool false) (Xj rfl rfl)<|go ?_;exact ⟨rfl,_,_,hm,ab,rfl⟩
 refine go ?_;refine Xn hm (fun ch hm=>go ?_) fun ch hm=>go ?_
 ·refine lV (.bool true) (Z1 (congrArg Value.bool ch) rfl)<|Xx rfl<|lP 48 rfl rfl<|lP 48 rfl rfl<|lP 48 rfl rfl<|lP 48 rfl rfl<|lV (.bool true) (Z1 rfl rfl)<|Xx rfl<|lP 54 rfl rfl<|lP 54 rfl rfl<|lP 54 rfl rfl<|lP 54 rfl rfl<|lV (.bool true) (Z1 rfl rfl)<|Xx rfl<|lP 60 rfl rfl<|lP 60 rfl rfl<|lP 60 rfl rfl<|lP 60 rfl rfl<|lV (.bool true) (Z1 rfl rfl)<|Xx rfl<|lP 66 rfl rfl<|lP 66 rfl rfl<|lP 66 rfl rfl<|lP 66 rfl rfl<|lV (.bool true) (Z1 rfl rfl)<|Zl ?_;exact ⟨rfl,_,_,hm,ab,an,af,al,ag,ah,ai,aj,ak,ac,ad,ae,am,rfl⟩
 refine lV (.bool (!decide (bk.2=bi.2))) (Xj (congrArg Value.bool ch) rfl)<|Xx rfl ?_;refine Xn hm (fun ci hm=>go ?_) fun ci hm=>go ?_
 ·refine lV (.bool true) (Z1 (congrArg Value.bool ci) rfl)<|Xx rfl<|lP 54 rfl rfl<|lP 54 rfl rfl<|lP 54 rfl rfl<|lP 54 rfl rfl<|lV (.bool true) (Z1 rfl rfl)<|Xx rfl<|lP 60 rfl rfl<|lP 60 rfl rfl<|lP 60 rfl rfl<|lP 60 rfl rfl<|lV (.bool true) (Z1 rfl rfl)<|Xx rfl<|lP 66 rfl rfl<|lP 66 rfl rfl<|lP 66 rfl rfl<|lP 66 rfl rfl<|lV (.bool true) (Z1 rfl rfl)<|Zl ?_;exact ⟨rfl,_,_,hm,ab,an,af,al,ag,ah,ai,aj,ak,ac,ad,ae,am,rfl⟩
 obtain ⟨ea,eb,hm⟩:=bZ hm;refine Zh (Zka eb ((am.toSlF (Zn.int .i64)).froz 3) ((al.froz 6 (by decide)).toSlF (Zn.int .i64))) ?_;rintro _ c8 ⟨rfl,ap⟩;refine ⟨_,rfl,?_⟩;replace ap:Zf bh dx bh c8:=.of_below ap;refine go ?_;refine lV (.bool (!ea)) (Xj (congrArg Value.bool ci) rfl)<|Xx rfl ?_;replace al:=al.gr ap;replace ag:=ag.gr ap;replace ah:=ah.gr ap;replace ai:=ai.gr ap;replace aj:=aj.gr ap;replace ac:=ac.gr ap;replace ad:=ad.gr ap;replace am:=am.gr ap;replace an:=an.gr ap;replace ao:=ao.gr ap;replace af:=af.gr ap;replace ak:=ak.gr ap;replace ae:=ae.gr ap;replace ab:=ab.grow ap;refine Xn hm (fun cj hm=>go ?_) fun cj hm=>go ?_
 ·refine lV (.bool true) (Z1 (congrArg Value.bool cj) rfl)<|Xx rfl<|lP 60 rfl rfl<|lP 60 rfl rfl<|lP 60 rfl rfl<|lP 60 rfl rfl<|lV (.bool true) (Z1 rfl rfl)<|Xx rfl<|lP 66 rfl rfl<|lP 66 rfl rfl<|lP 66 rfl rfl<|lP 66 rfl rfl<|lV (.bool true) (Z1 rfl rfl)<|Zl ?_;exact ⟨rfl,_,_,hm,ab,an,af,al,ag,ah,ai,aj,ak,ac,ad,ae,am,rfl⟩
 obtain ⟨ec,ed,hm⟩:=bZ hm;refine Zh (Zka ed ((an.toSlF (Zn.int .i64)).froz 3) ((al.froz 7 (by decide)).toSlF (Zn.int .i64))) ?_;rintro _ c9 ⟨rfl,aq⟩;refine ⟨_,rfl,?_⟩;replace aq:Zf bh c8 bh c9:=.of_below aq;refine go ?_;refine lV (.bool (!ec)) (Xj (congrArg Value.bool cj) rfl)<|Xx rfl ?_;replace al:=al.gr aq;replace ag:=ag.gr aq;replace ah:=ah.gr aq;replace ai:=ai.gr aq;replace aj:=aj.gr aq;replace ac:=ac.gr aq;replace ad:=ad.gr aq;replace am:=am.gr aq;replace an:=an.gr aq;replace ao:=ao.gr aq;replace af:=af.gr aq;replace ak:=ak.gr aq;replace ae:=ae.gr aq;replace ab:=ab.grow aq;refine Xn hm (fun ck hm=>go ?_) fun ck hm=>go ?_
 ·refine lV (.bool true) (Z1 (congrArg Value.bool ck) rfl)<|Xx rfl<|lP 66 rfl rfl<|lP 66 rfl rfl<|lP 66 rfl rfl<|lP 66 rfl rfl<|lV (.bool true) (Z1 rfl rfl)<|Zl ?_;exact ⟨rfl,_,_,hm,ab,an,af,al,ag,ah,ai,aj,ak,ac,ad,ae,am,rfl⟩
 refine lV _ (Z8 isAgg27 sizeOf27 ak)<|go ?_;refine lV _ (Z8 isAgg27 sizeOf27 ao)<|go ?_;obtain ⟨ee,ef,hm⟩:=bZ hm;refine Zh (Zxz ef ag ah ai aj (bo.ks ab) (bp.ks ab) (bq.ks ab) (br.ks ab)) ?_;rintro _ da ⟨rfl,ar⟩;refine ⟨_,rfl,?_⟩;replace ar:Zf bh c9 bh da:=.of_below ar;refine go ?_;refine lV (.bool (!ee)) (Xj (congrArg Value.bool ck) rfl)<|Xx rfl ?_;replace al:=al.gr ar;replace ag:=ag.gr ar;replace ah:=ah.gr ar;replace ai:=ai.gr ar;replace aj:=aj.gr ar;replace ac:=ac.gr ar;replace ad:=ad.gr ar;replace am:=am.gr ar;replace an:=an.gr ar;replace af:=af.gr ar;replace ak:=ak.gr ar;replace ae:=ae.gr ar;replace ab:=ab.grow ar;refine Xn hm (fun cl hm=>go ?_) fun cl hm=>go ?_
 ·refine lV (.bool true) (Z1 (congrArg Value.bool cl) rfl)<|Zl ?_;exact ⟨rfl,_,_,hm,ab,an,af,al,ag,ah,ai,aj,ak,ac,ad,ae,am,rfl⟩
 refine lV _ (Z8 isAgg47 sizeOf47 ae)<|go ?_;refine lV _ (Z8 isAgg47 sizeOf47 af)<|go ?_;obtain ⟨eg,eh,hm⟩:=bZ hm;refine Zh (Zph eh ac ad (bs.ks ab) (bt.ks ab)) ?_;rintro _ ei ⟨rfl,au⟩;refine ⟨_,rfl,?_⟩;replace au:Zf bh da bh ei:=.of_below au;refine go ?_;refine lV (.bool (!eg)) (Xj (congrArg Value.bool cl) rfl)<|Zl ?_;replace al:=al.gr au;replace ag:=ag.gr au;replace ah:=ah.gr au;replace ai:=ai.gr au;replace aj:=aj.gr au;replace ac:=ac.gr au;replace ad:=ad.gr au;replace am:=am.gr au;replace an:=an.gr au;replace af:=af.gr au;replace ak:=ak.gr au;replace ae:=ae.gr au;replace ab:=ab.grow au;exact ⟨rfl,_,_,hm,ab,an,af,al,ag,ah,ai,aj,ak,ac,ad,ae,am,rfl⟩
theorem Z2j {N:Nat} {x:QV} (x1:x.1.2.length≤1048576) (x2:x.2.length≤1048576) (hN:1048577<N):
  Zg0 N (((Yf x).1.1,((Yf x).1.2.1,(Yf x).1.2.2)),((Yf x).2.1,(Yf x).2.2)) ((x.1.1,x.1.2),x.2)=some true:=by
 have v1:(Yf x).1.2.2.take (Yf x).1.2.1=x.1.2:=Q4 _ _
 have v2:(Yf x).2.2.take (Yf x).2.1=x.2:=Q4 _ _
 have l1:(Yf x).1.2.2.length=x.1.2.length+2:=Zh2 _ _
 have l2:(Yf x).2.2.length=x.2.length+2:=Zh2 _ _
 have sm:Zb8 N (((Yf x).1.1,x.1.2),x.2) ((x.1.1,x.1.2),x.2)=some true:=Zvc (x:=x) x1 x2 hN
 have t1:(Yf x).1.2.2.take (x.1.2.length+2)=x.1.2++[901,902]:=List.take_of_length_le (by rw [l1];omega)
 have t2:(Yf x).2.2.take (x.2.length+2)=x.2++[903,904]:=List.take_of_length_le (by rw [l2];omega)
 have q:∀ (l:List Int) (a b:Int),Zk (l++[a,b]) ((l.length:Int)+2 - 1)=some b∧Zk (l++[a,b]) ((l.length:Int)+2 - 2)=some a:=fun l a b=>by
  constructor
  ·rw [show (l.length:Int)+2 - 1=((l.length+1:Nat):Int) by omega,Uf,List.getElem?_append_right (by omega),show l.length+1 - l.length=1 by omega];rfl
  ·rw [show (l.length:Int)+2 - 2=((l.length:Nat):Int) by omega,Uf,List.getElem?_append_right (by omega),show l.length - l.length=0 by omega];rfl
 have ql:∀ (l:List Int) (a b:Int),((l++[a,b]).length:Int)=(l.length:Int)+2:=fun l a b=>by simp
 rw [Zg0,v1,v2,sm,Option.bind_some,if_neg (by decide),l1,l2,Zq (x:=(x.1.2.length:Int)+2) (by omega),Zq (x:=(x.2.length:Int)+2) (by omega),Z4 (by omega),Z4 (by omega),Zi0,if_neg (by decide),l1,l2,
  Zq (x:=(x.1.2.length:Int)+2) (by omega),Zq (x:=(x.2.length:Int)+2) (by omega),Z4 (by omega),Z4 (by omega),show Int.toNat ((x.1.2.length:Int)+2)=x.1.2.length+2 by omega,show Int.toNat ((x.2.length:Int)+2)=x.2.length+2 by omega,t1,t2,ql,ql,
  Zq (x:=(x.1.2.length:Int)+2 - 1) (by omega),Zq (x:=(x.1.2.length:Int)+2 - 2) (by omega),Zq (x:=(x.2.length:Int)+2 - 1) (by omega),Zq (x:=(x.2.length:Int)+2 - 2) (by omega),
  (q x.1.2 901 902).2,Option.bind_some,if_pos (by decide),(q x.1.2 901 902).1,Option.bind_some,if_pos (by decide),(q x.2 903 904).2,Option.bind_some,if_pos (by decide),(q x.2 903 904).1,Option.bind_some,Zed]
 rfl
theorem Zwa {N W K:Nat} {n:Xq} {x:QV} (hs:Ur n W) (hb:Zjt n) (hx:Wo x) (x1:x.1.2.length≤1048576) (x2:x.2.length≤1048576) (hW:1048576≤W) (hr:Xc N (8 * K+40)) (hWK:1025 * (W+2)+15≤K) (hN:2000000<N):Zkl N n x=some true:=by
 obtain ⟨r,hm⟩:=Zz9 (N:=N) (n:=n) (fun t ht=>⟨hb.tl t ht,hb.tm t ht⟩) hb.tn (by omega)
 have hm':Zh6 N (n.1,n.2.1,n.2.2.1,n.2.2.2.1,n.2.2.2.2)=some r:=hm
 rw [Zkl,hm',Option.bind_some]
 cases r with
 | true=>rw [if_pos rfl]
 | false=>
  rw [if_neg (show ¬ false=true by decide)]
  have hX:RV W x:=⟨hx.1,hx.2,by omega,by omega⟩
  obtain ⟨y,s1,s2,sx⟩:=Zwg hs hX hr hWK hN
  have s2':Zg1 N (n.1,n.2.1,n.2.2.1,n.2.2.2.1,n.2.2.2.2) ((x.1.1,x.1.2),x.2)=some y:=s2
  have l:Zgx N (n.1,n.2.1,n.2.2.1,n.2.2.2.1,n.2.2.2.2)=some (Yt n):=Zz1 hb (by omega)
  have c:Zb4 ((x.1.1,x.1.2),x.2)=some (Yf x):=Zpt (x:=x) x1 x2
  have v1:(Yf x).1.2.2.take (Yf x).1.2.1=x.1.2:=Q4 _ _
  have v2:(Yf x).2.2.take (Yf x).2.1=x.2:=Q4 _ _
  have s1':Zbb N n (((Yf x).1.1,x.1.2),x.2)=some y:=s1
  have k1:Zgw N ((Yt n).1,((Yt n).2.1.1,(Yt n).2.1.2),(Yt n).2.2.1,(Yt n).2.2.2.1,(Yt n).2.2.2.2) (n.1,n.2.1,n.2.2.1,n.2.2.2.1,n.2.2.2.2)=some true:=Zzq hb (by omega)
  have si:=Z2b (N:=N) (l:=y.1) (by omega) (by omega)
  have sp:=Z2i (N:=N) (l:=y.1) (by omega) (by omega)
  have st:=Z2j (N:=N) x1 x2 (by omega)
  have d1:¬ (!decide (y.2=y.2))=true:=by rw [decide_eq_true rfl];decide
  rw [s2',Option.bind_some,l,Option.bind_some,c,Option.bind_some,Zv1,v1,v2,s1',Option.bind_some,Option.bind_some,if_neg d1,if_neg d1,si,Option.bind_some,if_neg (show ¬ (!true)=true by decide),Option.bind_some,if_neg (show ¬ (!true)=true by decide),k1,Option.bind_some,if_neg (show ¬ (!true)=true by decide),st,Option.bind_some,
   Zaf,if_neg (show ¬ (!true)=true by decide),sp,Option.bind_some,Zv1,v1,v2,s1',Option.bind_some,if_pos rfl,si,Option.bind_some,if_pos rfl,Option.bind_some,if_pos rfl,st,Option.bind_some,Zc6]
theorem Zac {α:Type} {b:α→Nat} (hb:∀ x,1≤b x):∀ (l:List α),l.length+1≤Xz b l
 | []=>by simp [Xz]
 | x :: l=>by
  have h:=Zac hb l
  have:=hb x
  simp only [Xz,List.map_cons,List.sum_cons,List.length_cons] at h ⊢
  omega
theorem Zk3 {α:Type} {b:α→Nat} {x:α}:∀ {l:List α},x ∈ l→b x+1≤Xz b l
 | y :: l,h=>by
  simp only [Xz,List.map_cons,List.sum_cons]
  rcases List.mem_cons.1 h with rfl | h
  ·omega
  ·have:=Zk3 (b:=b) h
   simp only [Xz] at this
   omega
theorem Zma {α:Type} {b:α→Nat} (l:List α):1≤Xz b l:=by simp only [Xz];omega
theorem Zmb (s:ByteArray):1≤Ua s:=by simp only [Ua];omega
theorem Zl8 {α:Type} (s:α):1≤Y2 s:=by simp only [Y2];omega
theorem Zwl {α:Type} {b:α→Nat} (s:α):1≤Vo b s:=by simp only [Vo];omega
abbrev Q5:QV→Nat:=Vo (Wj (Vo (Wj Y2 (Xz Y2))) (Xz Y2))
abbrev qQ:QV→Prop:=Uy (Uy (fun _=>True) (Ww (Qe .u32))) (Ww (Qe .u32))
abbrev Zjy:Xq→Nat:=Vo (Wj Ua (Wj (Xz Ua) (Wj (Xz (Xz Ua)) (Wj (Xz (Xz Y2)) (Xz (Xz Q5))))))
abbrev Ztb:Xq→Prop:=Uy (fun _=>True) (Uy (Ww (fun _=>True)) (Uy (Ww (Ww (fun _=>True))) (Uy (Ww (Ww (Qe .i64))) (Ww (Ww qQ)))))
theorem Zrv {l:List Int} (h:Ww (Qe .u32) l):Zo l:=by
 intro d hd
 have h1:=h d hd
 simp [Qe,Lit.wf,IntKind.min,IntKind.max,IntKind.signed,IntKind.bits] at h1
 omega
theorem Zru {x:QV} (h:qQ x):Wo x:=⟨Zrv h.1.2,Zrv h.2⟩
theorem Zl9 (x:QV):x.1.2.length+x.2.length+4≤Q5 x:=by
 have h1:=Zac (b:=Y2) Zl8 x.1.2
 have h2:=Zac (b:=Y2) Zl8 x.2
 simp only [Vo,Wj]
 have h3:Y2 x.1.1=1:=rfl
 omega
theorem Zte:∀ t:List QV,X5 t≤Xz Q5 t
 | []=>by rw [X5];omega
 | x :: t=>by
  have h1:=Zte t
  have h2:=Zl9 x
  rw [X5]
  simp only [Xz,List.map_cons,List.sum_cons] at h1 ⊢
  omega
theorem Zvw:∀ P:List R2,U0 P+P.length≤Xz (Xz Y2) P
 | []=>by simp [U0,Xz]
 | l :: P=>by
  have h1:=Zvw P
  have h2:=Zac (b:=Y2) Zl8 l
  rw [Zjl,List.length_cons]
  simp only [Xz,List.map_cons,List.sum_cons] at h1 h2 ⊢
  omega
theorem Z0p {n:Xq} (hb:Zjy n≤1048576) (hq:Ztb n):Ur n 1048576∧Zjt n:=by
 have a1:=Zmb n.1
 have a2:=Zac (b:=Ua) Zmb n.2.1
 have a3:=Zac (b:=Xz Ua) Zma n.2.2.1
 have a4:=Zvw n.2.2.2.1
 have a5:=Zac (b:=Xz Q5) Zma n.2.2.2.2
 have a6:=Zma (b:=Xz Y2) n.2.2.2.1
 simp only [Zjy,Vo,Wj] at hb
 have b3:∀ l ∈ n.2.2.1,l.length≤1048576:=fun l hl=>by
  have h1:=Zk3 (b:=Xz Ua) hl
  have h2:=Zac (b:=Ua) Zmb l
  omega
 have b4:∀ l ∈ n.2.2.2.1,l.length≤1048576:=fun l hl=>by
  have h1:=Zlu hl
  omega
 have b5:∀ t ∈ n.2.2.2.2,Xz Q5 t≤1048576:=fun t ht=>by
  have h1:=Zk3 (b:=Xz Q5) ht
  omega
 have b6:∀ t ∈ n.2.2.2.2,t.length≤1048576:=fun t ht=>by
  have h1:=b5 t ht
  have h2:=Zac (b:=Q5) Zwl t
  omega
 refine ⟨⟨by omega,b3,⟨by omega,by omega⟩,b6,fun t ht=>Nat.le_trans (Zte t) (b5 t ht),fun t ht x hx=>Zru (hq.2.2.2.2 t ht x hx)⟩,⟨by omega,by omega,b3,by omega,b4,by omega,b6,fun t ht x hx=>?_⟩⟩
 have h1:=b5 t ht
 have h2:=Zk3 (b:=Q5) hx
 have h3:=Zl9 x
 omega
end Go.Proofs.YtbmjpjhbankpoaaGreat
