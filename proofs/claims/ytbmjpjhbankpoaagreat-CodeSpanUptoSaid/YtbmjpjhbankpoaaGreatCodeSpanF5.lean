/-
  What functions of the program compute, as plain Lean functions (m_..), and proofs that they compute it (c_..). Printed by a program of the author; no conditions.
-/
import Derived.Test.YtbmjpjhbankpoaaGreatCodeSpanBFloat
import Derived.Test.YtbmjpjhbankpoaaGreatProg
import Derived.Test.YtbmjpjhbankpoaaGreatCodeSpanBBrief
import Derived.Test.YtbmjpjhbankpoaaGreatCodeSpanBBulk
import Derived.Test.YtbmjpjhbankpoaaGreatCodeSpanBView
import Derived.Test.YtbmjpjhbankpoaaGreatCodeSpanF4
set_option linter.unusedVariables false
set_option maxRecDepth 100000
set_option maxHeartbeats 2000000
namespace Go.Proofs.YtbmjpjhbankpoaaGreat
open Go Go.RowKit
open Go.IntKind (i8 i16 i32 i64 u8 u16 u32 u64)
open Go.Proofs.Tryz

theorem Zyv:Ws Tryz.prog 9 1 16:=⟨Tryz.t9,_,rfl,rfl,rfl,rfl,rfl⟩
theorem Zyo:Ws Tryz.prog 22 1 24:=⟨Tryz.t22,_,rfl,rfl,rfl,rfl,rfl⟩
theorem Zyr:Ws Tryz.prog 40 1 24:=⟨Tryz.t40,_,rfl,rfl,rfl,rfl,rfl⟩
theorem Zyt:Ws Tryz.prog 56 1 24:=⟨Tryz.t56,_,rfl,rfl,rfl,rfl,rfl⟩
def Zd3 (N:Nat) (ah:R1) (ai:ByteArray) (aj:List ByteArray) (ak:List R6) (al:List R5) (ad:List R9) (ae:Int) (kk_L3:(ByteArray→Ra→(List R6)→(List R5)→(List R9)→Int→Option R3)):Nat→Int→(List ((Bool×R5)×R5))→Option R3
  | 0,_,_=>none
  | am+1,af,ab=>(Zk ah.2.2.2.2 ae).bind fun ac=>if (decide (af<(ac.length:Int)))=true then ((Zk ac af).bind fun ag=>(Zgr ((ag.1.1,ag.1.2),ag.2)).bind fun aa=>Zy ((ab.length+[((aa.1.1,(aa.1.2.1,aa.1.2.2)),(aa.2.1,aa.2.2))].length) * 56≤140737488355328∧ab.length+[((aa.1.1,(aa.1.2.1,aa.1.2.2)),(aa.2.1,aa.2.2))].length≤maxLen) ((Zd3 N ah ai aj ak al ad ae kk_L3 am) (i64.wrap (af+1)) (ab++[((aa.1.1,(aa.1.2.1,aa.1.2.2)),(aa.2.1,aa.2.2))]))) else (Zy ((ab.length+[((false,(0,([]:List Int))),([97].length,[97])),((false,(0,([]:List Int))),([98].length,[98]))].length) * 56≤140737488355328∧ab.length+[((false,(0,([]:List Int))),([97].length,[97])),((false,(0,([]:List Int))),([98].length,[98]))].length≤maxLen) (Zy ((0:Int)≤(ac.length:Int)∧(ac.length:Int)≤((ab++[((false,(0,([]:List Int))),([97].length,[97])),((false,(0,([]:List Int))),([98].length,[98]))]).length:Int)) (Zy ((ad.length+[((Int.toNat (ac.length:Int)),ab++[((false,(0,([]:List Int))),([97].length,[97])),((false,(0,([]:List Int))),([98].length,[98]))])].length) * 24≤140737488355328∧ad.length+[((Int.toNat (ac.length:Int)),ab++[((false,(0,([]:List Int))),([97].length,[97])),((false,(0,([]:List Int))),([98].length,[98]))])].length≤maxLen) (kk_L3 ai aj ak al (ad++[((Int.toNat (ac.length:Int)),ab++[((false,(0,([]:List Int))),([97].length,[97])),((false,(0,([]:List Int))),([98].length,[98]))])]) (i64.wrap (ae+1))))))
termination_by structural x=>x
def Zb3 (N:Nat) (aa:R1):Nat→ByteArray→Ra→(List R6)→(List R5)→(List R9)→Int→Option R3
  | 0,_,_,_,_,_,_=>none
  | ah+1,ab,ac,ad,ae,af,ag=>if (decide (ag<(aa.2.2.2.2.length:Int)))=true then (Zd3 N aa ab ac ad ae af ag (Zb3 N aa ah) N 0 ([]:List ((Bool×R5)×R5))) else (some (ab,((Int.toNat (aa.2.1.length:Int)),ac),ad,ae,af))
termination_by structural x=>x
def Zd2 (N:Nat) (ab:R1):Nat→ByteArray→Ra→(List R6)→(List R5)→(List R9)→Int→Option R3
  | 0,_,_,_,_,_,_=>none
  | ai+1,ae,af,ag,ac,ah,ad=>if (decide (ad<(ab.2.2.2.1.length:Int)))=true then ((Zk ab.2.2.2.1 ad).bind fun aa=>Zy ((([]:List Int).length+aa.length) * 8≤140737488355328∧([]:List Int).length+aa.length≤maxLen) (Zy (((([]:List Int)++aa).length+[(-95),(-96)].length) * 8≤140737488355328∧(([]:List Int)++aa).length+[(-95),(-96)].length≤maxLen) (Zy ((0:Int)≤(aa.length:Int)∧(aa.length:Int)≤(((([]:List Int)++aa)++[(-95),(-96)]).length:Int)) (Zy ((ac.length+[((Int.toNat (aa.length:Int)),(([]:List Int)++aa)++[(-95),(-96)])].length) * 24≤140737488355328∧ac.length+[((Int.toNat (aa.length:Int)),(([]:List Int)++aa)++[(-95),(-96)])].length≤maxLen) ((Zd2 N ab ai) ae af ag (ac++[((Int.toNat (aa.length:Int)),(([]:List Int)++aa)++[(-95),(-96)])]) ah (i64.wrap (ad+1))))))) else (Zb3 N ab N ae af ag ac ah 0)
termination_by structural x=>x
def Zd1 (N:Nat) (ab:R1):Nat→ByteArray→Ra→(List R6)→(List R5)→(List R9)→Int→Option R3
  | 0,_,_,_,_,_,_=>none
  | ai+1,ae,af,ac,ag,ah,ad=>if (decide (ad<(ab.2.2.1.length:Int)))=true then ((Zk ab.2.2.1 ad).bind fun aa=>Zy ((([]:List ByteArray).length+aa.length) * 16≤140737488355328∧([]:List ByteArray).length+aa.length≤maxLen) (Zy (((([]:List ByteArray)++aa).length+([⟨#[35,51]⟩,⟨#[35,52]⟩]:List ByteArray).length) * 16≤140737488355328∧(([]:List ByteArray)++aa).length+([⟨#[35,51]⟩,⟨#[35,52]⟩]:List ByteArray).length≤maxLen) (Zy ((0:Int)≤(aa.length:Int)∧(aa.length:Int)≤(((([]:List ByteArray)++aa)++([⟨#[35,51]⟩,⟨#[35,52]⟩]:List ByteArray)).length:Int)) (Zy ((ac.length+([((Int.toNat (aa.length:Int)),(([]:List ByteArray)++aa)++([⟨#[35,51]⟩,⟨#[35,52]⟩]:List ByteArray))]:List R6).length) * 24≤140737488355328∧ac.length+([((Int.toNat (aa.length:Int)),(([]:List ByteArray)++aa)++([⟨#[35,51]⟩,⟨#[35,52]⟩]:List ByteArray))]:List R6).length≤maxLen) ((Zd1 N ab ai) ae af (ac++([((Int.toNat (aa.length:Int)),(([]:List ByteArray)++aa)++([⟨#[35,51]⟩,⟨#[35,52]⟩]:List ByteArray))]:List R6)) ag ah (i64.wrap (ad+1))))))) else (Zd2 N ab N ae af ac ag ah 0)
termination_by structural x=>x
def Zgt (N:Nat) (aa:R1):Option R3:=
  Zy ((([]:List ByteArray).length+aa.2.1.length) * 16≤140737488355328∧([]:List ByteArray).length+aa.2.1.length≤maxLen) (Zy (((([]:List ByteArray)++aa.2.1).length+([⟨#[35,49]⟩,⟨#[35,50]⟩]:List ByteArray).length) * 16≤140737488355328∧(([]:List ByteArray)++aa.2.1).length+([⟨#[35,49]⟩,⟨#[35,50]⟩]:List ByteArray).length≤maxLen) (Zy ((0:Int)≤(aa.2.1.length:Int)∧(aa.2.1.length:Int)≤(((([]:List ByteArray)++aa.2.1)++([⟨#[35,49]⟩,⟨#[35,50]⟩]:List ByteArray)).length:Int)) (Zd1 N aa N aa.1 ((([]:List ByteArray)++aa.2.1)++([⟨#[35,49]⟩,⟨#[35,50]⟩]:List ByteArray)) ([]:List R6) ([]:List R5) ([]:List R9) 0)))
theorem Zxr {N ca cb cc cd:Nat} {ce cf cg ch:Option Addr} {col:Zd} {w0:World} {ac:R1} {r:R3} (hm:Zgt N ac=some r) (ei:Sl Za.str col w0 ce ca ac.2.1) (ci:Sl (Za.slice Za.str) col w0 cf cb ac.2.2.1) (cj:Sl (Za.slice (Za.int .i64)) col w0 cg cc ac.2.2.2.1) (bk:Sl (Za.slice (Za.pair (Za.pair Za.bool (Za.slice (Za.int .u32))) (Za.slice (Za.int .u32)))) col w0 ch cd ac.2.2.2.2):
    Calls Tryz.prog 15 #[(.agg #[.string ac.1,.slice ce ac.2.1.length ca,.slice cf ac.2.2.1.length cb,.slice cg ac.2.2.2.1.length cc,.slice ch ac.2.2.2.2.length cd])] w0 (fun e w'=>∃ (col':Zd) (ra1:Option Addr) (rc2:Nat) (ra4:Option Addr) (rc5:Nat) (ra7:Option Addr) (rc8:Nat) (ra10:Option Addr) (rc11:Nat),e= .returned ((.agg #[.string r.1,.slice ra1 ((r.2.1.2.take r.2.1.1).length) rc2,.slice ra4 r.2.2.1.length rc5,.slice ra7 r.2.2.2.1.length rc8,.slice ra10 r.2.2.2.2.length rc11]))∧Zf col w0 col' w'∧Sl Za.str col' w' ra1 rc2 r.2.1.2∧Sl (Za.view Za.str) col' w' ra4 rc5 r.2.2.1∧Sl (Za.view (Za.int .i64)) col' w' ra7 rc8 r.2.2.2.1∧Sl (Za.view (Za.pair (Za.pair Za.bool (Za.view (Za.int .u32))) (Za.view (Za.int .u32)))) col' w' ra10 rc11 r.2.2.2.2):=by
 refine Ye (m:=142) func15 rfl rfl rfl ?_;rw [Zgt.eq_1] at hm;have aa:=St.start col w0;refine go ?_;refine Xh (col:=(Zi col)) 1 rfl ?_;intro ay ib f4 f5 ab;refine Xp (col:=f4) #[.string (⟨#[]⟩),.slice none (([]:List ByteArray).length) 0,.slice none (([]:List R6).length) 0,.slice none (([]:List R5).length) 0,(.slice none (([]:List R9).length) 0)] 2 zeroValue27 ?_;intro du ic f6 fj ae;refine go ?_;refine lF ay 0 underlying27 rfl sizeOf9 ?_;replace ab:=ab.gr fj;refine lW ((ab.atN).nth (q:=0) rfl)<|lV (.agg #[.string ac.1,.slice none (([]:List ByteArray).length) 0,.slice none (([]:List R6).length) 0,.slice none (([]:List R5).length) 0,(.slice none (([]:List R9).length) 0)]) (Yt (l:=[_,_,_,_,_]) (qs:=[(0,1),(1,1),(2,1),(3,1),(4,1)]) underlying27 zeroValue27 ⟨rfl,sizeOf9,rfl,sizeOf22,rfl,sizeOf23,rfl,sizeOf24,rfl,sizeOf25,trivial⟩ rfl)<|Xp (col:=f6) #[.string (⟨#[]⟩),.slice none (([]:List ByteArray).length) 0,.slice none (([]:List R6).length) 0,.slice none (([]:List R5).length) 0,(.slice none (([]:List R9).length) 0)] 3 zeroValue27 ?_;intro ak id ie ej f7;refine Z7 f7 ?_;intro ig ek f8 dv;refine go ?_;refine Z9 dv<|lF ay 1 underlying27 rfl sizeOf22 ?_;replace ab:=(ab.gr ej).kp ek;refine lW ((ab.atN).nth (q:=1) rfl) ?_;obtain ⟨f9,hm⟩:=Z0 hm;replace ei:=ei.keep (Zj.start col w0);replace aa:=(((aa.grow f5).grow fj).grow ej).kp ek f8;refine Wo (c:=4) Zc.nil (ei.ks aa).srcC f9 ?_;intro fk fl ih fm dw el;refine lF ak 1 underlying27 rfl sizeOf22 ?_;replace dv:=dv.kpp dw;refine Zcn (off:=1) (v:=(.slice fk ((([]:List ByteArray)++ac.2.1).length) fl)) dv sizeOf22 rfl rfl (by intro u hu;simp only [Value.cells,List.mem_cons,List.not_mem_nil,or_false] at hu;subst hu;rfl) rfl rfl ?_;intro ga dx gb ck;replace ck:Zn 27 3 fm ga ak #[.string ac.1,.slice fk ((([]:List ByteArray)++ac.2.1).length) fl,.slice none (([]:List R6).length) 0,.slice none (([]:List R5).length) 0,(.slice none (([]:List R9).length) 0)]:=ck;refine go ?_;refine Z9 ck<|Zqx (col:=fm) ([⟨#[35,49]⟩,⟨#[35,50]⟩]:List ByteArray) 5 ?_;intro ii gc gd c6 ge;obtain ⟨fn,hm⟩:=Z0 hm
 replace el:=(el.kp dx).gr c6;refine Zbc (col:=gd) (w:=gc) (r:=Za.str) (c:=4) (c2:=4) (el.ex) (ge.srcN NB.str) rfl underlying22 Zyv rfl rfl rfl fn.1 fn.2 (by decide) ?_;intro bx bz ij fo dy em;refine lF ak 1 underlying27 rfl sizeOf22 ?_;replace ck:=(ck.gr c6).kpp dy;refine Zcn (off:=1) (v:=(.slice bx (((([]:List ByteArray)++ac.2.1)++([⟨#[35,49]⟩,⟨#[35,50]⟩]:List ByteArray)).length) bz)) ck sizeOf22 rfl rfl (by intro u hu;simp only [Value.cells,List.mem_cons,List.not_mem_nil,or_false] at hu;subst hu;rfl) rfl rfl ?_;intro gf dz gg d0;replace d0:Zn 27 3 fo gf ak #[.string ac.1,(.slice bx (((([]:List ByteArray)++ac.2.1)++([⟨#[35,49]⟩,⟨#[35,50]⟩]:List ByteArray)).length) bz),.slice none (([]:List R6).length) 0,.slice none (([]:List R5).length) 0,(.slice none (([]:List R9).length) 0)]:=d0;replace em:=em.kp dz;have d1:=em.new;refine go ?_;refine Z9 d0<|lF ay 1 underlying27 rfl sizeOf22 ?_;replace ab:=((((ab.kpp dw).kp dx).gr c6).kpp dy).kp dz;refine lW ((ab.atN).nth (q:=1) rfl)<|go ?_;obtain ⟨en,hm⟩:=Z0 hm;refine lv (v:=.slice bx (Int.toNat (ac.2.1.length:Int)) bz) rfl rfl (Vu underlying22 sizeOf9 rfl rfl en.1 (by have:=d1.lecap;have:=en.2;omega))<|.ld (d:=30) (v:=(.slice bx ((((([]:List ByteArray)++ac.2.1)++([⟨#[35,49]⟩,⟨#[35,50]⟩]:List ByteArray)).take (Int.toNat (ac.2.1.length:Int))).length) bz)) (congrArg (fun n=>Value.slice bx n bz) (List.length_take_of_le (show (Int.toNat (ac.2.1.length:Int))≤((([]:List ByteArray)++ac.2.1)++([⟨#[35,49]⟩,⟨#[35,50]⟩]:List ByteArray)).length by have:=en.2;omega)).symm) ?_;refine lF ak 1 underlying27 rfl sizeOf22<|Zcn (off:=1) (v:=(.slice bx ((((([]:List ByteArray)++ac.2.1)++([⟨#[35,49]⟩,⟨#[35,50]⟩]:List ByteArray)).take (Int.toNat (ac.2.1.length:Int))).length) bz)) d0 sizeOf22 rfl rfl (by intro u hu;simp only [Value.cells,List.mem_cons,List.not_mem_nil,or_false] at hu;subst hu;rfl) rfl rfl ?_;intro gh d2 gi ad;replace ad:Zn 27 3 fo gh ak #[.string ac.1,(.slice bx ((((([]:List ByteArray)++ac.2.1)++([⟨#[35,49]⟩,⟨#[35,50]⟩]:List ByteArray)).take (Int.toNat (ac.2.1.length:Int))).length) bz),.slice none (([]:List R6).length) 0,.slice none (([]:List R5).length) 0,(.slice none (([]:List R9).length) 0)]:=ad;refine go ?_;replace ae:=(((((((ae.gr ej).kp ek).kpp dw).kp dx).gr c6).kpp dy).kp dz).kp d2
 replace aa:=(((((aa.kpp dw).kp dx gb).grow c6).kpp dy).kp dz gg).kp d2 gi;replace d1:=d1.kp d2;replace ab:=ab.kp d2;refine Zx [1,2,3,1000000] (fun n f a2=>∃ a3 d3 d4 d5 c7 eo ep cl d6 d7 c8 d8 d9 c9 eq cn,cn=n∧Zd1 N ac cn d3 c7 cl c8 c9 eq=some r∧St w0 (Zi col) a3 a2∧Zn 27 1 a3 a2 ay #[.string ac.1,.slice ce ac.2.1.length ca,.slice cf ac.2.2.1.length cb,.slice cg ac.2.2.2.1.length cc,.slice ch ac.2.2.2.2.length cd]∧Zn 27 2 a3 a2 du #[.string (⟨#[]⟩),.slice none (([]:List ByteArray).length) 0,.slice none (([]:List R6).length) 0,.slice none (([]:List R5).length) 0,(.slice none (([]:List R9).length) 0)]∧Zc Za.str 9 4 a3 a2 d4 d5 c7∧Zc (Za.view Za.str) 22 6 a3 a2 eo ep cl∧Zc (Za.view (Za.int .i64)) 40 7 a3 a2 d6 d7 c8∧Zc (Za.view (Za.pair (Za.pair Za.bool (Za.view (Za.int .u32))) (Za.view (Za.int .u32)))) 56 8 a3 a2 d8 d9 c9∧Zn 27 3 a3 a2 ak #[.string d3,(.slice d4 ((c7.take (Int.toNat (ac.2.1.length:Int))).length) d5),.slice eo cl.length ep,.slice d6 c8.length d7,.slice d8 c9.length d9]∧[4].map f=[.int .i64 eq]) N ⟨_,_,_,_,_,none,0,_,none,0,_,none,0,_,0,_,rfl,hm,aa,ab,ae,d1,Zc.nil,Zc.nil,Zc.nil,ad,rfl⟩ ?_;clear hm;intro n f a2 hI;obtain ⟨a3,d3,d4,d5,c7,eo,ep,cl,d6,d7,c8,d8,d9,c9,eq,cn,hn,hm,aa,ab,ae,an,bm,ao,ap,ad,hs⟩:=hI;subst hn;refine .lL [4] hs ?_;replace ci:=ci.keep (Zj.start col w0);replace cj:=cj.keep (Zj.start col w0);replace bk:=bk.keep (Zj.start col w0)
 cases cn with
 | zero=>rw [Zd1.eq_1] at hm;cases hm
 | succ cn=>
  rw [Zd1.eq_2] at hm;refine go ?_;refine Z9 ab ?_;refine go ?_;refine Zp hm (fun hb hm=>go ?_) fun hb hm=>go ?_
  ·refine Z9 ab<|Xu rfl ?_;obtain ⟨al,b0,hm⟩:=bZ hm;refine lI b0 ((ci.ks aa).addr b0) ?_;obtain ⟨_,gj,gk⟩:=(ci.ks aa).atN b0;obtain ⟨⟨ik,il,rfl,gl⟩,_⟩:=gj;refine lW gk.one ?_;obtain ⟨gm,hm⟩:=Z0 hm;refine Wo (c:=9) Zc.nil gl.srcC gm ?_;intro im io ip gn bn er;refine go ?_;refine Zqx (col:=gn) ([⟨#[35,51]⟩,⟨#[35,52]⟩]:List ByteArray) 10 ?_;intro iq ir it a4 gp;obtain ⟨gq,hm⟩:=Z0 hm;replace er:=er.gr a4;refine Wo er (gp.srcN NB.str) gq ?_;intro da db iu co bo cp;refine go ?_;refine Wa (col:=co) [(0,1),(1,0),(2,1),(3,1),(4,0),(5,1),(6,1),(7,0),(8,1),(9,1),(10,3),(11,2),(12,1),(13,2)] (by kernel_rfl) (by kernel_rfl)<|xu (v:=(.pointer ((some (⟨ak,0,none⟩:Addr)).map (·.add 2)))) rfl rfl (fun _=>Zu (sz:=1) (off:=2) underlying27 rfl sizeOf23 (by decide) rfl rfl ⟨_,_,rfl⟩) ?_;replace ad:=((ad.kpp bn).gr a4).kpp bo;refine xv rfl rfl (fun _ hC=>Xv isAgg23 rfl (((ad.atN).nth (q:=2) rfl).gr (hC.bl co))) ?_;refine xu rfl rfl (fun _=>Vs rfl) ?_;refine xu (v:=(.pointer ((some (⟨ay,0,none⟩:Addr)).map (·.add 2)))) rfl rfl (fun _=>Zu (sz:=1) (off:=2) underlying27 rfl sizeOf23 (by decide) rfl rfl ⟨_,_,rfl⟩) ?_;replace ab:=((ab.kpp bn).gr a4).kpp bo;refine xv rfl rfl (fun _ hC=>Xv isAgg23 rfl (((ab.atN).nth (q:=2) rfl).gr (hC.bl co))) ?_;refine xu rfl rfl (fun _=>Vd rfl) ?_;replace aa:=((aa.kpp bn).grow a4).kpp bo;refine xu rfl rfl (fun _=>Y4 underlying23 sizeOf22 rfl rfl (Xl b0).1 (Xl b0).2.1 ((ci.ks aa).addr b0)) ?_;obtain ⟨_,gs,gt⟩:=(ci.ks aa).atN b0;obtain ⟨⟨iv,iw,rfl,ix⟩,_⟩:=gs;refine xv rfl rfl (fun _ hC=>Xv isAgg22 rfl (gt.one.gr (hC.bl co))) ?_;refine xu rfl rfl (fun _=>To underlying22 rfl) ?_;obtain ⟨es,hm⟩:=Z0 hm;refine xu (v:=.slice da (Int.toNat (al.length:Int)) db) rfl rfl (fun _=>Vu underlying22 sizeOf9 rfl rfl es.1 (by have:=cp.lecap;have:=es.2;omega)) ?_;refine .ld (d:=58) (v:=(.slice da ((((([]:List ByteArray)++al)++([⟨#[35,51]⟩,⟨#[35,52]⟩]:List ByteArray)).take (Int.toNat (al.length:Int))).length) db)) (congrArg (fun n=>Value.slice da n db) (List.length_take_of_le (show (Int.toNat (al.length:Int))≤((([]:List ByteArray)++al)++([⟨#[35,51]⟩,⟨#[35,52]⟩]:List ByteArray)).length by have:=es.2;omega)).symm) ?_;refine xe rfl rfl ?_;intro iy hC0;have hC:=hC0.bl co;replace an:=(((an.kpp bn).gr a4).kpp bo).gr hC;replace an:=an.froz 9 (by decide);replace bm:=(((bm.kpp bn).gr a4).kpp bo).gr hC
   replace bm:=bm.froz 9 (by decide);replace ao:=(((ao.kpp bn).gr a4).kpp bo).gr hC;replace ao:=ao.froz 9 (by decide);replace ap:=(((ap.kpp bn).gr a4).kpp bo).gr hC;replace ap:=ap.froz 9 (by decide);replace cp:=cp.gr hC;replace cp:=(cp).toSlF Zm.str;replace ab:=ab.gr hC;replace ab:=ab.froz 9 (by decide);replace ae:=(((ae.kpp bn).gr a4).kpp bo).gr hC;replace ae:=ae.froz 9 (by decide);replace ad:=ad.gr hC;replace ad:=ad.froz 9 (by decide);replace aa:=aa.grow hC;replace aa:=aa.froz 9 (by decide) (by decide);refine Q7 (col:=(Xn 9 co)) (r:=(Za.view Za.str)) (xs:=([((Int.toNat (al.length:Int)),(([]:List ByteArray)++al)++([⟨#[35,51]⟩,⟨#[35,52]⟩]:List ByteArray))]:List R6)) [(.slice da ((((([]:List ByteArray)++al)++([⟨#[35,51]⟩,⟨#[35,52]⟩]:List ByteArray)).take (Int.toNat (al.length:Int))).length) db)] 11 (Wu.ofF (Rows.consF (r:=(Za.view Za.str)) (x:=((Int.toNat (al.length:Int)),(([]:List ByteArray)++al)++([⟨#[35,51]⟩,⟨#[35,52]⟩]:List ByteArray))) (cs:=[(.slice da ((((([]:List ByteArray)++al)++([⟨#[35,51]⟩,⟨#[35,52]⟩]:List ByteArray)).take (Int.toNat (al.length:Int))).length) db)]) (Zi8 cp) Rows.nil0)) ?_;intro iz i0 et a5 eu;refine Zl<|Xo et hC0 a5<|xe rfl rfl ?_;intro gu hC0;have hC:=hC0.bl et;obtain ⟨fp,hm⟩:=Z0 hm;replace bm:=(bm.gr a5).gr hC;replace eu:=eu.gr hC;refine Zbc (col:=et) (w:=gu) (r:=(Za.view Za.str)) (c:=6) (c2:=6) (bm.ex) (eu.srcN NB.view) rfl underlying23 Zyo rfl rfl rfl fp.1 fp.2 (by decide) ?_;intro fq fr i1 dc b1 ev;refine Zl<|xk dc<|xu (v:=(.pointer ((some (⟨ak,0,none⟩:Addr)).map (·.add 2)))) rfl rfl (fun _=>Zu (sz:=1) (off:=2) underlying27 rfl sizeOf23 (by decide) rfl rfl ⟨_,_,rfl⟩) ?_;refine xe rfl rfl ?_;intro i2 hC0;replace an:=((an.gr a5).gr hC).kpp b1;replace ao:=((ao.gr a5).gr hC).kpp b1;replace ap:=((ap.gr a5).gr hC).kpp b1;replace ab:=((ab.gr a5).gr hC).kpp b1;replace ae:=((ae.gr a5).gr hC).kpp b1;replace ad:=((ad.gr a5).gr hC).kpp b1;replace aa:=((aa.grow a5).grow hC).kpp b1;have hC:=hC0.bl dc;replace ad:=ad.gr hC;refine Zcn (off:=2) (v:=(.slice fq ((cl++([((Int.toNat (al.length:Int)),(([]:List ByteArray)++al)++([⟨#[35,51]⟩,⟨#[35,52]⟩]:List ByteArray))]:List R6)).length) fr)) ad sizeOf23 rfl rfl (by intro u hu;simp only [Value.cells,List.mem_cons,List.not_mem_nil,or_false] at hu;subst hu;rfl) rfl rfl ?_;intro gv b2 gw dd
   replace dd:Zn 27 3 dc gv ak #[.string d3,(.slice d4 ((c7.take (Int.toNat (ac.2.1.length:Int))).length) d5),(.slice fq ((cl++([((Int.toNat (al.length:Int)),(([]:List ByteArray)++al)++([⟨#[35,51]⟩,⟨#[35,52]⟩]:List ByteArray))]:List R6)).length) fr),.slice d6 c8.length d7,.slice d8 c9.length d9]:=dd;refine Zl<|xk dc ?_;replace ev:=(ev.gr hC).kp b2;have ew:=ev.new;refine Y2 ?_;replace an:=(an.gr hC).kp b2;replace ao:=(ao.gr hC).kp b2;replace ap:=(ap.gr hC).kp b2;replace ab:=(ab.gr hC).kp b2;replace ae:=(ae.gr hC).kp b2;replace aa:=(aa.grow hC).kp b2 gw;intro i3 hC;replace hC:=hC.bl dc;refine go ?_;replace an:=an.gr hC;replace ew:=ew.gr hC;replace ao:=ao.gr hC;replace ap:=ap.gr hC;replace ab:=ab.gr hC;replace ae:=ae.gr hC;replace dd:=dd.gr hC;replace aa:=aa.grow hC;exact ⟨cn,by omega,rfl,⟨_,_,_,_,_,_,_,_,_,_,_,_,_,_,_,_,rfl,hm,aa,ab,ae,an,ew,ao,ap,dd,rfl⟩⟩
  refine Zx [1,2,3,1000000] (fun n f a6=>∃ a7 ea eb ec de ed ee df ey ez cq ef eg dg e0 cr,cr=n∧Zd2 N ac cr ea de df cq dg e0=some r∧St w0 (Zi col) a7 a6∧Zn 27 1 a7 a6 ay #[.string ac.1,.slice ce ac.2.1.length ca,.slice cf ac.2.2.1.length cb,.slice cg ac.2.2.2.1.length cc,.slice ch ac.2.2.2.2.length cd]∧Zn 27 2 a7 a6 du #[.string (⟨#[]⟩),.slice none (([]:List ByteArray).length) 0,.slice none (([]:List R6).length) 0,.slice none (([]:List R5).length) 0,(.slice none (([]:List R9).length) 0)]∧Zc Za.str 9 4 a7 a6 eb ec de∧Zc (Za.view Za.str) 22 6 a7 a6 ed ee df∧Zc (Za.view (Za.int .i64)) 40 7 a7 a6 ey ez cq∧Zc (Za.view (Za.pair (Za.pair Za.bool (Za.view (Za.int .u32))) (Za.view (Za.int .u32)))) 56 8 a7 a6 ef eg dg∧Zn 27 3 a7 a6 ak #[.string ea,(.slice eb ((de.take (Int.toNat (ac.2.1.length:Int))).length) ec),.slice ed df.length ee,.slice ey cq.length ez,.slice ef dg.length eg]∧[6].map f=[.int .i64 e0]) N ⟨_,_,_,_,_,_,_,_,_,_,_,_,_,_,0,_,rfl,hm,aa,ab,ae,an,bm,ao,ap,ad,rfl⟩ ?_;clear hm;intro n f a6 hI;obtain ⟨a7,ea,eb,ec,de,ed,ee,df,ey,ez,cq,ef,eg,dg,e0,cr,hn,hm,aa,ab,ae,aq,ar,bp,au,ad,hs⟩:=hI;subst hn;refine .lL [6] hs ?_
  cases cr with
  | zero=>rw [Zd2.eq_1] at hm;cases hm
  | succ cr=>
   rw [Zd2.eq_2] at hm;refine go ?_;refine Z9 ab ?_;refine go ?_;refine Zp hm (fun hb hm=>go ?_) fun hb hm=>go ?_
   ·refine Z9 ab<|Xu rfl ?_;obtain ⟨am,b3,hm⟩:=bZ hm;refine lI b3 ((cj.ks aa).addr b3) ?_;obtain ⟨_,gx,gy⟩:=(cj.ks aa).atN b3;obtain ⟨⟨i4,i5,rfl,gz⟩,_⟩:=gx;refine lW gy.one ?_;obtain ⟨g0,hm⟩:=Z0 hm;refine Wo (c:=12) Zc.nil gz.srcC g0 ?_;intro i6 i7 i8 g1 bq e1;refine go ?_;refine Wv (col:=g1) [(-95),(-96)] 13 ?_;intro i9 ja jb a8 g2;obtain ⟨g3,hm⟩:=Z0 hm;replace e1:=e1.gr a8;refine Wo e1 (g2.srcN (NB.int (k:=.i64))) g3 ?_;intro dh di jc ct br cu;refine go ?_;refine Wa (col:=ct) [(0,1),(1,0),(2,1),(3,1),(4,0),(5,1),(6,1),(7,0),(8,1),(9,1),(10,3),(11,2),(12,1),(13,2)] (by kernel_rfl) (by kernel_rfl)<|xu (v:=(.pointer ((some (⟨ak,0,none⟩:Addr)).map (·.add 3)))) rfl rfl (fun _=>Zu (sz:=1) (off:=3) underlying27 rfl sizeOf24 (by decide) rfl rfl ⟨_,_,rfl⟩) ?_;replace ad:=((ad.kpp bq).gr a8).kpp br;refine xv rfl rfl (fun _ hC=>Xv isAgg24 rfl (((ad.atN).nth (q:=3) rfl).gr (hC.bl ct))) ?_;refine xu rfl rfl (fun _=>Vs rfl) ?_;refine xu (v:=(.pointer ((some (⟨ay,0,none⟩:Addr)).map (·.add 3)))) rfl rfl (fun _=>Zu (sz:=1) (off:=3) underlying27 rfl sizeOf24 (by decide) rfl rfl ⟨_,_,rfl⟩) ?_;replace ab:=((ab.kpp bq).gr a8).kpp br;refine xv rfl rfl (fun _ hC=>Xv isAgg24 rfl (((ab.atN).nth (q:=3) rfl).gr (hC.bl ct))) ?_;refine xu rfl rfl (fun _=>Vd rfl) ?_;replace aa:=((aa.kpp bq).grow a8).kpp br;refine xu rfl rfl (fun _=>Y4 underlying24 sizeOf40 rfl rfl (Xl b3).1 (Xl b3).2.1 ((cj.ks aa).addr b3)) ?_;obtain ⟨_,g4,g5⟩:=(cj.ks aa).atN b3;obtain ⟨⟨jd,je,rfl,jf⟩,_⟩:=g4;refine xv rfl rfl (fun _ hC=>Xv isAgg40 rfl (g5.one.gr (hC.bl ct))) ?_;refine xu rfl rfl (fun _=>To underlying40 rfl) ?_;obtain ⟨e2,hm⟩:=Z0 hm;refine xu (v:=.slice dh (Int.toNat (am.length:Int)) di) rfl rfl (fun _=>Vu underlying40 sizeOf3 rfl rfl e2.1 (by have:=cu.lecap;have:=e2.2;omega)) ?_;refine .ld (d:=88) (v:=(.slice dh ((((([]:List Int)++am)++[(-95),(-96)]).take (Int.toNat (am.length:Int))).length) di)) (congrArg (fun n=>Value.slice dh n di) (List.length_take_of_le (show (Int.toNat (am.length:Int))≤((([]:List Int)++am)++[(-95),(-96)]).length by have:=e2.2;omega)).symm) ?_;refine xe rfl rfl ?_;intro jg hC0;have hC:=hC0.bl ct;replace aq:=(((aq.kpp bq).gr a8).kpp br).gr hC;replace aq:=aq.froz 12 (by decide);replace ar:=(((ar.kpp bq).gr a8).kpp br).gr hC;replace ar:=ar.froz 12 (by decide)
    replace bp:=(((bp.kpp bq).gr a8).kpp br).gr hC;replace bp:=bp.froz 12 (by decide);replace au:=(((au.kpp bq).gr a8).kpp br).gr hC;replace au:=au.froz 12 (by decide);replace cu:=cu.gr hC;replace cu:=(cu).toSlF (Zm.int .i64);replace ab:=ab.gr hC;replace ab:=ab.froz 12 (by decide);replace ae:=(((ae.kpp bq).gr a8).kpp br).gr hC;replace ae:=ae.froz 12 (by decide);replace ad:=ad.gr hC;replace ad:=ad.froz 12 (by decide);replace aa:=aa.grow hC;replace aa:=aa.froz 12 (by decide) (by decide);refine Q7 (col:=(Xn 12 ct)) (r:=(Za.view (Za.int .i64))) (xs:=[((Int.toNat (am.length:Int)),(([]:List Int)++am)++[(-95),(-96)])]) [(.slice dh ((((([]:List Int)++am)++[(-95),(-96)]).take (Int.toNat (am.length:Int))).length) di)] 14 (Wu.ofF (Rows.consF (r:=(Za.view (Za.int .i64))) (x:=((Int.toNat (am.length:Int)),(([]:List Int)++am)++[(-95),(-96)])) (cs:=[(.slice dh ((((([]:List Int)++am)++[(-95),(-96)]).take (Int.toNat (am.length:Int))).length) di)]) (Zi8 cu) Rows.nil0)) ?_;intro jh ji e3 a9 e4;refine Zl<|Xo e3 hC0 a9<|xe rfl rfl ?_;intro g6 hC0;have hC:=hC0.bl e3;obtain ⟨ft,hm⟩:=Z0 hm;replace bp:=(bp.gr a9).gr hC;replace e4:=e4.gr hC;refine Zbc (col:=e3) (w:=g6) (r:=(Za.view (Za.int .i64))) (c:=7) (c2:=7) (bp.ex) (e4.srcN NB.view) rfl underlying24 Zyr rfl rfl rfl ft.1 ft.2 (by decide) ?_;intro fu fv jj dj b4 e5;refine Zl<|xk dj<|xu (v:=(.pointer ((some (⟨ak,0,none⟩:Addr)).map (·.add 3)))) rfl rfl (fun _=>Zu (sz:=1) (off:=3) underlying27 rfl sizeOf24 (by decide) rfl rfl ⟨_,_,rfl⟩) ?_;refine xe rfl rfl ?_;intro jk hC0;replace aq:=((aq.gr a9).gr hC).kpp b4;replace ar:=((ar.gr a9).gr hC).kpp b4;replace au:=((au.gr a9).gr hC).kpp b4;replace ab:=((ab.gr a9).gr hC).kpp b4;replace ae:=((ae.gr a9).gr hC).kpp b4;replace ad:=((ad.gr a9).gr hC).kpp b4;replace aa:=((aa.grow a9).grow hC).kpp b4;have hC:=hC0.bl dj;replace ad:=ad.gr hC;refine Zcn (off:=3) (v:=(.slice fu ((cq++[((Int.toNat (am.length:Int)),(([]:List Int)++am)++[(-95),(-96)])]).length) fv)) ad sizeOf24 rfl rfl (by intro u hu;simp only [Value.cells,List.mem_cons,List.not_mem_nil,or_false] at hu;subst hu;rfl) rfl rfl ?_;intro g7 b5 g8 dk
    replace dk:Zn 27 3 dj g7 ak #[.string ea,(.slice eb ((de.take (Int.toNat (ac.2.1.length:Int))).length) ec),.slice ed df.length ee,(.slice fu ((cq++[((Int.toNat (am.length:Int)),(([]:List Int)++am)++[(-95),(-96)])]).length) fv),.slice ef dg.length eg]:=dk;refine Zl<|xk dj ?_;replace e5:=(e5.gr hC).kp b5;have e6:=e5.new;refine Y2 ?_;replace aq:=(aq.gr hC).kp b5;replace ar:=(ar.gr hC).kp b5;replace au:=(au.gr hC).kp b5;replace ab:=(ab.gr hC).kp b5;replace ae:=(ae.gr hC).kp b5;replace aa:=(aa.grow hC).kp b5 g8;intro jl hC;replace hC:=hC.bl dj;refine go ?_;replace aq:=aq.gr hC;replace ar:=ar.gr hC;replace e6:=e6.gr hC;replace au:=au.gr hC;replace ab:=ab.gr hC;replace ae:=ae.gr hC;replace dk:=dk.gr hC;replace aa:=aa.grow hC;exact ⟨cr,by omega,rfl,⟨_,_,_,_,_,_,_,_,_,_,_,_,_,_,_,_,rfl,hm,aa,ab,ae,aq,ar,e6,au,dk,rfl⟩⟩
   refine Zx [1,2,3,1000000] (fun n f ba=>∃ bb cv cw cx bs cy cz bt c0 c1 bu dl dm bc eh b6,b6=n∧Zb3 N ac b6 cv bs bt bu bc eh=some r∧St w0 (Zi col) bb ba∧Zn 27 1 bb ba ay #[.string ac.1,.slice ce ac.2.1.length ca,.slice cf ac.2.2.1.length cb,.slice cg ac.2.2.2.1.length cc,.slice ch ac.2.2.2.2.length cd]∧Zn 27 2 bb ba du #[.string (⟨#[]⟩),.slice none (([]:List ByteArray).length) 0,.slice none (([]:List R6).length) 0,.slice none (([]:List R5).length) 0,(.slice none (([]:List R9).length) 0)]∧Zc Za.str 9 4 bb ba cw cx bs∧Zc (Za.view Za.str) 22 6 bb ba cy cz bt∧Zc (Za.view (Za.int .i64)) 40 7 bb ba c0 c1 bu∧Zc (Za.view (Za.pair (Za.pair Za.bool (Za.view (Za.int .u32))) (Za.view (Za.int .u32)))) 56 8 bb ba dl dm bc∧Zn 27 3 bb ba ak #[.string cv,(.slice cw ((bs.take (Int.toNat (ac.2.1.length:Int))).length) cx),.slice cy bt.length cz,.slice c0 bu.length c1,.slice dl bc.length dm]∧[8].map f=[.int .i64 eh]) N ⟨_,_,_,_,_,_,_,_,_,_,_,_,_,_,0,_,rfl,hm,aa,ab,ae,aq,ar,bp,au,ad,rfl⟩ ?_;clear hm;intro n f ba hI;obtain ⟨bb,cv,cw,cx,bs,cy,cz,bt,c0,c1,bu,dl,dm,bc,eh,b6,hn,hm,aa,ab,ae,af,ag,ah,ai,ad,hs⟩:=hI;subst hn;refine .lL [8] hs ?_
   cases b6 with
   | zero=>rw [Zb3.eq_1] at hm;cases hm
   | succ b6=>
    rw [Zb3.eq_2] at hm;refine go ?_;refine Z9 ab ?_;refine go ?_;refine Zp hm (fun hb hm=>go ?_) fun hb hm=>go ?_
    ·refine Zx [1,2,3,8,1000000] (fun n f az=>∃ ax e7 e8 e9 av c3,c3=n∧Zd3 N ac cv bs bt bu bc eh (Zb3 N ac b6) c3 e7 av=some r∧St w0 (Zi col) ax az∧Zn 27 1 ax az ay #[.string ac.1,.slice ce ac.2.1.length ca,.slice cf ac.2.2.1.length cb,.slice cg ac.2.2.2.1.length cc,.slice ch ac.2.2.2.2.length cd]∧Zn 27 2 ax az du #[.string (⟨#[]⟩),.slice none (([]:List ByteArray).length) 0,.slice none (([]:List R6).length) 0,.slice none (([]:List R5).length) 0,(.slice none (([]:List R9).length) 0)]∧Zc Za.str 9 4 ax az cw cx bs∧Zc (Za.view Za.str) 22 6 ax az cy cz bt∧Zc (Za.view (Za.int .i64)) 40 7 ax az c0 c1 bu∧Zc (Za.view (Za.pair (Za.pair Za.bool (Za.view (Za.int .u32))) (Za.view (Za.int .u32)))) 56 8 ax az dl dm bc∧Zn 27 3 ax az ak #[.string cv,(.slice cw ((bs.take (Int.toNat (ac.2.1.length:Int))).length) cx),.slice cy bt.length cz,.slice c0 bu.length c1,.slice dl bc.length dm]∧Zc (Za.pair (Za.pair Za.bool (Za.view (Za.int .u32))) (Za.view (Za.int .u32))) 47 15 ax az e8 e9 av∧[10,9].map f=[.int .i64 e7,.slice e8 av.length e9]) N ⟨_,0,none,0,_,_,rfl,hm,aa,ab,ae,af,ag,ah,ai,ad,Zc.nil,rfl⟩ ?_;clear hm;intro n f az hI;obtain ⟨ax,e7,e8,e9,av,c3,hn,hm,aa,ab,ae,af,ag,ah,ai,ad,aw,hs⟩:=hI;subst hn;refine .lL [10,9] hs ?_
     cases c3 with
     | zero=>rw [Zd3.eq_1] at hm;cases hm
     | succ c3=>
      rw [Zd3.eq_2] at hm;refine go ?_;refine Z9 ab<|Xu rfl ?_;obtain ⟨bd,a0,hm⟩:=bZ hm;refine lI a0 ((bk.ks aa).addr a0) ?_;obtain ⟨_,g9,ha⟩:=(bk.ks aa).atN a0;obtain ⟨⟨jm,jn,rfl,jo⟩,_⟩:=g9;refine lW ha.one<|go ?_;refine Zp hm (fun hb hm=>go ?_) fun hb hm=>go ?_
      ·refine Z9 ab<|Xu rfl<|lI a0 ((bk.ks aa).addr a0) ?_;obtain ⟨_,hc,hd⟩:=(bk.ks aa).atN a0;obtain ⟨⟨jp,jq,rfl,fw⟩,_⟩:=hc;refine lW hd.one<|Xu rfl ?_;obtain ⟨fa,fb,hm⟩:=bZ hm;refine lI fb (fw.addr fb) ?_;obtain ⟨_,he,hf⟩:=fw.atN fb;obtain ⟨_,_,rfl,hg,hh⟩:=Yy he;obtain ⟨_,_,rfl,hi,hj⟩:=Yy hg;obtain ⟨rfl,_⟩:=hi;obtain ⟨⟨hk,hl,rfl,ho⟩,_⟩:=hj;obtain ⟨⟨hp,hq,rfl,hr⟩,_⟩:=hh;refine lV (.agg #[.bool fa.1.1,.slice hk fa.1.2.length hl,.slice hp fa.2.length hq]) (Xq isAgg47 sizeOf47 rfl rfl hf) ?_;obtain ⟨aj,ht,hm⟩:=bZ hm;refine Zh (Zxp ht ho hr) ?_;rintro _ jr ⟨hv,fx,fy,fz,f0,rfl,be,hw,hx⟩;refine ⟨_,rfl,?_⟩;refine Q7 (col:=hv) (r:=(Za.pair (Za.pair Za.bool (Za.view (Za.int .u32))) (Za.view (Za.int .u32)))) (xs:=[((aj.1.1,(aj.1.2.1,aj.1.2.2)),(aj.2.1,aj.2.2))]) [(.agg #[.bool aj.1.1,.slice fx ((aj.1.2.2.take aj.1.2.1).length) fy,.slice fz ((aj.2.2.take aj.2.1).length) f0])] 16 (Wu.ofF (Rows.consF (r:=(Za.pair (Za.pair Za.bool (Za.view (Za.int .u32))) (Za.view (Za.int .u32)))) (x:=((aj.1.1,(aj.1.2.1,aj.1.2.2)),(aj.2.1,aj.2.2))) (cs:=[.bool aj.1.1,.slice fx ((aj.1.2.2.take aj.1.2.1).length) fy,.slice fz ((aj.2.2.take aj.2.1).length) f0]) (V4 (V4 (Tq aj.1.1) (Zi8 hw)) (Zi8 hx)) Rows.nil0)) ?_;intro js jt ju bf hy;obtain ⟨hz,hm⟩:=Z0 hm;replace aw:=(aw.gr be).gr bf;refine Wo aw (hy.srcN (NB.pair (NB.pair NB.bool NB.view) NB.view)) hz ?_;intro jv jw jx jy bv h0;refine go ?_;replace af:=((af.gr be).gr bf).kpp bv;replace ag:=((ag.gr be).gr bf).kpp bv;replace ah:=((ah.gr be).gr bf).kpp bv;replace ai:=((ai.gr be).gr bf).kpp bv;replace ab:=((ab.gr be).gr bf).kpp bv;replace ae:=((ae.gr be).gr bf).kpp bv;replace ad:=((ad.gr be).gr bf).kpp bv;replace aa:=((aa.grow be).grow bf).kpp bv;exact ⟨c3,by omega,rfl,⟨_,_,_,_,_,_,rfl,hm,aa,ab,ae,af,ag,ah,ai,ad,h0,rfl⟩⟩
      refine Wv (col:=ax) [97] 17 ?_;intro fc jz h1 bg b7;refine lV (.agg #[.bool false,.slice none (([]:List Int).length) 0,.slice fc ([97].length) 1]) (Yt (l:=[_,_]) (qs:=[(0,2),(2,1)]) underlying47 zeroValue47 ⟨rfl,sizeOf45,rfl,sizeOf43,trivial⟩ rfl)<|Wv (col:=h1) [98] 18 ?_;intro fd j0 h2 a1 dn;refine lV (.agg #[.bool false,.slice none (([]:List Int).length) 0,.slice fd ([98].length) 1]) (Yt (l:=[_,_]) (qs:=[(0,2),(2,1)]) underlying47 zeroValue47 ⟨rfl,sizeOf45,rfl,sizeOf43,trivial⟩ rfl) ?_;replace af:=(af.gr bg).gr a1;replace af:=af.froz 17 (by decide);replace ag:=(ag.gr bg).gr a1;replace ag:=ag.froz 17 (by decide);replace ah:=(ah.gr bg).gr a1;replace ah:=ah.froz 17 (by decide);replace ai:=(ai.gr bg).gr a1;replace ai:=ai.froz 17 (by decide);replace aw:=(aw.gr bg).gr a1;replace aw:=aw.froz 17 (by decide);replace b7:=b7.gr a1;replace b7:=(b7).toSlF (Zm.int .u32);replace dn:=dn.froz 17 (by decide);replace ab:=(ab.gr bg).gr a1;replace ab:=ab.froz 17 (by decide);replace ae:=(ae.gr bg).gr a1;replace ae:=ae.froz 17 (by decide);replace ad:=(ad.gr bg).gr a1;replace ad:=ad.froz 17 (by decide);replace aa:=(aa.grow bg).grow a1;replace aa:=aa.froz 17 (by decide) (by decide);replace af:=af.froz 18 (by decide);replace ag:=ag.froz 18 (by decide);replace ah:=ah.froz 18 (by decide);replace ai:=ai.froz 18 (by decide);replace aw:=aw.froz 18 (by decide);replace b7:=b7.froz 18;replace dn:=(dn).toSlF (Zm.int .u32);replace ab:=ab.froz 18 (by decide);replace ae:=ae.froz 18 (by decide);replace ad:=ad.froz 18 (by decide);replace aa:=aa.froz 18 (by decide) (by decide)
      refine Q7 (col:=(Xn 18 (Xn 17 h2))) (r:=(Za.pair (Za.pair Za.bool (Za.view (Za.int .u32))) (Za.view (Za.int .u32)))) (xs:=[((false,(0,([]:List Int))),([97].length,[97])),((false,(0,([]:List Int))),([98].length,[98]))]) [(.agg #[.bool false,.slice none (([]:List Int).length) 0,.slice fc ([97].length) 1]),(.agg #[.bool false,.slice none (([]:List Int).length) 0,.slice fd ([98].length) 1])] 19 (Wu.ofF (Rows.consF (r:=(Za.pair (Za.pair Za.bool (Za.view (Za.int .u32))) (Za.view (Za.int .u32)))) (x:=((false,(0,([]:List Int))),([97].length,[97]))) (cs:=[.bool false,.slice none (([]:List Int).length) 0,.slice fc ([97].length) 1]) (V4 (V4 (Tq false) Ztm) (Ztn b7)) (Rows.consF (r:=(Za.pair (Za.pair Za.bool (Za.view (Za.int .u32))) (Za.view (Za.int .u32)))) (x:=((false,(0,([]:List Int))),([98].length,[98]))) (cs:=[.bool false,.slice none (([]:List Int).length) 0,.slice fd ([98].length) 1]) (V4 (V4 (Tq false) Ztm) (Ztn dn)) Rows.nil0))) ?_;intro j1 j2 j3 bh h3;obtain ⟨h4,hm⟩:=Z0 hm;replace aw:=aw.gr bh;refine Wo aw (h3.srcN (NB.pair (NB.pair NB.bool NB.view) NB.view)) h4 ?_;intro dp dq j4 c4 bw c5;refine go ?_;refine Wa (col:=c4) [(0,1),(1,0),(2,1),(3,1),(4,0),(5,1),(6,1),(7,0),(8,1),(9,1),(10,3),(11,2),(12,1),(13,2)] (by kernel_rfl) (by kernel_rfl)<|xu (v:=(.pointer ((some (⟨ak,0,none⟩:Addr)).map (·.add 4)))) rfl rfl (fun _=>Zu (sz:=1) (off:=4) underlying27 rfl sizeOf25 (by decide) rfl rfl ⟨_,_,rfl⟩) ?_;replace ad:=(ad.gr bh).kpp bw;refine xv rfl rfl (fun _ hC=>Xv isAgg25 rfl (((ad.atN).nth (q:=4) rfl).gr (hC.bl c4))) ?_;refine xu rfl rfl (fun _=>Vs rfl) ?_;refine xu (v:=(.pointer ((some (⟨ay,0,none⟩:Addr)).map (·.add 4)))) rfl rfl (fun _=>Zu (sz:=1) (off:=4) underlying27 rfl sizeOf25 (by decide) rfl rfl ⟨_,_,rfl⟩) ?_;replace ab:=(ab.gr bh).kpp bw;refine xv rfl rfl (fun _ hC=>Xv isAgg25 rfl (((ab.atN).nth (q:=4) rfl).gr (hC.bl c4))) ?_;refine xu rfl rfl (fun _=>Vd rfl) ?_;replace aa:=(aa.grow bh).kpp bw;refine xu rfl rfl (fun _=>Y4 underlying25 sizeOf56 rfl rfl (Xl a0).1 (Xl a0).2.1 ((bk.ks aa).addr a0)) ?_;obtain ⟨_,h5,h6⟩:=(bk.ks aa).atN a0;obtain ⟨⟨j5,j6,rfl,j7⟩,_⟩:=h5;refine xv rfl rfl (fun _ hC=>Xv isAgg56 rfl (h6.one.gr (hC.bl c4))) ?_;refine xu rfl rfl (fun _=>To underlying56 rfl) ?_;obtain ⟨fe,hm⟩:=Z0 hm
      refine xu (v:=.slice dp (Int.toNat (bd.length:Int)) dq) rfl rfl (fun _=>Vu underlying56 sizeOf47 rfl rfl fe.1 (by have:=c5.lecap;have:=fe.2;omega)) ?_;refine .ld (d:=137) (v:=(.slice dp (((av++[((false,(0,([]:List Int))),([97].length,[97])),((false,(0,([]:List Int))),([98].length,[98]))]).take (Int.toNat (bd.length:Int))).length) dq)) (congrArg (fun n=>Value.slice dp n dq) (List.length_take_of_le (show (Int.toNat (bd.length:Int))≤(av++[((false,(0,([]:List Int))),([97].length,[97])),((false,(0,([]:List Int))),([98].length,[98]))]).length by have:=fe.2;omega)).symm) ?_;refine xe rfl rfl ?_;intro j8 hC0;have hC:=hC0.bl c4;replace af:=((af.gr bh).kpp bw).gr hC;replace af:=af.froz 15 (by decide);replace ag:=((ag.gr bh).kpp bw).gr hC;replace ag:=ag.froz 15 (by decide);replace ah:=((ah.gr bh).kpp bw).gr hC;replace ah:=ah.froz 15 (by decide);replace ai:=((ai.gr bh).kpp bw).gr hC;replace ai:=ai.froz 15 (by decide);replace c5:=c5.gr hC;replace c5:=(c5).toSlF (Zm.pair (Zm.pair Zm.bool Zm.view) Zm.view);replace ab:=ab.gr hC;replace ab:=ab.froz 15 (by decide);replace ae:=((ae.gr bh).kpp bw).gr hC;replace ae:=ae.froz 15 (by decide);replace ad:=ad.gr hC;replace ad:=ad.froz 15 (by decide);replace aa:=aa.grow hC;replace aa:=aa.froz 15 (by decide) (by decide);refine Q7 (col:=(Xn 15 c4)) (r:=(Za.view (Za.pair (Za.pair Za.bool (Za.view (Za.int .u32))) (Za.view (Za.int .u32))))) (xs:=[((Int.toNat (bd.length:Int)),av++[((false,(0,([]:List Int))),([97].length,[97])),((false,(0,([]:List Int))),([98].length,[98]))])]) [(.slice dp (((av++[((false,(0,([]:List Int))),([97].length,[97])),((false,(0,([]:List Int))),([98].length,[98]))]).take (Int.toNat (bd.length:Int))).length) dq)] 20 (Wu.ofF (Rows.consF (r:=(Za.view (Za.pair (Za.pair Za.bool (Za.view (Za.int .u32))) (Za.view (Za.int .u32))))) (x:=((Int.toNat (bd.length:Int)),av++[((false,(0,([]:List Int))),([97].length,[97])),((false,(0,([]:List Int))),([98].length,[98]))])) (cs:=[(.slice dp (((av++[((false,(0,([]:List Int))),([97].length,[97])),((false,(0,([]:List Int))),([98].length,[98]))]).take (Int.toNat (bd.length:Int))).length) dq)]) (Zi8 c5) Rows.nil0)) ?_;intro j9 ka ff bi fg;refine Zl<|Xo ff hC0 bi<|xe rfl rfl ?_;intro h7 hC0;have hC:=hC0.bl ff;obtain ⟨f1,hm⟩:=Z0 hm;replace ai:=(ai.gr bi).gr hC;replace fg:=fg.gr hC
      refine Zbc (col:=ff) (w:=h7) (r:=(Za.view (Za.pair (Za.pair Za.bool (Za.view (Za.int .u32))) (Za.view (Za.int .u32))))) (c:=8) (c2:=8) (ai.ex) (fg.srcN NB.view) rfl underlying25 Zyt rfl rfl rfl f1.1 f1.2 (by decide) ?_;intro f2 f3 kb dr b8 fh;refine Zl<|xk dr<|xu (v:=(.pointer ((some (⟨ak,0,none⟩:Addr)).map (·.add 4)))) rfl rfl (fun _=>Zu (sz:=1) (off:=4) underlying27 rfl sizeOf25 (by decide) rfl rfl ⟨_,_,rfl⟩) ?_;refine xe rfl rfl ?_;intro kc hC0;replace af:=((af.gr bi).gr hC).kpp b8;replace ag:=((ag.gr bi).gr hC).kpp b8;replace ah:=((ah.gr bi).gr hC).kpp b8;replace ab:=((ab.gr bi).gr hC).kpp b8;replace ae:=((ae.gr bi).gr hC).kpp b8;replace ad:=((ad.gr bi).gr hC).kpp b8;replace aa:=((aa.grow bi).grow hC).kpp b8;have hC:=hC0.bl dr;replace ad:=ad.gr hC;refine Zcn (off:=4) (v:=(.slice f2 ((bc++[((Int.toNat (bd.length:Int)),av++[((false,(0,([]:List Int))),([97].length,[97])),((false,(0,([]:List Int))),([98].length,[98]))])]).length) f3)) ad sizeOf25 rfl rfl (by intro u hu;simp only [Value.cells,List.mem_cons,List.not_mem_nil,or_false] at hu;subst hu;rfl) rfl rfl ?_;intro h8 b9 h9 ds;replace ds:Zn 27 3 dr h8 ak #[.string cv,(.slice cw ((bs.take (Int.toNat (ac.2.1.length:Int))).length) cx),.slice cy bt.length cz,.slice c0 bu.length c1,(.slice f2 ((bc++[((Int.toNat (bd.length:Int)),av++[((false,(0,([]:List Int))),([97].length,[97])),((false,(0,([]:List Int))),([98].length,[98]))])]).length) f3)]:=ds;refine Zl<|xk dr ?_;replace fh:=(fh.gr hC).kp b9;have fi:=fh.new;refine Y2 ?_;replace af:=(af.gr hC).kp b9;replace ag:=(ag.gr hC).kp b9;replace ah:=(ah.gr hC).kp b9;replace ab:=(ab.gr hC).kp b9;replace ae:=(ae.gr hC).kp b9;replace aa:=(aa.grow hC).kp b9 h9;intro kd hC;replace hC:=hC.bl dr;refine go ?_;replace af:=af.gr hC;replace ag:=ag.gr hC;replace ah:=ah.gr hC;replace fi:=fi.gr hC;replace ab:=ab.gr hC;replace ae:=ae.gr hC;replace ds:=ds.gr hC;replace aa:=aa.grow hC;exact ⟨b6,by omega,rfl,⟨_,_,_,_,_,_,_,_,_,_,_,_,_,_,_,_,rfl,hm,aa,ab,ae,af,ag,ah,fi,ds,rfl⟩⟩
    refine lV _ (Xj isAgg27 sizeOf27 ad)<|Z7 ae ?_;intro ke dt ia bj;refine go ?_;replace af:=af.kp dt;replace af:=(af).toSlF Zm.str;replace ag:=ag.kp dt;replace ag:=ag.froz 4 (by decide);replace ah:=ah.kp dt;replace ah:=ah.froz 4 (by decide);replace ai:=ai.kp dt;replace ai:=ai.froz 4 (by decide);replace bj:=bj.froz 4 (by decide);replace aa:=aa.kp dt ia;replace aa:=aa.froz 4 (by decide) (by decide);replace af:=af.froz 6;replace ag:=(ag).toSlF Zm.view;replace ah:=ah.froz 6 (by decide);replace ai:=ai.froz 6 (by decide);replace bj:=bj.froz 6 (by decide);replace aa:=aa.froz 6 (by decide) (by decide);replace af:=af.froz 7;replace ag:=ag.froz 7;replace ah:=(ah).toSlF Zm.view;replace ai:=ai.froz 7 (by decide);replace bj:=bj.froz 7 (by decide);replace aa:=aa.froz 7 (by decide) (by decide);replace af:=af.froz 8;replace ag:=ag.froz 8;replace ah:=ah.froz 8;replace ai:=(ai).toSlF Zm.view;replace bj:=bj.froz 8 (by decide);replace aa:=aa.froz 8 (by decide) (by decide);cases hm;exact ⟨rfl,_,ra bj.atN,_,_,_,_,_,_,_,_,_,rfl,aa.fin (cm []),aa.fs af,aa.fs ag,aa.fs ah,aa.fs ai⟩
def Ziu (aa:Bool):Option Bool:=
  some aa
def Zd7 (N:Nat) (n0:Nat) (aa:List ByteArray) (ac:List ByteArray) (ad:ByteArray) (ae:ByteArray):Nat→Int→Option Bool
  | 0,_=>none
  | af+1,ab=>if (decide (ab<(ac.length:Int)))=true then ((Zk (aa.take n0) ab).bind fun ag=>(Zk ac ab).bind fun ah=>if (!decide (ag=ah))=true then (some false) else ((Zd7 N n0 aa ac ad ae af) (i64.wrap (ab+1)))) else (Zy ((0:Int)≤(i64.wrap (((aa.take n0).length:Int)+2))∧(i64.wrap (((aa.take n0).length:Int)+2))≤(aa.length:Int)) ((Zk (aa.take (Int.toNat (i64.wrap (((aa.take n0).length:Int)+2)))) ((aa.take n0).length:Int)).bind fun ai=>if (decide (ai=ad))=true then ((Zk (aa.take (Int.toNat (i64.wrap (((aa.take n0).length:Int)+2)))) (i64.wrap (((aa.take n0).length:Int)+1))).bind fun aj=>Ziu (decide (aj=ae))) else (Ziu false)))
termination_by structural x=>x
def Zd6 (N:Nat) (n0:Nat) (aa:List ByteArray) (ab:List ByteArray) (ac:ByteArray) (ad:ByteArray):Option Bool:=
  if (!decide (((aa.take n0).length:Int)=(ab.length:Int)))=true then (some false) else (Zd7 N n0 aa ab ac ad N 0)
theorem Zo4 {N ae n0 aq:Nat} {a0 a1:Option Addr} {col:Zd} {w0:World} {ab af:Ra} {ah ag:ByteArray} {r:Bool} (hm:Zd6 N n0 ab af ah ag=some r) (h0:Sl Za.str col w0 a0 ae ab) (h1:Sl Za.str col w0 a1 aq af):
    Calls Tryz.prog 82 #[.slice a0 ((ab.take n0).length) ae,.slice a1 af.length aq,.string ah,.string ag] w0 (fun e w'=>e= .returned ((.bool r))∧Below w0.heap.size w0 w'):=by
 refine Xb 8 (m:=53) func82 rfl rfl rfl rfl rfl ?_;rw [Zd6.eq_1] at hm;have aa:=St.start col w0;refine go ?_;replace h0:=h0.keep (Zj.start col w0);replace h1:=h1.keep (Zj.start col w0);refine Zp hm (fun hb hm=>go ?_) fun hb hm=>go ?_
 ·cases hm;exact ⟨rfl,rfl,aa.below⟩
 refine Zx [0,1,2,3,1000000] (fun n f ar=>∃ ac ai ad,ad=n∧Zd7 N n0 ab af ah ag ad ai=some r∧St w0 (Zi col) ac ar∧[9].map f=[.int .i64 ai]) N ⟨_,0,_,rfl,hm,aa,rfl⟩ ?_;clear hm;intro n f ar hI;obtain ⟨ac,ai,ad,hn,hm,aa,hs⟩:=hI;subst hn;refine .lL [9] hs ?_
 cases ad with
 | zero=>rw [Zd7.eq_1] at hm;cases hm
 | succ ad=>
  rw [Zd7.eq_2] at hm;refine go ?_;refine Zp hm (fun hb hm=>go ?_) fun hb hm=>go ?_
  ·refine Wk (col:=ac) (by kernel_rfl) (by kernel_rfl)<|go ?_;obtain ⟨ax,aj,hm⟩:=bZ hm;refine qI aj (((h0.ks aa).take n0).addr aj)<|qW (fun _ hC=>(((h0.ks aa).take n0).gr (hC.bl ac)).atStr aj) ?_;refine go ?_;obtain ⟨ay,ak,hm⟩:=bZ hm;refine qI ak ((h1.ks aa).addr ak)<|qW (fun _ hC=>((h1.ks aa).gr (hC.bl ac)).atStr ak) ?_;refine go ?_;refine Yo ?_;intro az hC;replace hC:=hC.bl ac;replace aa:=aa.grow hC;refine Zp hm (fun hb hm=>go ?_) fun hb hm=>go ?_
   ·cases hm;exact ⟨rfl,rfl,aa.below⟩
   exact ⟨ad,by omega,rfl,⟨_,_,_,rfl,hm,aa,rfl⟩⟩
  obtain ⟨al,hm⟩:=Z0 hm;refine lv (v:=.slice a0 (Int.toNat (i64.wrap (((ab.take n0).length:Int)+2))) ae) rfl rfl (Vu underlying22 sizeOf9 rfl rfl al.1 (by have:=(h0.ks aa).1.2;have:=al.2;omega))<|.ld (d:=35) (v:=(.slice a0 ((ab.take (Int.toNat (i64.wrap (((ab.take n0).length:Int)+2)))).length) ae)) (congrArg (fun n=>Value.slice a0 n ae) (List.length_take_of_le (show (Int.toNat (i64.wrap (((ab.take n0).length:Int)+2)))≤ab.length by have:=al.2;omega)).symm) ?_;refine T5 rfl<|Zl<|Zv ?_;refine Wp.cutK [1000000] (fun f au=>∃ av am,Ziu am=some r∧St w0 (Zi col) av au∧[8].map f=[.bool am]) ?_ ?_
  ·intro f au hJ;obtain ⟨av,am,hm,aa,hs⟩:=hJ;rw [Ziu.eq_1] at hm;refine .lL [8] hs<|Y5 ?_;cases hm;exact ⟨rfl,rfl,aa.below⟩
  refine go ?_;obtain ⟨a2,an,hm⟩:=bZ hm;refine lI an (((h0.ks aa).take (Int.toNat (i64.wrap (((ab.take n0).length:Int)+2)))).addr an)<|lW (((h0.ks aa).take (Int.toNat (i64.wrap (((ab.take n0).length:Int)+2)))).atStr an) ?_;refine go ?_;refine Xr hm (fun ao hm=>go ?_) fun ao hm=>go ?_
  ·obtain ⟨aw,ap,hm⟩:=bZ hm;refine lI ap (((h0.ks aa).take (Int.toNat (i64.wrap (((ab.take n0).length:Int)+2)))).addr ap) ?_;refine go ?_;refine lW (((h0.ks aa).take (Int.toNat (i64.wrap (((ab.take n0).length:Int)+2)))).atStr ap)<|go ?_;refine lV (.bool (decide (aw=ag))) (Z6 (congrArg Value.bool ao) rfl)<|go ?_;exact ⟨rfl,_,_,hm,aa,rfl⟩
  refine lV (.bool false) (Xg (congrArg Value.bool ao) rfl)<|go ?_;exact ⟨rfl,_,_,hm,aa,rfl⟩
def Zaz (N:Nat) (ab:R0) (ac:R0):Nat→Int→Option Bool
  | 0,_=>none
  | ad+1,aa=>if (decide (aa<(ab.1.2.length:Int)))=true then ((Zk ab.1.2 aa).bind fun ae=>(Zk ac.1.2 aa).bind fun af=>if (!decide (ae=af))=true then (some false) else ((Zaz N ab ac ad) (i64.wrap (aa+1)))) else (some true)
termination_by structural x=>x
def Zay (N:Nat) (aa:R0) (ac:R0):Nat→Int→Option Bool
  | 0,_=>none
  | ad+1,ab=>if (decide (ab<(aa.2.length:Int)))=true then ((Zk aa.2 ab).bind fun ae=>(Zk ac.2 ab).bind fun af=>if (!decide (ae=af))=true then (some false) else ((Zay N aa ac ad) (i64.wrap (ab+1)))) else (Zaz N aa ac N 0)
termination_by structural x=>x
def Zd5 (N:Nat) (aa:R0) (ab:R0) (ac:Bool):Option Bool:=
  if ac=true then (some false) else (Zay N aa ab N 0)
def Uh (N:Nat) (aa:R0) (ab:R0):Option Bool:=
  if (!decide (aa.1.1=ab.1.1))=true then (Zd5 N aa ab true) else (if (!decide ((aa.1.2.length:Int)=(ab.1.2.length:Int)))=true then (Zd5 N aa ab true) else (Zd5 N aa ab (!decide ((aa.2.length:Int)=(ab.2.length:Int)))))
theorem Zcj {N al am an ao:Nat} {ap aq ar au:Option Addr} {col:Zd} {w0:World} {ac ad:R0} {r:Bool} (hm:Uh N ac ad=some r) (av:Sl (Za.int .u32) col w0 ap al ac.1.2) (aw:Sl (Za.int .u32) col w0 aq am ac.2) (ax:Sl (Za.int .u32) col w0 ar an ad.1.2) (ay:Sl (Za.int .u32) col w0 au ao ad.2):
    Calls Tryz.prog 25 #[(.agg #[.bool ac.1.1,.slice ap ac.1.2.length al,.slice aq ac.2.length am]),(.agg #[.bool ad.1.1,.slice ar ad.1.2.length an,.slice au ad.2.length ao])] w0 (fun e w'=>e= .returned ((.bool r))∧Below w0.heap.size w0 w'):=by
 refine Xb 4 (m:=73) func25 rfl rfl rfl rfl rfl ?_;rw [Uh.eq_1] at hm;have aa:=St.start col w0;refine go ?_;refine Xh (col:=(Zi col)) 1 rfl ?_;intro af bf bd be ab;refine Xh (col:=bd) 2 rfl ?_;intro ag bg bh bc ae;refine Zes rfl<|Zl<|Zv<|Zv ?_;replace av:=av.keep (Zj.start col w0);replace aw:=aw.keep (Zj.start col w0);replace ax:=ax.keep (Zj.start col w0);replace ay:=ay.keep (Zj.start col w0);replace aa:=(aa.grow be).grow bc;replace ab:=ab.gr bc;refine Wp.cutK [2,3,1000000] (fun f az=>∃ a0 a3,Zd5 N ac ad a3=some r∧St w0 (Zi col) a0 az∧Zn 47 1 a0 az af #[.bool ac.1.1,.slice ap ac.1.2.length al,.slice aq ac.2.length am]∧Zn 47 2 a0 az ag #[.bool ad.1.1,.slice ar ad.1.2.length an,.slice au ad.2.length ao]∧[33].map f=[.bool a3]) ?_ ?_
 ·intro f az hJ;obtain ⟨a0,a3,hm,aa,ab,ae,hs⟩:=hJ;rw [Zd5.eq_1] at hm;refine .lL [33] hs ?_;refine Zp hm (fun hb hm=>go ?_) fun hb hm=>go ?_
  ·cases hm;exact ⟨rfl,rfl,aa.below⟩
  refine Zx [2,3,1000000] (fun n f a1=>∃ ah a4 aj,aj=n∧Zay N ac ad aj a4=some r∧St w0 (Zi col) ah a1∧Zn 47 1 ah a1 af #[.bool ac.1.1,.slice ap ac.1.2.length al,.slice aq ac.2.length am]∧Zn 47 2 ah a1 ag #[.bool ad.1.1,.slice ar ad.1.2.length an,.slice au ad.2.length ao]∧[5].map f=[.int .i64 a4]) N ⟨_,0,_,rfl,hm,aa,ab,ae,rfl⟩ ?_;clear hm;intro n f a1 hI;obtain ⟨ah,a4,aj,hn,hm,aa,ab,ae,hs⟩:=hI;subst hn;refine .lL [5] hs ?_
  cases aj with
  | zero=>rw [Zay.eq_1] at hm;cases hm
  | succ aj=>
   rw [Zay.eq_2] at hm;refine go ?_;refine Z9 ab ?_;refine go ?_;refine Zp hm (fun hb hm=>go ?_) fun hb hm=>go ?_
   ·refine Wk (col:=ah) (by kernel_rfl) (by kernel_rfl)<|qv (v:=(.pointer ((some (⟨af,0,none⟩:Addr)).map (·.add 2)))) rfl (fun _ hC=>Zu (sz:=1) (off:=2) underlying47 rfl sizeOf43 (by decide) rfl rfl ⟨_,_,rfl⟩) ?_;refine qW (fun _ hC=>((ab.atN).nth (q:=2) rfl).gr (hC.bl ah)) ?_;refine go ?_;obtain ⟨bi,a5,hm⟩:=bZ hm;refine qI a5 ((aw.ks aa).addr a5)<|qW (fun _ hC=>((aw.ks aa).gr (hC.bl ah)).atInt a5) ?_;refine qv (v:=(.pointer ((some (⟨ag,0,none⟩:Addr)).map (·.add 2)))) rfl (fun _ hC=>Zu (sz:=1) (off:=2) underlying47 rfl sizeOf43 (by decide) rfl rfl ⟨_,_,rfl⟩) ?_;refine qW (fun _ hC=>((ae.atN).nth (q:=2) rfl).gr (hC.bl ah)) ?_;refine go ?_;obtain ⟨bj,a6,hm⟩:=bZ hm;refine qI a6 ((ay.ks aa).addr a6)<|qW (fun _ hC=>((ay.ks aa).gr (hC.bl ah)).atInt a6) ?_;refine go ?_;refine Yo ?_;intro bk hC;replace hC:=hC.bl ah;replace ab:=ab.gr hC;replace ae:=ae.gr hC;replace aa:=aa.grow hC;refine Zp hm (fun hb hm=>go ?_) fun hb hm=>go ?_
    ·cases hm;exact ⟨rfl,rfl,aa.below⟩
    exact ⟨aj,by omega,rfl,⟨_,_,_,rfl,hm,aa,ab,ae,rfl⟩⟩
   refine Zx [2,3,1000000] (fun n f a2=>∃ ai a7 ak,ak=n∧Zaz N ac ad ak a7=some r∧St w0 (Zi col) ai a2∧Zn 47 1 ai a2 af #[.bool ac.1.1,.slice ap ac.1.2.length al,.slice aq ac.2.length am]∧Zn 47 2 ai a2 ag #[.bool ad.1.1,.slice ar ad.1.2.length an,.slice au ad.2.length ao]∧[6].map f=[.int .i64 a7]) N ⟨_,0,_,rfl,hm,aa,ab,ae,rfl⟩ ?_;clear hm;intro n f a2 hI;obtain ⟨ai,a7,ak,hn,hm,aa,ab,ae,hs⟩:=hI;subst hn;refine .lL [6] hs ?_
   cases ak with
   | zero=>rw [Zaz.eq_1] at hm;cases hm
   | succ ak=>
    rw [Zaz.eq_2] at hm;refine go ?_;refine lF af 0 underlying47 rfl sizeOf45<|lv (v:=(.pointer (((some (⟨af,0,none⟩:Addr)).map (·.add 0)).map (·.add 1)))) rfl rfl (Zu (sz:=1) (off:=1) underlying45 rfl sizeOf43 (by decide) rfl rfl (Ya ⟨_,_,rfl⟩))<|lW ((((ab.atN).part 0 2 _ rfl)).nth (q:=1) rfl)<|go ?_;refine Zp hm (fun hb hm=>go ?_) fun hb hm=>go ?_
    ·refine Wk (col:=ai) (by kernel_rfl) (by kernel_rfl)<|qv (v:=(.pointer ((some (⟨af,0,none⟩:Addr)).map (·.add 0)))) rfl (fun _ hC=>Zu (sz:=2) (off:=0) underlying47 rfl sizeOf45 (by decide) rfl rfl ⟨_,_,rfl⟩) ?_;refine qv (v:=(.pointer (((some (⟨af,0,none⟩:Addr)).map (·.add 0)).map (·.add 1)))) rfl (fun _ hC=>Zu (sz:=1) (off:=1) underlying45 rfl sizeOf43 (by decide) rfl rfl (Ya ⟨_,_,rfl⟩)) ?_;refine qW (fun _ hC=>((((ab.atN).part 0 2 _ rfl)).nth (q:=1) rfl).gr (hC.bl ai)) ?_;refine go ?_;obtain ⟨bm,a8,hm⟩:=bZ hm;refine qI a8 ((av.ks aa).addr a8)<|qW (fun _ hC=>((av.ks aa).gr (hC.bl ai)).atInt a8) ?_;refine qv (v:=(.pointer ((some (⟨ag,0,none⟩:Addr)).map (·.add 0)))) rfl (fun _ hC=>Zu (sz:=2) (off:=0) underlying47 rfl sizeOf45 (by decide) rfl rfl ⟨_,_,rfl⟩) ?_;refine qv (v:=(.pointer (((some (⟨ag,0,none⟩:Addr)).map (·.add 0)).map (·.add 1)))) rfl (fun _ hC=>Zu (sz:=1) (off:=1) underlying45 rfl sizeOf43 (by decide) rfl rfl (Ya ⟨_,_,rfl⟩)) ?_;refine qW (fun _ hC=>((((ae.atN).part 0 2 _ rfl)).nth (q:=1) rfl).gr (hC.bl ai)) ?_;refine go ?_;obtain ⟨bn,a9,hm⟩:=bZ hm;refine qI a9 ((ax.ks aa).addr a9)<|qW (fun _ hC=>((ax.ks aa).gr (hC.bl ai)).atInt a9) ?_;refine go ?_;refine Yo ?_;intro bo hC;replace hC:=hC.bl ai;replace ab:=ab.gr hC;replace ae:=ae.gr hC;replace aa:=aa.grow hC;refine Zp hm (fun hb hm=>go ?_) fun hb hm=>go ?_
     ·cases hm;exact ⟨rfl,rfl,aa.below⟩
     exact ⟨ak,by omega,rfl,⟨_,_,_,rfl,hm,aa,ab,ae,rfl⟩⟩
    cases hm;exact ⟨rfl,rfl,aa.below⟩
 refine Wl<|lF af 0 underlying47 rfl sizeOf45<|lv (v:=(.pointer (((some (⟨af,0,none⟩:Addr)).map (·.add 0)).map (·.add 0)))) rfl rfl (Zu (sz:=1) (off:=0) underlying45 rfl sizeOf4 (by decide) rfl rfl (Ya ⟨_,_,rfl⟩))<|lW ((((ab.atN).part 0 2 _ rfl)).nth (q:=0) rfl)<|lF ag 0 underlying47 rfl sizeOf45<|lv (v:=(.pointer (((some (⟨ag,0,none⟩:Addr)).map (·.add 0)).map (·.add 0)))) rfl rfl (Zu (sz:=1) (off:=0) underlying45 rfl sizeOf4 (by decide) rfl rfl (Ya ⟨_,_,rfl⟩))<|lW ((((ae.atN).part 0 2 _ rfl)).nth (q:=0) rfl)<|go ?_;refine Xr hm (fun ba hm=>go ?_) fun ba hm=>go ?_
 ·refine lV (.bool true) (Z6 (congrArg Value.bool ba) rfl)<|Xt rfl<|lP 25 rfl rfl<|lP 25 rfl rfl<|lP 25 rfl rfl<|lP 25 rfl rfl<|lP 25 rfl rfl<|lP 25 rfl rfl<|lP 25 rfl rfl<|lV (.bool true) (Z6 rfl rfl)<|Zl ?_;exact ⟨rfl,_,_,hm,aa,ab,ae,rfl⟩
 refine lF af 0 underlying47 rfl sizeOf45<|go ?_;refine lv (v:=(.pointer (((some (⟨af,0,none⟩:Addr)).map (·.add 0)).map (·.add 1)))) rfl rfl (Zu (sz:=1) (off:=1) underlying45 rfl sizeOf43 (by decide) rfl rfl (Ya ⟨_,_,rfl⟩))<|go ?_;refine lW ((((ab.atN).part 0 2 _ rfl)).nth (q:=1) rfl)<|go ?_;refine lF ag 0 underlying47 rfl sizeOf45<|go ?_;refine lv (v:=(.pointer (((some (⟨ag,0,none⟩:Addr)).map (·.add 0)).map (·.add 1)))) rfl rfl (Zu (sz:=1) (off:=1) underlying45 rfl sizeOf43 (by decide) rfl rfl (Ya ⟨_,_,rfl⟩))<|go ?_;refine lW ((((ae.atN).part 0 2 _ rfl)).nth (q:=1) rfl)<|go ?_;refine lV (.bool (!decide ((ac.1.2.length:Int)=(ad.1.2.length:Int)))) (Xg (congrArg Value.bool ba) rfl)<|Xt rfl ?_;refine Xr hm (fun bb hm=>go ?_) fun bb hm=>go ?_
 ·refine lV (.bool true) (Z6 (congrArg Value.bool bb) rfl)<|Zl ?_;exact ⟨rfl,_,_,hm,aa,ab,ae,rfl⟩
 refine lF af 2 underlying47 rfl sizeOf43<|go ?_;refine lW ((ab.atN).nth (q:=2) rfl)<|go ?_;refine lF ag 2 underlying47 rfl sizeOf43<|go ?_;refine lW ((ae.atN).nth (q:=2) rfl)<|go ?_;refine lV (.bool (!decide ((ac.2.length:Int)=(ad.2.length:Int)))) (Xg (congrArg Value.bool bb) rfl)<|Zl ?_;exact ⟨rfl,_,_,hm,aa,ab,ae,rfl⟩
def Zis (aa:Int) (kk_L2:(Int→Option Bool)) (ab:Bool):Option Bool:=
  if ab=true then (some false) else (kk_L2 (i64.wrap (aa+1)))
def Zd0 (N:Nat) (ad:R3) (af:R1) (ab:Int) (kk_L2:(Int→Option Bool)) (aa:List Int):Nat→Int→Option Bool
  | 0,_=>none
  | ah+1,ac=>if (decide (ac<(aa.length:Int)))=true then ((Zk ad.2.2.2.1 ab).bind fun ag=>(Zk (ag.2.take ag.1) ac).bind fun ai=>(Zk af.2.2.2.1 ab).bind fun aj=>(Zk aj ac).bind fun ak=>if (!decide (ai=ak))=true then (some false) else ((Zd0 N ad af ab kk_L2 aa ah) (i64.wrap (ac+1)))) else ((Zk ad.2.2.2.1 ab).bind fun ae=>Zy ((0:Int)≤(i64.wrap ((aa.length:Int)+2))∧(i64.wrap ((aa.length:Int)+2))≤(ae.2.length:Int)) ((Zk (ae.2.take (Int.toNat (i64.wrap ((aa.length:Int)+2)))) (aa.length:Int)).bind fun al=>if (!decide (al=(-95)))=true then (Zis ab kk_L2 true) else ((Zk (ae.2.take (Int.toNat (i64.wrap ((aa.length:Int)+2)))) (i64.wrap ((aa.length:Int)+1))).bind fun am=>Zis ab kk_L2 (!decide (am=(-96))))))
termination_by structural x=>x
def Zb2 (aa:Int) (kk_L5:(Int→Option Bool)) (ab:Bool):Option Bool:=
  if ab=true then (some false) else (kk_L5 (i64.wrap (aa+1)))
def Zdy (aa:Int) (kk_L4:(Int→Option Bool)) (ab:Bool):Option Bool:=
  if ab=true then (some false) else (kk_L4 (i64.wrap (aa+1)))
def Sf (N:Nat) (ae:R3) (af:R1) (ab:Int) (kk_L4:(Int→Option Bool)) (ac:R8):Nat→Int→Option Bool
  | 0,_=>none
  | ag+1,ad=>if (decide (ad<(ac.length:Int)))=true then ((Zk ae.2.2.2.2 ab).bind fun al=>(Zk (al.2.take al.1) ad).bind fun aa=>Zy ((0:Int)≤(i64.wrap (((aa.1.2.2.take aa.1.2.1).length:Int)+2))∧(i64.wrap (((aa.1.2.2.take aa.1.2.1).length:Int)+2))≤(aa.1.2.2.length:Int)) (Zy ((0:Int)≤(i64.wrap (((aa.2.2.take aa.2.1).length:Int)+2))∧(i64.wrap (((aa.2.2.take aa.2.1).length:Int)+2))≤(aa.2.2.length:Int)) ((Zk af.2.2.2.2 ab).bind fun am=>(Zk am ad).bind fun aj=>(Uh N ((aa.1.1,aa.1.2.2.take aa.1.2.1),aa.2.2.take aa.2.1) ((aj.1.1,aj.1.2),aj.2)).bind fun an=>if (!an)=true then (Zb2 ad (Sf N ae af ab kk_L4 ac ag) true) else ((Zk (aa.1.2.2.take (Int.toNat (i64.wrap (((aa.1.2.2.take aa.1.2.1).length:Int)+2)))) (i64.wrap (((aa.1.2.2.take (Int.toNat (i64.wrap (((aa.1.2.2.take aa.1.2.1).length:Int)+2)))).length:Int) - 1))).bind fun ao=>if (!decide (ao=902))=true then (Zb2 ad (Sf N ae af ab kk_L4 ac ag) true) else ((Zk (aa.1.2.2.take (Int.toNat (i64.wrap (((aa.1.2.2.take aa.1.2.1).length:Int)+2)))) (i64.wrap (((aa.1.2.2.take (Int.toNat (i64.wrap (((aa.1.2.2.take aa.1.2.1).length:Int)+2)))).length:Int) - 2))).bind fun ap=>if (!decide (ap=901))=true then (Zb2 ad (Sf N ae af ab kk_L4 ac ag) true) else ((Zk (aa.2.2.take (Int.toNat (i64.wrap (((aa.2.2.take aa.2.1).length:Int)+2)))) (i64.wrap (((aa.2.2.take (Int.toNat (i64.wrap (((aa.2.2.take aa.2.1).length:Int)+2)))).length:Int) - 1))).bind fun aq=>if (!decide (aq=904))=true then (Zb2 ad (Sf N ae af ab kk_L4 ac ag) true) else ((Zk (aa.2.2.take (Int.toNat (i64.wrap (((aa.2.2.take aa.2.1).length:Int)+2)))) (i64.wrap (((aa.2.2.take (Int.toNat (i64.wrap (((aa.2.2.take aa.2.1).length:Int)+2)))).length:Int) - 2))).bind fun ar=>Zb2 ad (Sf N ae af ab kk_L4 ac ag) (!decide (ar=903))))))))) else ((Zk ae.2.2.2.2 ab).bind fun ak=>Zy ((0:Int)≤(i64.wrap ((ac.length:Int)+2))∧(i64.wrap ((ac.length:Int)+2))≤(ak.2.length:Int)) ((Zk (ak.2.take (Int.toNat (i64.wrap ((ac.length:Int)+2)))) (ac.length:Int)).bind fun ah=>if (!decide (((ah.2.2.take ah.2.1).length:Int)=1))=true then (Zdy ab kk_L4 true) else ((Zk (ah.2.2.take ah.2.1) 0).bind fun au=>if (!decide (au=97))=true then (Zdy ab kk_L4 true) else ((Zk (ak.2.take (Int.toNat (i64.wrap ((ac.length:Int)+2)))) (i64.wrap ((ac.length:Int)+1))).bind fun ai=>if (!decide (((ai.2.2.take ai.2.1).length:Int)=1))=true then (Zdy ab kk_L4 true) else ((Zk (ai.2.2.take ai.2.1) 0).bind fun av=>Zdy ab kk_L4 (!decide (av=98)))))))
termination_by structural x=>x
def Sz (N:Nat) (ac:R3) (aa:R1):Nat→Int→Option Bool
  | 0,_=>none
  | af+1,ab=>if (decide (ab<(aa.2.2.2.2.length:Int)))=true then ((Zk aa.2.2.2.2 ab).bind fun ad=>(Zk ac.2.2.2.2 ab).bind fun ae=>if (!decide (((ae.2.take ae.1).length:Int)=(ad.length:Int)))=true then (some false) else (Sf N ac aa ab (Sz N ac aa af) ad N 0)) else (some true)
termination_by structural x=>x
def Qw (N:Nat) (ab:R3) (aa:R1):Nat→Int→Option Bool
  | 0,_=>none
  | af+1,ac=>if (decide (ac<(aa.2.2.2.1.length:Int)))=true then ((Zk aa.2.2.2.1 ac).bind fun ad=>(Zk ab.2.2.2.1 ac).bind fun ae=>if (!decide (((ae.2.take ae.1).length:Int)=(ad.length:Int)))=true then (some false) else (Zd0 N ab aa ac (Qw N ab aa af) ad N 0)) else (Sz N ab aa N 0)
termination_by structural x=>x
def Zdz (N:Nat) (ac:R3) (aa:R1):Nat→Int→Option Bool
  | 0,_=>none
  | ae+1,ab=>if (decide (ab<(aa.2.2.1.length:Int)))=true then ((Zk ac.2.2.1 ab).bind fun ad=>(Zk aa.2.2.1 ab).bind fun af=>(Zd6 N ad.1 ad.2 af (⟨#[35,51]⟩) (⟨#[35,52]⟩)).bind fun ag=>if (!ag)=true then (some false) else ((Zdz N ac aa ae) (i64.wrap (ab+1)))) else (Qw N ac aa N 0)
termination_by structural x=>x
def Zb1 (N:Nat) (aa:R3) (ab:R1) (ac:Bool):Option Bool:=
  if ac=true then (some false) else (Zdz N aa ab N 0)
def Zdx (N:Nat) (aa:R3) (ab:R1):Option Bool:=
  if (!decide (aa.1=ab.1))=true then (Zb1 N aa ab true) else (if (!decide ((aa.2.2.1.length:Int)=(ab.2.2.1.length:Int)))=true then (Zb1 N aa ab true) else (if (!decide ((aa.2.2.2.1.length:Int)=(ab.2.2.2.1.length:Int)))=true then (Zb1 N aa ab true) else (if (!decide ((aa.2.2.2.2.length:Int)=(ab.2.2.2.2.length:Int)))=true then (Zb1 N aa ab true) else ((Zd6 N aa.2.1.1 aa.2.1.2 ab.2.1 (⟨#[35,49]⟩) (⟨#[35,50]⟩)).bind fun ac=>Zb1 N aa ab (!ac)))))
theorem Zo3 {N an ao ap aq ar au av aw:Nat} {ax ay az a0 a1 a2 a3 a4:Option Addr} {col:Zd} {w0:World} {ab:R3} {ac:R1} {r:Bool} (hm:Zdx N ab ac=some r) (cp:Sl Za.str col w0 ax an ab.2.1.2) (b2:Sl (Za.view Za.str) col w0 ay ao ab.2.2.1) (ba:Sl (Za.view (Za.int .i64)) col w0 az ap ab.2.2.2.1) (bb:Sl (Za.view (Za.pair (Za.pair Za.bool (Za.view (Za.int .u32))) (Za.view (Za.int .u32)))) col w0 a0 aq ab.2.2.2.2) (cq:Sl Za.str col w0 a1 ar ac.2.1) (b3:Sl (Za.slice Za.str) col w0 a2 au ac.2.2.1) (bj:Sl (Za.slice (Za.int .i64)) col w0 a3 av ac.2.2.2.1) (bk:Sl (Za.slice (Za.pair (Za.pair Za.bool (Za.slice (Za.int .u32))) (Za.slice (Za.int .u32)))) col w0 a4 aw ac.2.2.2.2):
    Calls Tryz.prog 19 #[(.agg #[.string ab.1,.slice ax ((ab.2.1.2.take ab.2.1.1).length) an,.slice ay ab.2.2.1.length ao,.slice az ab.2.2.2.1.length ap,.slice a0 ab.2.2.2.2.length aq]),(.agg #[.string ac.1,.slice a1 ac.2.1.length ar,.slice a2 ac.2.2.1.length au,.slice a3 ac.2.2.2.1.length av,.slice a4 ac.2.2.2.2.length aw])] w0 (fun e w'=>e= .returned ((.bool r))∧Below w0.heap.size w0 w'):=by
 refine Xb 4 (m:=283) func19 rfl rfl rfl rfl rfl ?_;rw [Zdx.eq_1] at hm;have aa:=St.start col w0;refine go ?_;refine Xh (col:=(Zi col)) 1 rfl ?_;intro aj g4 ed ee ad;refine Xh (col:=ed) 2 rfl ?_;intro ai ef d9 ea ae;refine Zes rfl<|Zl<|Zv<|Zv ?_;replace cp:=cp.keep (Zj.start col w0);replace b2:=b2.keep (Zj.start col w0);replace ba:=ba.keep (Zj.start col w0);replace bb:=bb.keep (Zj.start col w0);replace cq:=cq.keep (Zj.start col w0);replace b3:=b3.keep (Zj.start col w0);replace bj:=bj.keep (Zj.start col w0);replace bk:=bk.keep (Zj.start col w0);replace aa:=(aa.grow ee).grow ea;replace ad:=ad.gr ea;refine Wp.cutK [2,3,1000000] (fun f b4=>∃ b5 cr,Zb1 N ab ac cr=some r∧St w0 (Zi col) b5 b4∧Zn 27 1 b5 b4 aj #[.string ab.1,.slice ax ((ab.2.1.2.take ab.2.1.1).length) an,.slice ay ab.2.2.1.length ao,.slice az ab.2.2.2.1.length ap,.slice a0 ab.2.2.2.2.length aq]∧Zn 27 2 b5 b4 ai #[.string ac.1,.slice a1 ac.2.1.length ar,.slice a2 ac.2.2.1.length au,.slice a3 ac.2.2.2.1.length av,.slice a4 ac.2.2.2.2.length aw]∧[56].map f=[.bool cr]) ?_ ?_
 ·intro f b4 hJ;obtain ⟨b5,cr,hm,aa,ad,ae,hs⟩:=hJ;rw [Zb1.eq_1] at hm;refine .lL [56] hs ?_;refine Zp hm (fun hb hm=>go ?_) fun hb hm=>go ?_
  ·cases hm;exact ⟨rfl,rfl,aa.below⟩
  refine Zx [2,3,1000000] (fun n f bq=>∃ am cs bm,bm=n∧Zdz N ab ac bm cs=some r∧St w0 (Zi col) am bq∧Zn 27 1 am bq aj #[.string ab.1,.slice ax ((ab.2.1.2.take ab.2.1.1).length) an,.slice ay ab.2.2.1.length ao,.slice az ab.2.2.2.1.length ap,.slice a0 ab.2.2.2.2.length aq]∧Zn 27 2 am bq ai #[.string ac.1,.slice a1 ac.2.1.length ar,.slice a2 ac.2.2.1.length au,.slice a3 ac.2.2.2.1.length av,.slice a4 ac.2.2.2.2.length aw]∧[5].map f=[.int .i64 cs]) N ⟨_,0,_,rfl,hm,aa,ad,ae,rfl⟩ ?_;clear hm;intro n f bq hI;obtain ⟨am,cs,bm,hn,hm,aa,ad,ae,hs⟩:=hI;subst hn;refine .lL [5] hs ?_
  cases bm with
  | zero=>rw [Zdz.eq_1] at hm;cases hm
  | succ bm=>
   rw [Zdz.eq_2] at hm;refine go ?_;refine Z9 ae ?_;refine go ?_;refine Zp hm (fun hb hm=>go ?_) fun hb hm=>go ?_
   ·refine Wk (col:=am) (by kernel_rfl) (by kernel_rfl)<|qv (v:=(.pointer ((some (⟨aj,0,none⟩:Addr)).map (·.add 2)))) rfl (fun _ hC=>Zu (sz:=1) (off:=2) underlying27 rfl sizeOf23 (by decide) rfl rfl ⟨_,_,rfl⟩) ?_;refine qW (fun _ hC=>((ad.atN).nth (q:=2) rfl).gr (hC.bl am)) ?_;refine go ?_;obtain ⟨eg,ct,hm⟩:=bZ hm;refine qI ct ((b2.ks aa).addr ct) ?_;obtain ⟨_,eh,ei⟩:=(b2.ks aa).atN ct;obtain ⟨⟨ej,ek,rfl,cu⟩,_⟩:=eh;replace cu:Sl Za.str am bq ej ek eg.2:=cu;refine qW (fun _ hC=>ei.one.gr (hC.bl am)) ?_;refine qv (v:=(.pointer ((some (⟨ai,0,none⟩:Addr)).map (·.add 2)))) rfl (fun _ hC=>Zu (sz:=1) (off:=2) underlying27 rfl sizeOf23 (by decide) rfl rfl ⟨_,_,rfl⟩) ?_;refine qW (fun _ hC=>((ae.atN).nth (q:=2) rfl).gr (hC.bl am)) ?_;refine go ?_;obtain ⟨g5,cv,hm⟩:=bZ hm;refine qI cv ((b3.ks aa).addr cv) ?_;obtain ⟨_,el,em⟩:=(b3.ks aa).atN cv;obtain ⟨⟨g6,g7,rfl,en⟩,_⟩:=el;refine qW (fun _ hC=>em.one.gr (hC.bl am)) ?_;obtain ⟨eo,ep,hm⟩:=bZ hm;refine qc (v:=(.bool eo)) rfl (fun _ hC=>⟨_,_,Zs4 call82 rfl rfl rfl rfl,(Zo4 ep (cu.gr (hC.bl am)) (en.gr (hC.bl am)):).mono fun _ _ h=>⟨h.1,hC.trans (.of_below h.2)⟩⟩) ?_;refine go ?_;refine Yo ?_;intro g8 hC;replace hC:=hC.bl am;replace ad:=ad.gr hC;replace ae:=ae.gr hC;replace aa:=aa.grow hC;refine Zp hm (fun hb hm=>go ?_) fun hb hm=>go ?_
    ·cases hm;exact ⟨rfl,rfl,aa.below⟩
    exact ⟨bm,by omega,rfl,⟨_,_,_,rfl,hm,aa,ad,ae,rfl⟩⟩
   refine Zx [2,3,1000000] (fun n f b6=>∃ b7 br bc,bc=n∧Qw N ab ac bc br=some r∧St w0 (Zi col) b7 b6∧Zn 27 1 b7 b6 aj #[.string ab.1,.slice ax ((ab.2.1.2.take ab.2.1.1).length) an,.slice ay ab.2.2.1.length ao,.slice az ab.2.2.2.1.length ap,.slice a0 ab.2.2.2.2.length aq]∧Zn 27 2 b7 b6 ai #[.string ac.1,.slice a1 ac.2.1.length ar,.slice a2 ac.2.2.1.length au,.slice a3 ac.2.2.2.1.length av,.slice a4 ac.2.2.2.2.length aw]∧[6].map f=[.int .i64 br]) N ⟨_,0,_,rfl,hm,aa,ad,ae,rfl⟩ ?_;clear hm;intro n f b6 hI;obtain ⟨b7,br,bc,hn,hm,aa,ad,ae,hs⟩:=hI;subst hn;refine .lL [6] hs ?_
   cases bc with
   | zero=>rw [Qw.eq_1] at hm;cases hm
   | succ bc=>
    rw [Qw.eq_2] at hm;refine go ?_;refine Z9 ae ?_;refine go ?_;refine Zp hm (fun hb hm=>go ?_) fun hb hm=>go ?_
    ·refine Z9 ae<|Xu rfl ?_;obtain ⟨bd,cw,hm⟩:=bZ hm;refine lI cw ((bj.ks aa).addr cw) ?_;obtain ⟨_,eq,er⟩:=(bj.ks aa).atN cw;obtain ⟨⟨g9,ha,rfl,hc⟩,_⟩:=eq;refine lW er.one<|go ?_;refine Z9 ad<|Xu rfl ?_;obtain ⟨hd,cx,hm⟩:=bZ hm;refine lI cx ((ba.ks aa).addr cx) ?_;obtain ⟨_,es,et⟩:=(ba.ks aa).atN cx;obtain ⟨⟨he,hf,rfl,hg⟩,_⟩:=es;refine lW et.one<|go ?_;refine Zp hm (fun hb hm=>go ?_) fun hb hm=>go ?_
     ·cases hm;exact ⟨rfl,rfl,aa.below⟩
     refine Zx [2,3,6,7,1000000] (fun n f bn=>∃ al cy bo,bo=n∧Zd0 N ab ac br (Qw N ab ac bc) bd bo cy=some r∧St w0 (Zi col) al bn∧Zn 27 1 al bn aj #[.string ab.1,.slice ax ((ab.2.1.2.take ab.2.1.1).length) an,.slice ay ab.2.2.1.length ao,.slice az ab.2.2.2.1.length ap,.slice a0 ab.2.2.2.2.length aq]∧Zn 27 2 al bn ai #[.string ac.1,.slice a1 ac.2.1.length ar,.slice a2 ac.2.2.1.length au,.slice a3 ac.2.2.2.1.length av,.slice a4 ac.2.2.2.2.length aw]∧[8].map f=[.int .i64 cy]) N ⟨_,0,_,rfl,hm,aa,ad,ae,rfl⟩ ?_;clear hm;intro n f bn hI;obtain ⟨al,cy,bo,hn,hm,aa,ad,ae,hs⟩:=hI;subst hn;refine .lL [8] hs ?_
     cases bo with
     | zero=>rw [Zd0.eq_1] at hm;cases hm
     | succ bo=>
      rw [Zd0.eq_2] at hm;refine go ?_;refine Zp hm (fun hb hm=>go ?_) fun hb hm=>go ?_
      ·refine Wk (col:=al) (by kernel_rfl) (by kernel_rfl)<|qv (v:=(.pointer ((some (⟨aj,0,none⟩:Addr)).map (·.add 3)))) rfl (fun _ hC=>Zu (sz:=1) (off:=3) underlying27 rfl sizeOf24 (by decide) rfl rfl ⟨_,_,rfl⟩) ?_;refine qW (fun _ hC=>((ad.atN).nth (q:=3) rfl).gr (hC.bl al)) ?_;refine go ?_;obtain ⟨cz,c0,hm⟩:=bZ hm;refine qI c0 ((ba.ks aa).addr c0) ?_;obtain ⟨_,eu,ev⟩:=(ba.ks aa).atN c0;obtain ⟨⟨ew,ex,rfl,b8⟩,_⟩:=eu;replace b8:Sl (Za.int .i64) al bn ew ex cz.2:=b8;refine qW (fun _ hC=>ev.one.gr (hC.bl al)) ?_;refine go ?_;obtain ⟨hh,c1,hm⟩:=bZ hm;refine qI c1 ((b8.take cz.1).addr c1)<|qW (fun _ hC=>((b8.take cz.1).gr (hC.bl al)).atInt c1) ?_;refine qv (v:=(.pointer ((some (⟨ai,0,none⟩:Addr)).map (·.add 3)))) rfl (fun _ hC=>Zu (sz:=1) (off:=3) underlying27 rfl sizeOf24 (by decide) rfl rfl ⟨_,_,rfl⟩) ?_;refine qW (fun _ hC=>((ae.atN).nth (q:=3) rfl).gr (hC.bl al)) ?_;refine go ?_;obtain ⟨hi,c2,hm⟩:=bZ hm;refine qI c2 ((bj.ks aa).addr c2) ?_;obtain ⟨_,ey,ez⟩:=(bj.ks aa).atN c2;obtain ⟨⟨hj,hk,rfl,eb⟩,_⟩:=ey;refine qW (fun _ hC=>ez.one.gr (hC.bl al)) ?_;refine go ?_;obtain ⟨hl,c3,hm⟩:=bZ hm;refine qI c3 (eb.addr c3)<|qW (fun _ hC=>(eb.gr (hC.bl al)).atInt c3) ?_;refine go ?_;refine Yo ?_;intro ho hC;replace hC:=hC.bl al;replace ad:=ad.gr hC;replace ae:=ae.gr hC;replace aa:=aa.grow hC;refine Zp hm (fun hb hm=>go ?_) fun hb hm=>go ?_
       ·cases hm;exact ⟨rfl,rfl,aa.below⟩
       exact ⟨bo,by omega,rfl,⟨_,_,_,rfl,hm,aa,ad,ae,rfl⟩⟩
      refine Z9 ad<|Xu rfl ?_;obtain ⟨c4,c5,hm⟩:=bZ hm;refine lI c5 ((ba.ks aa).addr c5) ?_;obtain ⟨_,e0,e1⟩:=(ba.ks aa).atN c5;obtain ⟨⟨b9,ca,rfl,bh⟩,_⟩:=e0;replace bh:Sl (Za.int .i64) al bn b9 ca c4.2:=bh;refine lW e1.one<|go ?_;obtain ⟨c6,hm⟩:=Z0 hm;refine lv (v:=.slice b9 (Int.toNat (i64.wrap ((bd.length:Int)+2))) ca) rfl rfl (Vu underlying40 sizeOf3 rfl rfl c6.1 (by have:=bh.1.2;have:=c6.2;omega))<|.ld (d:=126) (v:=(.slice b9 ((c4.2.take (Int.toNat (i64.wrap ((bd.length:Int)+2)))).length) ca)) (congrArg (fun n=>Value.slice b9 n ca) (List.length_take_of_le (show (Int.toNat (i64.wrap ((bd.length:Int)+2)))≤c4.2.length by have:=c6.2;omega)).symm) ?_;refine T5 rfl<|Zl<|Zv ?_;refine Wp.cutK [2,3,6,1000000] (fun f cb=>∃ cc c7,Zis br (Qw N ab ac bc) c7=some r∧St w0 (Zi col) cc cb∧Zn 27 1 cc cb aj #[.string ab.1,.slice ax ((ab.2.1.2.take ab.2.1.1).length) an,.slice ay ab.2.2.1.length ao,.slice az ab.2.2.2.1.length ap,.slice a0 ab.2.2.2.2.length aq]∧Zn 27 2 cc cb ai #[.string ac.1,.slice a1 ac.2.1.length ar,.slice a2 ac.2.2.1.length au,.slice a3 ac.2.2.2.1.length av,.slice a4 ac.2.2.2.2.length aw]∧[139].map f=[.bool c7]) ?_ ?_
      ·intro f cb hJ;obtain ⟨cc,c7,hm,aa,ad,ae,hs⟩:=hJ;rw [Zis.eq_1] at hm;refine .lL [139] hs ?_;refine Zp hm (fun hb hm=>go ?_) fun hb hm=>go ?_
       ·cases hm;exact ⟨rfl,rfl,aa.below⟩
       exact ⟨bc,by omega,rfl,⟨_,_,_,rfl,hm,aa,ad,ae,rfl⟩⟩
      refine go ?_;obtain ⟨hp,c8,hm⟩:=bZ hm;refine lI c8 ((bh.take (Int.toNat (i64.wrap ((bd.length:Int)+2)))).addr c8)<|lW ((bh.take (Int.toNat (i64.wrap ((bd.length:Int)+2)))).atInt c8) ?_;refine go ?_;refine Xr hm (fun c9 hm=>go ?_) fun c9 hm=>go ?_
      ·refine lV (.bool true) (Z6 (congrArg Value.bool c9) rfl)<|Zl ?_;exact ⟨rfl,_,_,hm,aa,ad,ae,rfl⟩
      obtain ⟨e2,da,hm⟩:=bZ hm;refine lI da ((bh.take (Int.toNat (i64.wrap ((bd.length:Int)+2)))).addr da) ?_;refine go ?_;refine lW ((bh.take (Int.toNat (i64.wrap ((bd.length:Int)+2)))).atInt da)<|go ?_;refine lV (.bool (!decide (e2=(-96)))) (Xg (congrArg Value.bool c9) rfl)<|Zl ?_;exact ⟨rfl,_,_,hm,aa,ad,ae,rfl⟩
    refine Zx [2,3,1000000] (fun n f cd=>∃ ce bp a9,a9=n∧Sz N ab ac a9 bp=some r∧St w0 (Zi col) ce cd∧Zn 27 1 ce cd aj #[.string ab.1,.slice ax ((ab.2.1.2.take ab.2.1.1).length) an,.slice ay ab.2.2.1.length ao,.slice az ab.2.2.2.1.length ap,.slice a0 ab.2.2.2.2.length aq]∧Zn 27 2 ce cd ai #[.string ac.1,.slice a1 ac.2.1.length ar,.slice a2 ac.2.2.1.length au,.slice a3 ac.2.2.2.1.length av,.slice a4 ac.2.2.2.2.length aw]∧[10].map f=[.int .i64 bp]) N ⟨_,0,_,rfl,hm,aa,ad,ae,rfl⟩ ?_;clear hm;intro n f cd hI;obtain ⟨ce,bp,a9,hn,hm,aa,ad,ae,hs⟩:=hI;subst hn;refine .lL [10] hs ?_
    cases a9 with
    | zero=>rw [Sz.eq_1] at hm;cases hm
    | succ a9=>
     rw [Sz.eq_2] at hm;refine go ?_;refine Z9 ae ?_;refine go ?_;refine Zp hm (fun hb hm=>go ?_) fun hb hm=>go ?_
     ·refine Z9 ae<|Xu rfl ?_;obtain ⟨ag,db,hm⟩:=bZ hm;refine lI db ((bk.ks aa).addr db) ?_;obtain ⟨_,e3,e4⟩:=(bk.ks aa).atN db;obtain ⟨⟨hq,hr,rfl,ht⟩,_⟩:=e3;refine lW e4.one<|go ?_;refine Z9 ad<|Xu rfl ?_;obtain ⟨hu,dc,hm⟩:=bZ hm;refine lI dc ((bb.ks aa).addr dc) ?_;obtain ⟨_,e5,e6⟩:=(bb.ks aa).atN dc;obtain ⟨⟨hv,hw,rfl,hx⟩,_⟩:=e5;refine lW e6.one<|go ?_;refine Zp hm (fun hb hm=>go ?_) fun hb hm=>go ?_
      ·cases hm;exact ⟨rfl,rfl,aa.below⟩
      refine Zx [10,11,2,3,1000000] (fun n f a6=>∃ a5 cf bi,bi=n∧Sf N ab ac bp (Sz N ab ac a9) ag bi cf=some r∧St w0 (Zi col) a5 a6∧Zn 27 1 a5 a6 aj #[.string ab.1,.slice ax ((ab.2.1.2.take ab.2.1.1).length) an,.slice ay ab.2.2.1.length ao,.slice az ab.2.2.2.1.length ap,.slice a0 ab.2.2.2.2.length aq]∧Zn 27 2 a5 a6 ai #[.string ac.1,.slice a1 ac.2.1.length ar,.slice a2 ac.2.2.1.length au,.slice a3 ac.2.2.2.1.length av,.slice a4 ac.2.2.2.2.length aw]∧[12].map f=[.int .i64 cf]) N ⟨_,0,_,rfl,hm,aa,ad,ae,rfl⟩ ?_;clear hm;intro n f a6 hI;obtain ⟨a5,cf,bi,hn,hm,aa,ad,ae,hs⟩:=hI;subst hn;refine .lL [12] hs ?_
      cases bi with
      | zero=>rw [Sf.eq_1] at hm;cases hm
      | succ bi=>
       rw [Sf.eq_2] at hm;refine go ?_;refine Zp hm (fun hb hm=>go ?_) fun hb hm=>go ?_
       ·refine Z9 ad<|Xu rfl ?_;obtain ⟨dd,de,hm⟩:=bZ hm;refine lI de ((bb.ks aa).addr de) ?_;obtain ⟨_,e7,e8⟩:=(bb.ks aa).atN de;obtain ⟨⟨e9,fa,rfl,cg⟩,_⟩:=e7;replace cg:Sl (Za.pair (Za.pair Za.bool (Za.view (Za.int .u32))) (Za.view (Za.int .u32))) a5 a6 e9 fa dd.2:=cg;refine lW e8.one<|Xu rfl ?_;obtain ⟨af,df,hm⟩:=bZ hm;refine lI df ((cg.take dd.1).addr df) ?_;obtain ⟨_,fb,fc⟩:=(cg.take dd.1).atN df;obtain ⟨_,_,rfl,fd,fe⟩:=Yy fb;obtain ⟨_,_,rfl,ff,fg⟩:=Yy fd;obtain ⟨rfl,_⟩:=ff;obtain ⟨⟨bs,bt,rfl,a7⟩,_⟩:=fg;replace a7:Sl (Za.int .u32) a5 a6 bs bt af.1.2.2:=a7;obtain ⟨⟨bu,bv,rfl,a8⟩,_⟩:=fe;replace a8:Sl (Za.int .u32) a5 a6 bu bv af.2.2:=a8;refine lV (.agg #[.bool af.1.1,.slice bs ((af.1.2.2.take af.1.2.1).length) bt,.slice bu ((af.2.2.take af.2.1).length) bv]) (Xq isAgg47 sizeOf47 rfl rfl fc)<|Xp (col:=a5) #[.bool false,.slice none (([]:List Int).length) 0,.slice none (([]:List Int).length) 0] 3 zeroValue47 ?_;intro ch hy ah bw fh;refine Z7 fh ?_;intro hz bx fi bz;refine go ?_;refine lF ch 0 underlying47 rfl sizeOf45<|lv (v:=(.pointer (((some (⟨ch,0,none⟩:Addr)).map (·.add 0)).map (·.add 1)))) rfl rfl (Zu (sz:=1) (off:=1) underlying45 rfl sizeOf43 (by decide) rfl rfl (Ya ⟨_,_,rfl⟩))<|lW ((((bz.atN).part 0 2 _ rfl)).nth (q:=1) rfl)<|lF ch 0 underlying47 rfl sizeOf45<|lv (v:=(.pointer (((some (⟨ch,0,none⟩:Addr)).map (·.add 0)).map (·.add 1)))) rfl rfl (Zu (sz:=1) (off:=1) underlying45 rfl sizeOf43 (by decide) rfl rfl (Ya ⟨_,_,rfl⟩))<|lW ((((bz.atN).part 0 2 _ rfl)).nth (q:=1) rfl)<|go ?_;obtain ⟨dg,hm⟩:=Z0 hm;replace a7:=(a7.gr bw).kp bx;refine lv (v:=.slice bs (Int.toNat (i64.wrap (((af.1.2.2.take af.1.2.1).length:Int)+2))) bt) rfl rfl (Vu underlying43 sizeOf79 rfl rfl dg.1 (by have:=a7.1.2;have:=dg.2;omega))<|.ld (d:=182) (v:=(.slice bs ((af.1.2.2.take (Int.toNat (i64.wrap (((af.1.2.2.take af.1.2.1).length:Int)+2)))).length) bt)) (congrArg (fun n=>Value.slice bs n bt) (List.length_take_of_le (show (Int.toNat (i64.wrap (((af.1.2.2.take af.1.2.1).length:Int)+2)))≤af.1.2.2.length by have:=dg.2;omega)).symm) ?_;refine go ?_;refine Z9 bz<|Z9 bz ?_;refine go ?_;obtain ⟨dh,hm⟩:=Z0 hm;replace a8:=(a8.gr bw).kp bx
        refine lv (v:=.slice bu (Int.toNat (i64.wrap (((af.2.2.take af.2.1).length:Int)+2))) bv) rfl rfl (Vu underlying43 sizeOf79 rfl rfl dh.1 (by have:=a8.1.2;have:=dh.2;omega))<|.ld (d:=189) (v:=(.slice bu ((af.2.2.take (Int.toNat (i64.wrap (((af.2.2.take af.2.1).length:Int)+2)))).length) bv)) (congrArg (fun n=>Value.slice bu n bv) (List.length_take_of_le (show (Int.toNat (i64.wrap (((af.2.2.take af.2.1).length:Int)+2)))≤af.2.2.length by have:=dh.2;omega)).symm) ?_;refine T5 rfl<|Zl<|Zv ?_;replace ad:=(ad.gr bw).kp bx;replace ae:=(ae.gr bw).kp bx;replace aa:=(aa.grow bw).kp bx fi;refine Wp.cutK [10,11,12,2,3,1000000] (fun f ci=>∃ cj di,Zb2 cf (Sf N ab ac bp (Sz N ab ac a9) ag bi) di=some r∧St w0 (Zi col) cj ci∧Zn 27 1 cj ci aj #[.string ab.1,.slice ax ((ab.2.1.2.take ab.2.1.1).length) an,.slice ay ab.2.2.1.length ao,.slice az ab.2.2.2.1.length ap,.slice a0 ab.2.2.2.2.length aq]∧Zn 27 2 cj ci ai #[.string ac.1,.slice a1 ac.2.1.length ar,.slice a2 ac.2.2.1.length au,.slice a3 ac.2.2.2.1.length av,.slice a4 ac.2.2.2.2.length aw]∧[236].map f=[.bool di]) ?_ ?_
        ·intro f ci hJ;obtain ⟨cj,di,hm,aa,ad,ae,hs⟩:=hJ;rw [Zb2.eq_1] at hm;refine .lL [236] hs ?_;refine Zp hm (fun hb hm=>go ?_) fun hb hm=>go ?_
         ·cases hm;exact ⟨rfl,rfl,aa.below⟩
         exact ⟨bi,by omega,rfl,⟨_,_,_,rfl,hm,aa,ad,ae,rfl⟩⟩
        refine Wk (col:=ah) (by kernel_rfl) (by kernel_rfl)<|qv rfl (fun _ hC=>Xj isAgg47 sizeOf47 (bz.gr (hC.bl ah))) ?_;refine qv (v:=(.pointer ((some (⟨ai,0,none⟩:Addr)).map (·.add 4)))) rfl (fun _ hC=>Zu (sz:=1) (off:=4) underlying27 rfl sizeOf25 (by decide) rfl rfl ⟨_,_,rfl⟩) ?_;refine qW (fun _ hC=>((ae.atN).nth (q:=4) rfl).gr (hC.bl ah)) ?_;refine go ?_;obtain ⟨h0,dj,hm⟩:=bZ hm;refine qI dj ((bk.ks aa).addr dj) ?_;obtain ⟨_,fj,fk⟩:=(bk.ks aa).atN dj;obtain ⟨⟨h1,h2,rfl,ec⟩,_⟩:=fj;refine qW (fun _ hC=>fk.one.gr (hC.bl ah)) ?_;refine go ?_;obtain ⟨dk,dl,hm⟩:=bZ hm;refine qI dl (ec.addr dl) ?_;obtain ⟨_,fl,fm⟩:=ec.atN dl;obtain ⟨_,_,rfl,fn,fo⟩:=Yy fl;obtain ⟨_,_,rfl,fp,fq⟩:=Yy fn;obtain ⟨rfl,_⟩:=fp;obtain ⟨⟨fr,fs,rfl,ft⟩,_⟩:=fq;obtain ⟨⟨fu,fv,rfl,fw⟩,_⟩:=fo;refine qv (v:=(.agg #[.bool dk.1.1,.slice fr dk.1.2.length fs,.slice fu dk.2.length fv])) rfl (fun _ hC=>Xq isAgg47 sizeOf47 rfl rfl (fm.gr (hC.bl ah))) ?_;obtain ⟨fx,fy,hm⟩:=bZ hm;refine qc (v:=(.bool fx)) rfl (fun _ hC=>⟨_,_,Q0 call25 rfl rfl,(Zcj fy ((a7.take af.1.2.1).gr (hC.bl ah)) ((a8.take af.2.1).gr (hC.bl ah)) (ft.gr (hC.bl ah)) (fw.gr (hC.bl ah)):).mono fun _ _ h=>⟨h.1,hC.trans (.of_below h.2)⟩⟩) ?_;refine go ?_;refine Xr hm (fun dm hm=>go ?_) fun dm hm=>go ?_
        ·refine qv (v:=(.bool true)) rfl (fun _ hC=>Z6 (congrArg Value.bool dm) rfl) ?_;refine go ?_;refine qP 210 rfl rfl<|qP 210 rfl rfl<|qP 210 rfl rfl<|qP 210 rfl rfl<|qP 210 rfl rfl<|qP 210 rfl rfl<|qP 210 rfl rfl<|qv (v:=(.bool true)) rfl (fun _ hC=>Z6 rfl rfl) ?_;refine go ?_;refine qP 219 rfl rfl<|qP 219 rfl rfl<|qP 219 rfl rfl<|qP 219 rfl rfl<|qP 219 rfl rfl<|qP 219 rfl rfl<|qP 219 rfl rfl<|qv (v:=(.bool true)) rfl (fun _ hC=>Z6 rfl rfl) ?_;refine go ?_;refine qP 228 rfl rfl<|qP 228 rfl rfl<|qP 228 rfl rfl<|qP 228 rfl rfl<|qP 228 rfl rfl<|qP 228 rfl rfl<|qP 228 rfl rfl<|qv (v:=(.bool true)) rfl (fun _ hC=>Z6 rfl rfl) ?_;refine Yo ?_;intro h3 hC;replace hC:=hC.bl ah;replace ad:=ad.gr hC;replace ae:=ae.gr hC;replace aa:=aa.grow hC;exact ⟨rfl,_,_,hm,aa,ad,ae,rfl⟩
        obtain ⟨fz,dn,hm⟩:=bZ hm;refine qI dn ((a7.take (Int.toNat (i64.wrap (((af.1.2.2.take af.1.2.1).length:Int)+2)))).addr dn) ?_;refine go ?_;refine qW (fun _ hC=>((a7.take (Int.toNat (i64.wrap (((af.1.2.2.take af.1.2.1).length:Int)+2)))).gr (hC.bl ah)).atInt dn) ?_;refine go ?_;refine qv (v:=(.bool (!decide (fz=902)))) rfl (fun _ hC=>Xg (congrArg Value.bool dm) rfl) ?_;refine go ?_;refine Xr hm (fun dp hm=>go ?_) fun dp hm=>go ?_
        ·refine qv (v:=(.bool true)) rfl (fun _ hC=>Z6 (congrArg Value.bool dp) rfl) ?_;refine go ?_;refine qP 219 rfl rfl<|qP 219 rfl rfl<|qP 219 rfl rfl<|qP 219 rfl rfl<|qP 219 rfl rfl<|qP 219 rfl rfl<|qP 219 rfl rfl<|qv (v:=(.bool true)) rfl (fun _ hC=>Z6 rfl rfl) ?_;refine go ?_;refine qP 228 rfl rfl<|qP 228 rfl rfl<|qP 228 rfl rfl<|qP 228 rfl rfl<|qP 228 rfl rfl<|qP 228 rfl rfl<|qP 228 rfl rfl<|qv (v:=(.bool true)) rfl (fun _ hC=>Z6 rfl rfl) ?_;refine Yo ?_;intro h4 hC;replace hC:=hC.bl ah;replace ad:=ad.gr hC;replace ae:=ae.gr hC;replace aa:=aa.grow hC;exact ⟨rfl,_,_,hm,aa,ad,ae,rfl⟩
        obtain ⟨f0,dq,hm⟩:=bZ hm;refine qI dq ((a7.take (Int.toNat (i64.wrap (((af.1.2.2.take af.1.2.1).length:Int)+2)))).addr dq) ?_;refine go ?_;refine qW (fun _ hC=>((a7.take (Int.toNat (i64.wrap (((af.1.2.2.take af.1.2.1).length:Int)+2)))).gr (hC.bl ah)).atInt dq) ?_;refine go ?_;refine qv (v:=(.bool (!decide (f0=901)))) rfl (fun _ hC=>Xg (congrArg Value.bool dp) rfl) ?_;refine go ?_;refine Xr hm (fun dr hm=>go ?_) fun dr hm=>go ?_
        ·refine qv (v:=(.bool true)) rfl (fun _ hC=>Z6 (congrArg Value.bool dr) rfl) ?_;refine go ?_;refine qP 228 rfl rfl<|qP 228 rfl rfl<|qP 228 rfl rfl<|qP 228 rfl rfl<|qP 228 rfl rfl<|qP 228 rfl rfl<|qP 228 rfl rfl<|qv (v:=(.bool true)) rfl (fun _ hC=>Z6 rfl rfl) ?_;refine Yo ?_;intro h5 hC;replace hC:=hC.bl ah;replace ad:=ad.gr hC;replace ae:=ae.gr hC;replace aa:=aa.grow hC;exact ⟨rfl,_,_,hm,aa,ad,ae,rfl⟩
        obtain ⟨f1,ds,hm⟩:=bZ hm;refine qI ds ((a8.take (Int.toNat (i64.wrap (((af.2.2.take af.2.1).length:Int)+2)))).addr ds) ?_;refine go ?_;refine qW (fun _ hC=>((a8.take (Int.toNat (i64.wrap (((af.2.2.take af.2.1).length:Int)+2)))).gr (hC.bl ah)).atInt ds) ?_;refine go ?_;refine qv (v:=(.bool (!decide (f1=904)))) rfl (fun _ hC=>Xg (congrArg Value.bool dr) rfl) ?_;refine go ?_;refine Xr hm (fun dt hm=>go ?_) fun dt hm=>go ?_
        ·refine qv (v:=(.bool true)) rfl (fun _ hC=>Z6 (congrArg Value.bool dt) rfl) ?_;refine Yo ?_;intro h6 hC;replace hC:=hC.bl ah;replace ad:=ad.gr hC;replace ae:=ae.gr hC;replace aa:=aa.grow hC;exact ⟨rfl,_,_,hm,aa,ad,ae,rfl⟩
        obtain ⟨f2,du,hm⟩:=bZ hm;refine qI du ((a8.take (Int.toNat (i64.wrap (((af.2.2.take af.2.1).length:Int)+2)))).addr du) ?_;refine go ?_;refine qW (fun _ hC=>((a8.take (Int.toNat (i64.wrap (((af.2.2.take af.2.1).length:Int)+2)))).gr (hC.bl ah)).atInt du) ?_;refine go ?_;refine qv (v:=(.bool (!decide (f2=903)))) rfl (fun _ hC=>Xg (congrArg Value.bool dt) rfl) ?_;refine Yo ?_;intro h7 hC;replace hC:=hC.bl ah;replace ad:=ad.gr hC;replace ae:=ae.gr hC;replace aa:=aa.grow hC;exact ⟨rfl,_,_,hm,aa,ad,ae,rfl⟩
       refine Z9 ad<|Xu rfl ?_;obtain ⟨dv,dw,hm⟩:=bZ hm;refine lI dw ((bb.ks aa).addr dw) ?_;obtain ⟨_,f3,f4⟩:=(bb.ks aa).atN dw;obtain ⟨⟨be,ck,rfl,ak⟩,_⟩:=f3;replace ak:Sl (Za.pair (Za.pair Za.bool (Za.view (Za.int .u32))) (Za.view (Za.int .u32))) a5 a6 be ck dv.2:=ak;refine lW f4.one<|go ?_;obtain ⟨dx,hm⟩:=Z0 hm;refine lv (v:=.slice be (Int.toNat (i64.wrap ((ag.length:Int)+2))) ck) rfl rfl (Vu underlying56 sizeOf47 rfl rfl dx.1 (by have:=ak.1.2;have:=dx.2;omega))<|.ld (d:=244) (v:=(.slice be ((dv.2.take (Int.toNat (i64.wrap ((ag.length:Int)+2)))).length) ck)) (congrArg (fun n=>Value.slice be n ck) (List.length_take_of_le (show (Int.toNat (i64.wrap ((ag.length:Int)+2)))≤dv.2.length by have:=dx.2;omega)).symm) ?_;refine T5 rfl<|Zl<|Zv ?_;refine Wp.cutK [10,2,3,1000000] (fun f cl=>∃ cm dy,Zdy bp (Sz N ab ac a9) dy=some r∧St w0 (Zi col) cm cl∧Zn 27 1 cm cl aj #[.string ab.1,.slice ax ((ab.2.1.2.take ab.2.1.1).length) an,.slice ay ab.2.2.1.length ao,.slice az ab.2.2.2.1.length ap,.slice a0 ab.2.2.2.2.length aq]∧Zn 27 2 cm cl ai #[.string ac.1,.slice a1 ac.2.1.length ar,.slice a2 ac.2.2.1.length au,.slice a3 ac.2.2.2.1.length av,.slice a4 ac.2.2.2.2.length aw]∧[282].map f=[.bool dy]) ?_ ?_
       ·intro f cl hJ;obtain ⟨cm,dy,hm,aa,ad,ae,hs⟩:=hJ;rw [Zdy.eq_1] at hm;refine .lL [282] hs ?_;refine Zp hm (fun hb hm=>go ?_) fun hb hm=>go ?_
        ·cases hm;exact ⟨rfl,rfl,aa.below⟩
        exact ⟨a9,by omega,rfl,⟨_,_,_,rfl,hm,aa,ad,ae,rfl⟩⟩
       refine go ?_;obtain ⟨dz,bf,hm⟩:=bZ hm;refine lI bf ((ak.take (Int.toNat (i64.wrap ((ag.length:Int)+2)))).addr bf)<|lv (v:=(.pointer ((be.map (·.add (Int.toNat (ag.length:Int) * 3))).map (·.add 2)))) rfl rfl (Zu (sz:=1) (off:=2) underlying47 rfl sizeOf43 (by decide) rfl rfl (Ya ((ak.take (Int.toNat (i64.wrap ((ag.length:Int)+2)))).addr bf))) ?_;obtain ⟨_,f5,f6⟩:=(ak.take (Int.toNat (i64.wrap ((ag.length:Int)+2)))).atN bf;obtain ⟨_,_,rfl,f7,f8⟩:=Yy f5;obtain ⟨_,_,rfl,f9,ga⟩:=Yy f7;obtain ⟨rfl,_⟩:=f9;obtain ⟨⟨h8,h9,rfl,ia⟩,_⟩:=ga;obtain ⟨⟨ib,ic,rfl,id⟩,_⟩:=f8;refine lW ((f6).nth (q:=2) rfl)<|go ?_;refine Xr hm (fun d0 hm=>go ?_) fun d0 hm=>go ?_
       ·refine lV (.bool true) (Z6 (congrArg Value.bool d0) rfl)<|Xt rfl<|lP 262 rfl rfl<|lP 262 rfl rfl<|lP 262 rfl rfl<|lP 262 rfl rfl<|lP 262 rfl rfl<|lP 262 rfl rfl<|lP 262 rfl rfl<|lP 262 rfl rfl<|lV (.bool true) (Z6 rfl rfl)<|Xt rfl<|lP 272 rfl rfl<|lP 272 rfl rfl<|lP 272 rfl rfl<|lP 272 rfl rfl<|lP 272 rfl rfl<|lP 272 rfl rfl<|lP 272 rfl rfl<|lP 272 rfl rfl<|lP 272 rfl rfl<|lV (.bool true) (Z6 rfl rfl)<|Zl ?_;exact ⟨rfl,_,_,hm,aa,ad,ae,rfl⟩
       refine lI bf ((ak.take (Int.toNat (i64.wrap ((ag.length:Int)+2)))).addr bf) ?_;refine go ?_;refine lv (v:=(.pointer ((be.map (·.add (Int.toNat (ag.length:Int) * 3))).map (·.add 2)))) rfl rfl (Zu (sz:=1) (off:=2) underlying47 rfl sizeOf43 (by decide) rfl rfl (Ya ((ak.take (Int.toNat (i64.wrap ((ag.length:Int)+2)))).addr bf)))<|go ?_;obtain ⟨_,gb,gc⟩:=(ak.take (Int.toNat (i64.wrap ((ag.length:Int)+2)))).atN bf;obtain ⟨_,_,rfl,gd,ge⟩:=Yy gb;obtain ⟨_,_,rfl,gf,gg⟩:=Yy gd;obtain ⟨rfl,_⟩:=gf;obtain ⟨⟨ie,ig,rfl,ih⟩,_⟩:=gg;obtain ⟨⟨gh,gi,rfl,cn⟩,_⟩:=ge;replace cn:Sl (Za.int .u32) a5 a6 gh gi dz.2.2:=cn;refine lW ((gc).nth (q:=2) rfl)<|go ?_;obtain ⟨gj,d1,hm⟩:=bZ hm;refine lI d1 ((cn.take dz.2.1).addr d1) ?_;refine go ?_;refine lW ((cn.take dz.2.1).atInt d1)<|go ?_;refine lV (.bool (!decide (gj=97))) (Xg (congrArg Value.bool d0) rfl)<|Xt rfl ?_;refine Xr hm (fun d2 hm=>go ?_) fun d2 hm=>go ?_
       ·refine lV (.bool true) (Z6 (congrArg Value.bool d2) rfl)<|Xt rfl<|lP 272 rfl rfl<|lP 272 rfl rfl<|lP 272 rfl rfl<|lP 272 rfl rfl<|lP 272 rfl rfl<|lP 272 rfl rfl<|lP 272 rfl rfl<|lP 272 rfl rfl<|lP 272 rfl rfl<|lV (.bool true) (Z6 rfl rfl)<|Zl ?_;exact ⟨rfl,_,_,hm,aa,ad,ae,rfl⟩
       obtain ⟨b0,bg,hm⟩:=bZ hm;refine lI bg ((ak.take (Int.toNat (i64.wrap ((ag.length:Int)+2)))).addr bg) ?_;refine go ?_;refine lv (v:=(.pointer ((be.map (·.add (Int.toNat (i64.wrap ((ag.length:Int)+1)) * 3))).map (·.add 2)))) rfl rfl (Zu (sz:=1) (off:=2) underlying47 rfl sizeOf43 (by decide) rfl rfl (Ya ((ak.take (Int.toNat (i64.wrap ((ag.length:Int)+2)))).addr bg)))<|go ?_;obtain ⟨_,gk,gl⟩:=(ak.take (Int.toNat (i64.wrap ((ag.length:Int)+2)))).atN bg;obtain ⟨_,_,rfl,gm,gn⟩:=Yy gk;obtain ⟨_,_,rfl,gp,gq⟩:=Yy gm;obtain ⟨rfl,_⟩:=gp;obtain ⟨⟨ii,ij,rfl,ik⟩,_⟩:=gq;obtain ⟨⟨il,im,rfl,io⟩,_⟩:=gn;refine lW ((gl).nth (q:=2) rfl)<|go ?_;refine lV (.bool (!decide (((b0.2.2.take b0.2.1).length:Int)=1))) (Xg (congrArg Value.bool d2) rfl)<|Xt rfl ?_;refine Xr hm (fun d3 hm=>go ?_) fun d3 hm=>go ?_
       ·refine lV (.bool true) (Z6 (congrArg Value.bool d3) rfl)<|Zl ?_;exact ⟨rfl,_,_,hm,aa,ad,ae,rfl⟩
       refine lI bg ((ak.take (Int.toNat (i64.wrap ((ag.length:Int)+2)))).addr bg) ?_;refine go ?_;refine lv (v:=(.pointer ((be.map (·.add (Int.toNat (i64.wrap ((ag.length:Int)+1)) * 3))).map (·.add 2)))) rfl rfl (Zu (sz:=1) (off:=2) underlying47 rfl sizeOf43 (by decide) rfl rfl (Ya ((ak.take (Int.toNat (i64.wrap ((ag.length:Int)+2)))).addr bg)))<|go ?_;obtain ⟨_,gs,gt⟩:=(ak.take (Int.toNat (i64.wrap ((ag.length:Int)+2)))).atN bg;obtain ⟨_,_,rfl,gu,gv⟩:=Yy gs;obtain ⟨_,_,rfl,gw,gx⟩:=Yy gu;obtain ⟨rfl,_⟩:=gw;obtain ⟨⟨ip,iq,rfl,ir⟩,_⟩:=gx;obtain ⟨⟨gy,gz,rfl,co⟩,_⟩:=gv;replace co:Sl (Za.int .u32) a5 a6 gy gz b0.2.2:=co;refine lW ((gt).nth (q:=2) rfl)<|go ?_;obtain ⟨g0,d4,hm⟩:=bZ hm;refine lI d4 ((co.take b0.2.1).addr d4) ?_;refine go ?_;refine lW ((co.take b0.2.1).atInt d4)<|go ?_;refine lV (.bool (!decide (g0=98))) (Xg (congrArg Value.bool d3) rfl)<|Zl ?_;exact ⟨rfl,_,_,hm,aa,ad,ae,rfl⟩
     cases hm;exact ⟨rfl,rfl,aa.below⟩
 refine Wl<|Z9 ad<|Z9 ae ?_;refine go ?_;refine Xr hm (fun d5 hm=>go ?_) fun d5 hm=>go ?_
 ·refine lV (.bool true) (Z6 (congrArg Value.bool d5) rfl)<|Xt rfl<|lP 31 rfl rfl<|lP 31 rfl rfl<|lP 31 rfl rfl<|lP 31 rfl rfl<|lP 31 rfl rfl<|lP 31 rfl rfl<|lP 31 rfl rfl<|lV (.bool true) (Z6 rfl rfl)<|Xt rfl<|lP 40 rfl rfl<|lP 40 rfl rfl<|lP 40 rfl rfl<|lP 40 rfl rfl<|lP 40 rfl rfl<|lP 40 rfl rfl<|lP 40 rfl rfl<|lV (.bool true) (Z6 rfl rfl)<|Xt rfl<|lP 49 rfl rfl<|lP 49 rfl rfl<|lP 49 rfl rfl<|lP 49 rfl rfl<|lP 49 rfl rfl<|lP 49 rfl rfl<|lV (.bool true) (Z6 rfl rfl)<|Zl ?_;exact ⟨rfl,_,_,hm,aa,ad,ae,rfl⟩
 refine lF aj 2 underlying27 rfl sizeOf23<|go ?_;refine lW ((ad.atN).nth (q:=2) rfl)<|go ?_;refine lF ai 2 underlying27 rfl sizeOf23<|go ?_;refine lW ((ae.atN).nth (q:=2) rfl)<|go ?_;refine lV (.bool (!decide ((ab.2.2.1.length:Int)=(ac.2.2.1.length:Int)))) (Xg (congrArg Value.bool d5) rfl)<|Xt rfl ?_;refine Xr hm (fun d6 hm=>go ?_) fun d6 hm=>go ?_
 ·refine lV (.bool true) (Z6 (congrArg Value.bool d6) rfl)<|Xt rfl<|lP 40 rfl rfl<|lP 40 rfl rfl<|lP 40 rfl rfl<|lP 40 rfl rfl<|lP 40 rfl rfl<|lP 40 rfl rfl<|lP 40 rfl rfl<|lV (.bool true) (Z6 rfl rfl)<|Xt rfl<|lP 49 rfl rfl<|lP 49 rfl rfl<|lP 49 rfl rfl<|lP 49 rfl rfl<|lP 49 rfl rfl<|lP 49 rfl rfl<|lV (.bool true) (Z6 rfl rfl)<|Zl ?_;exact ⟨rfl,_,_,hm,aa,ad,ae,rfl⟩
 refine lF aj 3 underlying27 rfl sizeOf24<|go ?_;refine lW ((ad.atN).nth (q:=3) rfl)<|go ?_;refine lF ai 3 underlying27 rfl sizeOf24<|go ?_;refine lW ((ae.atN).nth (q:=3) rfl)<|go ?_;refine lV (.bool (!decide ((ab.2.2.2.1.length:Int)=(ac.2.2.2.1.length:Int)))) (Xg (congrArg Value.bool d6) rfl)<|Xt rfl ?_;refine Xr hm (fun d7 hm=>go ?_) fun d7 hm=>go ?_
 ·refine lV (.bool true) (Z6 (congrArg Value.bool d7) rfl)<|Xt rfl<|lP 49 rfl rfl<|lP 49 rfl rfl<|lP 49 rfl rfl<|lP 49 rfl rfl<|lP 49 rfl rfl<|lP 49 rfl rfl<|lV (.bool true) (Z6 rfl rfl)<|Zl ?_;exact ⟨rfl,_,_,hm,aa,ad,ae,rfl⟩
 refine lF aj 4 underlying27 rfl sizeOf25<|go ?_;refine lW ((ad.atN).nth (q:=4) rfl)<|go ?_;refine lF ai 4 underlying27 rfl sizeOf25<|go ?_;refine lW ((ae.atN).nth (q:=4) rfl)<|go ?_;refine lV (.bool (!decide ((ab.2.2.2.2.length:Int)=(ac.2.2.2.2.length:Int)))) (Xg (congrArg Value.bool d7) rfl)<|Xt rfl ?_;refine Xr hm (fun d8 hm=>go ?_) fun d8 hm=>go ?_
 ·refine lV (.bool true) (Z6 (congrArg Value.bool d8) rfl)<|Zl ?_;exact ⟨rfl,_,_,hm,aa,ad,ae,rfl⟩
 refine lF aj 1 underlying27 rfl sizeOf22<|go ?_;refine lW ((ad.atN).nth (q:=1) rfl)<|go ?_;refine lF ai 1 underlying27 rfl sizeOf22<|go ?_;refine lW ((ae.atN).nth (q:=1) rfl)<|go ?_;obtain ⟨g1,g2,hm⟩:=bZ hm;refine Zh (Zo4 g2 (cp.ks aa) (cq.ks aa)) ?_;rintro _ g3 ⟨rfl,b1⟩;refine ⟨_,rfl,?_⟩;replace b1:Zf d9 ef d9 g3:=.of_below b1;refine go ?_;refine lV (.bool (!g1)) (Xg (congrArg Value.bool d8) rfl)<|Zl ?_;replace ad:=ad.gr b1;replace ae:=ae.gr b1;replace aa:=aa.grow b1;exact ⟨rfl,_,_,hm,aa,ad,ae,rfl⟩
abbrev Zhe:=ByteArray×List ByteArray×List Ra×List R2×List (List QV)
abbrev VQ:=(Bool×R5)×R5
def Yl {α:Type} (ms l:List α):Nat×List α:=(l.length,l++ms)
def Vc (x:QV):VQ:=((x.1.1,Yl [901,902] x.1.2),Yl [903,904] x.2)
def Qx (k:Int):VQ:=((false,(0,[])),([k].length,[k]))
def W0 (t:List QV):Nat×List VQ:=(t.length,t.map Vc++[Qx 97,Qx 98])
def Ys (n:Zhe):ByteArray×R6×List R6×List R5×List (Nat×List VQ):=
 (n.1,Yl [⟨#[35,49]⟩,⟨#[35,50]⟩] n.2.1,n.2.2.1.map (Yl [⟨#[35,51]⟩,⟨#[35,52]⟩]),n.2.2.2.1.map (Yl [-95,-96]),n.2.2.2.2.map W0)
structure Zjk (n:Zhe):Prop where
 nm:n.2.1.length≤1048576
 vn:n.2.2.1.length≤1048576
 vl:∀ l ∈ n.2.2.1,l.length≤1048576
 pn:n.2.2.2.1.length≤1048576
 pl:∀ l ∈ n.2.2.2.1,l.length≤1048576
 tn:n.2.2.2.2.length≤1048576
 tl:∀ t ∈ n.2.2.2.2,t.length≤1048576
 tm:∀ t ∈ n.2.2.2.2,∀ x ∈ t,x.1.2.length≤1048576∧x.2.length≤1048576
theorem Zg7 {α:Type} (ms l:List α):Xf (Yl ms l)=l:=by rw [Xf,Yl];exact List.take_left
theorem Zz4 {α:Type} (ms:List α) (L:List (List α)):(L.map (Yl ms)).map Xf=L:=by
 rw [List.map_map]
 conv=>rhs;rw [← List.map_id L]
 exact List.map_congr_left fun l _=>Zg7 ms l
theorem Z2n (x:QV):Prod.map (Prod.map id Xf) Xf (Vc x)=x:=by
 rw [Vc];simp only [Prod.map,id,Zg7]
theorem Z2o (t:List QV):Vf (Prod.map (Prod.map id Xf) Xf) (W0 t)=t:=by
 rw [Vf,W0]
 show List.map _ (List.take t.length (t.map Vc++_))=t
 rw [show t.length=(t.map Vc).length by rw [List.length_map],List.take_left,List.map_map]
 conv=>rhs;rw [← List.map_id t]
 exact List.map_congr_left fun x _=>Z2n x
theorem Zz5 (T:List (List QV)):(T.map W0).map (Vf (Prod.map (Prod.map id Xf) Xf))=T:=by
 rw [List.map_map]
 conv=>rhs;rw [← List.map_id T]
 exact List.map_congr_left fun t _=>Z2o t
theorem Zvo (n:Zhe):((Ys n).1,(Ys n).2.1.2.take (Ys n).2.1.1,(Ys n).2.2.1.map Xf,(Ys n).2.2.2.1.map Xf,(Ys n).2.2.2.2.map (Vf (Prod.map (Prod.map id Xf) Xf)))=n:=by
 rw [Ys]
 simp only [Zz4,Zz5]
 have:=Zg7 [⟨#[35,49]⟩,⟨#[35,50]⟩] n.2.1
 rw [Xf] at this
 rw [this]
theorem Zyg {x:QV} (h1:x.1.2.length≤1048576) (h2:x.2.length≤1048576):Zgr x=some (Vc x):=by
 rw [Zgr,Z5 (by simp only [List.length_nil,maxLen];omega),Z5 (by simp only [List.length_append,List.length_nil,List.length_cons,maxLen];omega),Z5 (by simp only [List.length_nil,maxLen];omega),Z5 (by simp only [List.length_append,List.length_nil,List.length_cons,maxLen];omega),Z5 (by simp only [List.length_append,List.length_nil,List.length_cons];omega),Z5 (by simp only [List.length_append,List.length_nil,List.length_cons];omega),Vc,Yl,Yl,List.nil_append,List.nil_append,Int.toNat_natCast,Int.toNat_natCast]
section
variable {N:Nat} {n:Zhe} (hs:Zjk n) (hN:1048577<N)
include hs hN
omit hN in
theorem Zra {m4:ByteArray} {m5:List ByteArray} {m9:List R6} {m13:List R5} {m17:List (Nat×List VQ)} {i:Nat} (hi:i<n.2.2.2.2.length) (hm:m17.length≤1048576) (hib:i≤1048576) (kk:ByteArray→List ByteArray→List R6→List R5→List (Nat×List VQ)→Int→Option (ByteArray×R6×List R6×List R5×List (Nat×List VQ))):∀ (f k:Nat) (l:List VQ),k≤n.2.2.2.2[i].length→n.2.2.2.2[i].length<f+k→l=(n.2.2.2.2[i].take k).map Vc→
  Zd3 N n m4 m5 m9 m13 m17 (i:Int) kk f (k:Int) l=kk m4 m5 m9 m13 (m17++[W0 n.2.2.2.2[i]]) ((i:Int)+1)
 | 0,k,l,h1,h2,_=>by omega
 | f+1,k,l,h1,h2,h3=>by
  have ht:=hs.tl _ (List.getElem_mem hi)
  have hl:l.length=k:=by rw [h3,List.length_map,List.length_take];omega
  rw [Zd3.eq_2,Zw hi,Option.bind_some]
  by_cases hk:k<n.2.2.2.2[i].length
  ·obtain ⟨x1,x2⟩:=hs.tm _ (List.getElem_mem hi) _ (List.getElem_mem hk)
   have hc:Zgr (((n.2.2.2.2[i][k]).1.1,(n.2.2.2.2[i][k]).1.2),(n.2.2.2.2[i][k]).2)=some (Vc n.2.2.2.2[i][k]):=Zyg (x:=n.2.2.2.2[i][k]) x1 x2
   rw [if_pos (decide_eq_true (by omega)),Zw hk,Option.bind_some,hc,Option.bind_some,Z5 (by simp only [List.length_singleton,maxLen];omega),Zq (by omega)]
   exact Zra hi hm hib kk f (k+1) _ (by omega) (by omega) (by rw [h3,List.take_add_one,List.getElem?_eq_getElem hk,Option.toList_some,List.map_append];rfl)
  ·have hk2:k=n.2.2.2.2[i].length:=by omega
   rw [if_neg (by rw [decide_eq_false (by omega)];decide),Z5 (by simp only [List.length_cons,List.length_nil,maxLen];omega),Z5 (by simp only [List.length_append,List.length_cons,List.length_nil];omega),Z5 (by simp only [List.length_singleton,maxLen];omega),Zq (by omega),Int.toNat_natCast,h3,hk2,List.take_length]
   rfl
theorem Zq9 {m4:ByteArray} {m5:List ByteArray} {m9:List R6} {m13:List R5}:∀ (f i:Nat) (m17:List (Nat×List VQ)),i≤n.2.2.2.2.length→n.2.2.2.2.length<f+i→m17=(n.2.2.2.2.take i).map W0→
  Zb3 N n f m4 m5 m9 m13 m17 (i:Int)=some (m4,(n.2.1.length,m5),m9,m13,n.2.2.2.2.map W0)
 | 0,i,m17,h1,h2,_=>by omega
 | f+1,i,m17,h1,h2,h3=>by
  have htn:=hs.tn
  have hl:m17.length=i:=by rw [h3,List.length_map,List.length_take];omega
  rw [Zb3.eq_2]
  by_cases hi:i<n.2.2.2.2.length
  ·have ht:=hs.tl _ (List.getElem_mem hi)
   rw [if_pos (decide_eq_true (by omega)),show (0:Int)=((0:Nat):Int) from rfl,Zra hs hi (by omega) (by omega) _ N 0 [] (by omega) (by omega) (by simp)]
   exact Zq9 f (i+1) _ (by omega) (by omega) (by rw [h3,List.take_add_one,List.getElem?_eq_getElem hi,Option.toList_some,List.map_append];rfl)
  ·rw [if_neg (by rw [decide_eq_false (by omega)];decide),h3,List.take_of_length_le (by omega),Int.toNat_natCast]
theorem Zq8 {m4:ByteArray} {m5:List ByteArray} {m9:List R6}:∀ (f i:Nat) (m13:List R5),i≤n.2.2.2.1.length→n.2.2.2.1.length<f+i→m13=(n.2.2.2.1.take i).map (Yl [-95,-96])→
  Zd2 N n f m4 m5 m9 m13 [] (i:Int)=some (m4,(n.2.1.length,m5),m9,n.2.2.2.1.map (Yl [-95,-96]),n.2.2.2.2.map W0)
 | 0,i,m13,h1,h2,_=>by omega
 | f+1,i,m13,h1,h2,h3=>by
  have hpn:=hs.pn;have htn:=hs.tn
  have hl:m13.length=i:=by rw [h3,List.length_map,List.length_take];omega
  rw [Zd2.eq_2]
  by_cases hi:i<n.2.2.2.1.length
  ·have ht:=hs.pl _ (List.getElem_mem hi)
   rw [if_pos (decide_eq_true (by omega)),Zw hi,Option.bind_some,Z5 (by simp only [List.length_nil,maxLen];omega),Z5 (by simp only [List.length_append,List.length_nil,List.length_cons,maxLen];omega),Z5 (by simp only [List.length_append,List.length_nil,List.length_cons];omega),Z5 (by simp only [List.length_singleton,maxLen];omega),Zq (by omega)]
   exact Zq8 f (i+1) _ (by omega) (by omega) (by rw [h3,List.take_add_one,List.getElem?_eq_getElem hi,Option.toList_some,List.map_append];rfl)
  ·rw [if_neg (by rw [decide_eq_false (by omega)];decide),show (0:Int)=((0:Nat):Int) from rfl,Zq9 hs hN N 0 [] (by omega) (by omega) (by simp),h3,List.take_of_length_le (by omega)]
theorem Zq7 {m4:ByteArray} {m5:List ByteArray}:∀ (f i:Nat) (m9:List R6),i≤n.2.2.1.length→n.2.2.1.length<f+i→m9=(n.2.2.1.take i).map (Yl [⟨#[35,51]⟩,⟨#[35,52]⟩])→
  Zd1 N n f m4 m5 m9 [] [] (i:Int)=some (m4,(n.2.1.length,m5),n.2.2.1.map (Yl [⟨#[35,51]⟩,⟨#[35,52]⟩]),n.2.2.2.1.map (Yl [-95,-96]),n.2.2.2.2.map W0)
 | 0,i,m9,h1,h2,_=>by omega
 | f+1,i,m9,h1,h2,h3=>by
  have hpn:=hs.vn;have htn:=hs.pn
  have hl:m9.length=i:=by rw [h3,List.length_map,List.length_take];omega
  rw [Zd1.eq_2]
  by_cases hi:i<n.2.2.1.length
  ·have ht:=hs.vl _ (List.getElem_mem hi)
   rw [if_pos (decide_eq_true (by omega)),Zw hi,Option.bind_some,Z5 (by simp only [List.length_nil,maxLen];omega),Z5 (by simp only [List.length_append,List.length_nil,List.length_cons,maxLen];omega),Z5 (by simp only [List.length_append,List.length_nil,List.length_cons];omega),Z5 (by simp only [List.length_singleton,maxLen];omega),Zq (by omega)]
   exact Zq7 f (i+1) _ (by omega) (by omega) (by rw [h3,List.take_add_one,List.getElem?_eq_getElem hi,Option.toList_some,List.map_append];rfl)
  ·rw [if_neg (by rw [decide_eq_false (by omega)];decide),show (0:Int)=((0:Nat):Int) from rfl,Zq8 hs hN N 0 [] (by omega) (by omega) (by simp),h3,List.take_of_length_le (by omega)]
theorem Zzu:Zgt N n=some (Ys n):=by
 have hnm:=hs.nm;have hvn:=hs.vn
 rw [Zgt,Z5 (by simp only [List.length_nil,maxLen];omega),Z5 (by simp only [List.length_append,List.length_nil,List.length_cons,maxLen];omega),Z5 (by simp only [List.length_append,List.length_nil,List.length_cons];omega),show (0:Int)=((0:Nat):Int) from rfl,Zq7 hs hN N 0 [] (by omega) (by omega) (by simp)]
 rfl
end
theorem Zlm {α:Type} (ms l:List α):(Yl ms l).2.take (Yl ms l).1=l:=Zg7 ms l
theorem Zms {α:Type} (ms l:List α):(Yl ms l).2.length=l.length+ms.length:=by rw [Yl];exact List.length_append
theorem Zel {α:Type} {ms l:List α} {j k:Nat} (hj:j<ms.length) (hk:l.length+j<k):Zk ((l++ms).take k) ((l.length+j:Nat):Int)=some ms[j]:=by
 rw [Vh,List.getElem?_take,if_pos hk,List.getElem?_append_right (by omega),show l.length+j - l.length=j by omega,List.getElem?_eq_getElem hj]
theorem Zve {N:Nat} {l:List ByteArray} {one two:ByteArray} (hl:l.length≤1048576):∀ (f i:Nat),i≤l.length→l.length<f+i→Zd7 N l.length (l++[one,two]) l one two f (i:Int)=some true
 | 0,i,h1,h2=>by omega
 | f+1,i,h1,h2=>by
  have e:(l++[one,two]).take l.length=l:=List.take_left
  rw [Zd7.eq_2,e]
  by_cases hi:i<l.length
  ·rw [if_pos (decide_eq_true (by omega)),Zw hi,Option.bind_some,Option.bind_some,if_neg (by rw [decide_eq_true rfl];decide),Zq (by omega)]
   exact Zve hl f (i+1) (by omega) (by omega)
  ·have a0:=Zel (ms:=[one,two]) (l:=l) (j:=0) (k:=l.length+2) (by simp) (by omega)
   have a1:=Zel (ms:=[one,two]) (l:=l) (j:=1) (k:=l.length+2) (by simp) (by omega)
   rw [if_neg (by rw [decide_eq_false (by omega)];decide),Zq (x:=(l.length:Int)+2) (by omega),Z5 (by simp only [List.length_append,List.length_cons,List.length_nil];omega),show Int.toNat ((l.length:Int)+2)=l.length+2 by omega]
   simp only [Nat.add_zero] at a0
   rw [a0,Option.bind_some,show [one,two][0]=one from rfl,if_pos (decide_eq_true rfl),Zq (by omega),show (l.length:Int)+1=((l.length+1:Nat):Int) by omega,a1,Option.bind_some,Ziu]
   simp
theorem Zvf {N:Nat} {l:List ByteArray} {one two:ByteArray} (hl:l.length≤1048576) (hN:1048577<N):Zd6 N (Yl [one,two] l).1 (Yl [one,two] l).2 l one two=some true:=by
 have e:(l++[one,two]).take l.length=l:=List.take_left
 rw [Zd6,Yl,e,if_neg (by rw [decide_eq_true rfl];decide)]
 exact Zve hl N 0 (by omega) (by omega)
theorem Zux {N:Nat} {x:QV} (h1:x.1.2.length≤1048576):∀ (f i:Nat),i≤x.1.2.length→x.1.2.length<f+i→Zaz N x x f (i:Int)=some true
 | 0,i,g1,g2=>by omega
 | f+1,i,g1,g2=>by
  rw [Zaz.eq_2]
  by_cases hi:i<x.1.2.length
  ·rw [if_pos (decide_eq_true (by omega)),Zw hi,Option.bind_some,Option.bind_some,if_neg (by rw [decide_eq_true rfl];decide),Zq (by omega)]
   exact Zux h1 f (i+1) (by omega) (by omega)
  ·rw [if_neg (by rw [decide_eq_false (by omega)];decide)]
theorem Zuw {N:Nat} {x:QV} (h1:x.1.2.length≤1048576) (h2:x.2.length≤1048576) (hN:1048577<N):∀ (f i:Nat),i≤x.2.length→x.2.length<f+i→Zay N x x f (i:Int)=some true
 | 0,i,g1,g2=>by omega
 | f+1,i,g1,g2=>by
  rw [Zay.eq_2]
  by_cases hi:i<x.2.length
  ·rw [if_pos (decide_eq_true (by omega)),Zw hi,Option.bind_some,Option.bind_some,if_neg (by rw [decide_eq_true rfl];decide),Zq (by omega)]
   exact Zuw h1 h2 hN f (i+1) (by omega) (by omega)
  ·rw [if_neg (by rw [decide_eq_false (by omega)];decide)]
   exact Zux h1 N 0 (by omega) (by omega)
theorem Z18 {N:Nat} {x:QV} (h1:x.1.2.length≤1048576) (h2:x.2.length≤1048576) (hN:1048577<N):Uh N x x=some true:=by
 rw [Uh,if_neg (by rw [decide_eq_true rfl];decide),if_neg (by rw [decide_eq_true rfl];decide),Zd5,if_neg (by rw [decide_eq_true rfl];decide)]
 exact Zuw h1 h2 hN N 0 (by omega) (by omega)
section
variable {N:Nat} {n:Zhe} (hs:Zjk n) (hN:1048577<N)
include hs hN
theorem Zqu {i:Nat} (hi:i<n.2.2.2.2.length) (kk:Int→Option Bool):∀ (f j:Nat),j≤n.2.2.2.2[i].length→n.2.2.2.2[i].length<f+j→
  Sf N (Ys n) n (i:Int) kk n.2.2.2.2[i] f (j:Int)=kk ((i:Int)+1)
 | 0,j,h1,h2=>by omega
 | f+1,j,h1,h2=>by
  have ht:=hs.tl _ (List.getElem_mem hi)
  have htn:=hs.tn
  have hm:Zk (Ys n).2.2.2.2 (i:Int)=some (W0 n.2.2.2.2[i]):=by
   rw [Vh]
   show (n.2.2.2.2.map W0)[i]?=_
   rw [List.getElem?_map,List.getElem?_eq_getElem hi];rfl
  rw [Sf.eq_2,hm,Option.bind_some,Option.bind_some]
  generalize hT:n.2.2.2.2[i]=t at *
  by_cases hj:j<t.length
  ·have hmem:t ∈ n.2.2.2.2:=by rw [← hT];exact List.getElem_mem hi
   obtain ⟨x1,x2⟩:=hs.tm _ hmem _ (List.getElem_mem hj)
   have e1:Zk ((W0 t).2.take (W0 t).1) (j:Int)=some (Vc t[j]):=by
    rw [Vh,W0,List.getElem?_take,if_pos hj,List.getElem?_append_left (by rw [List.length_map];exact hj),List.getElem?_map,List.getElem?_eq_getElem hj];rfl
   rw [if_pos (decide_eq_true (by omega)),e1,Option.bind_some]
   obtain ⟨x,hx⟩:∃ x,x=t[j]:=⟨_,rfl⟩
   rw [← hx] at x1 x2 ⊢
   have v1:(Vc x).1.2.2.take (Vc x).1.2.1=x.1.2:=Zg7 _ _
   have v2:(Vc x).2.2.take (Vc x).2.1=x.2:=Zg7 _ _
   have l1:(Vc x).1.2.2.length=x.1.2.length+2:=Zms _ _
   have l2:(Vc x).2.2.length=x.2.length+2:=Zms _ _
   have hat:Zk n.2.2.2.2 (i:Int)=some t:=by rw [Zw hi,hT]
   have sm:Uh N (((Vc x).1.1,x.1.2),x.2) ((x.1.1,x.1.2),x.2)=some true:=Z18 (x:=x) x1 x2 hN
   have t1:(Vc x).1.2.2.take (x.1.2.length+2)=x.1.2++[901,902]:=List.take_of_length_le (by rw [l1];omega)
   have t2:(Vc x).2.2.take (x.2.length+2)=x.2++[903,904]:=List.take_of_length_le (by rw [l2];omega)
   have q:∀ (l:List Int) (a b:Int),Zk (l++[a,b]) ((l.length:Int)+2 - 1)=some b∧Zk (l++[a,b]) ((l.length:Int)+2 - 2)=some a:=fun l a b=>by
    constructor
    ·rw [show (l.length:Int)+2 - 1=((l.length+1:Nat):Int) by omega,Vh,List.getElem?_append_right (by omega),show l.length+1 - l.length=1 by omega];rfl
    ·rw [show (l.length:Int)+2 - 2=((l.length:Nat):Int) by omega,Vh,List.getElem?_append_right (by omega),show l.length - l.length=0 by omega];rfl
   have ql:∀ (l:List Int) (a b:Int),((l++[a,b]).length:Int)=(l.length:Int)+2:=fun l a b=>by simp
   rw [v1,v2,l1,l2,Zq (x:=(x.1.2.length:Int)+2) (by omega),Zq (x:=(x.2.length:Int)+2) (by omega),Z5 (by omega),Z5 (by omega),hat,Option.bind_some,Zw hj,Option.bind_some,← hx,sm,Option.bind_some,if_neg (by decide),
    show Int.toNat ((x.1.2.length:Int)+2)=x.1.2.length+2 by omega,show Int.toNat ((x.2.length:Int)+2)=x.2.length+2 by omega,t1,t2,ql,ql,Zq (x:=(x.1.2.length:Int)+2 - 1) (by omega),Zq (x:=(x.1.2.length:Int)+2 - 2) (by omega),Zq (x:=(x.2.length:Int)+2 - 1) (by omega),Zq (x:=(x.2.length:Int)+2 - 2) (by omega),
    (q x.1.2 901 902).1,Option.bind_some,if_neg (by decide),(q x.1.2 901 902).2,Option.bind_some,if_neg (by decide),(q x.2 903 904).1,Option.bind_some,if_neg (by decide),(q x.2 903 904).2,Option.bind_some,Zb2,if_neg (by decide),Zq (by omega)]
   have ih:=Zqu hi kk f (j+1) (by rw [hT];omega) (by rw [hT];omega)
   rw [hT] at ih
   exact ih
  ·have b0:Zk ((W0 t).2.take (t.length+2)) (t.length:Int)=some (Qx 97):=by
    have:=Zel (ms:=[Qx 97,Qx 98]) (l:=t.map Vc) (j:=0) (k:=t.length+2) (by simp) (by rw [List.length_map];omega)
    rw [List.length_map,Nat.add_zero] at this
    exact this
   have b1:Zk ((W0 t).2.take (t.length+2)) ((t.length:Int)+1)=some (Qx 98):=by
    have:=Zel (ms:=[Qx 97,Qx 98]) (l:=t.map Vc) (j:=1) (k:=t.length+2) (by simp) (by rw [List.length_map];omega)
    rw [List.length_map] at this
    exact this
   have bl:(W0 t).2.length=t.length+2:=by rw [W0];simp
   have c0:∀ k:Int,(Qx k).2.2.take (Qx k).2.1=[k]:=fun k=>rfl
   rw [if_neg (by rw [decide_eq_false (by omega)];decide),Zq (x:=(t.length:Int)+2) (by omega),Z5 (by omega),show Int.toNat ((t.length:Int)+2)=t.length+2 by omega,b0,Option.bind_some,c0,if_neg (by decide),show Zk [(97:Int)] 0=some 97 from rfl,Option.bind_some,if_neg (by decide),Zq (x:=(t.length:Int)+1) (by omega),b1,Option.bind_some,c0,if_neg (by decide),show Zk [(98:Int)] 0=some 98 from rfl,Option.bind_some,Zdy,if_neg (by decide),Zq (by omega)]
theorem Zqt:∀ (f i:Nat),i≤n.2.2.2.2.length→n.2.2.2.2.length<f+i→Sz N (Ys n) n f (i:Int)=some true
 | 0,i,h1,h2=>by omega
 | f+1,i,h1,h2=>by
  have htn:=hs.tn
  rw [Sz.eq_2]
  by_cases hi:i<n.2.2.2.2.length
  ·have ht:=hs.tl _ (List.getElem_mem hi)
   have hm:Zk (Ys n).2.2.2.2 (i:Int)=some (W0 n.2.2.2.2[i]):=by
    rw [Vh]
    show (n.2.2.2.2.map W0)[i]?=_
    rw [List.getElem?_map,List.getElem?_eq_getElem hi];rfl
   have hl:((W0 n.2.2.2.2[i]).2.take (W0 n.2.2.2.2[i]).1).length=n.2.2.2.2[i].length:=by rw [W0,List.length_take];simp
   have h5:=Zqu hs hN hi (Sz N (Ys n) n f) N 0 (by omega) (by omega)
   rw [show ((0:Nat):Int)=0 from rfl] at h5
   rw [if_pos (decide_eq_true (by omega)),Zw hi,Option.bind_some,hm,Option.bind_some,hl,if_neg (by rw [decide_eq_true rfl];decide),h5]
   exact Zqt f (i+1) (by omega) (by omega)
  ·rw [if_neg (by rw [decide_eq_false (by omega)];decide)]
omit hN in
theorem Zqs {i:Nat} (hi:i<n.2.2.2.1.length) (kk:Int→Option Bool):∀ (f j:Nat),j≤n.2.2.2.1[i].length→n.2.2.2.1[i].length<f+j→Zd0 N (Ys n) n (i:Int) kk n.2.2.2.1[i] f (j:Int)=kk ((i:Int)+1)
 | 0,j,h1,h2=>by omega
 | f+1,j,h1,h2=>by
  have ht:=hs.pl _ (List.getElem_mem hi)
  have hpn:=hs.pn
  have hm:Zk (Ys n).2.2.2.1 (i:Int)=some (Yl [-95,-96] n.2.2.2.1[i]):=by
   rw [Vh]
   show (n.2.2.2.1.map (Yl [-95,-96]))[i]?=_
   rw [List.getElem?_map,List.getElem?_eq_getElem hi];rfl
  rw [Zd0.eq_2,hm,Option.bind_some,Option.bind_some,Zlm]
  by_cases hj:j<n.2.2.2.1[i].length
  ·rw [if_pos (decide_eq_true (by omega)),Zw hj,Option.bind_some,Zw hi,Option.bind_some,Zw hj,Option.bind_some,if_neg (by rw [decide_eq_true rfl];decide),Zq (by omega)]
   exact Zqs hi kk f (j+1) (by omega) (by omega)
  ·have a0:=Zel (ms:=[-95,-96]) (l:=n.2.2.2.1[i]) (j:=0) (k:=n.2.2.2.1[i].length+2) (by simp) (by omega)
   have a1:=Zel (ms:=[-95,-96]) (l:=n.2.2.2.1[i]) (j:=1) (k:=n.2.2.2.1[i].length+2) (by simp) (by omega)
   simp only [Nat.add_zero] at a0
   have hl:(Yl [-95,-96] n.2.2.2.1[i]).2=n.2.2.2.1[i]++[-95,-96]:=rfl
   rw [if_neg (by rw [decide_eq_false (by omega)];decide),Zq (x:=(n.2.2.2.1[i].length:Int)+2) (by omega),Z5 (by rw [Zms];simp only [List.length_cons,List.length_nil];omega),show Int.toNat ((n.2.2.2.1[i].length:Int)+2)=n.2.2.2.1[i].length+2 by omega,hl,a0,Option.bind_some,if_neg (by decide),Zq (by omega),show (n.2.2.2.1[i].length:Int)+1=((n.2.2.2.1[i].length+1:Nat):Int) by omega,a1,Option.bind_some,Zis,if_neg (by decide),Zq (by omega)]
theorem Zqr:∀ (f i:Nat),i≤n.2.2.2.1.length→n.2.2.2.1.length<f+i→Qw N (Ys n) n f (i:Int)=some true
 | 0,i,h1,h2=>by omega
 | f+1,i,h1,h2=>by
  have htn:=hs.pn;have htn2:=hs.tn
  rw [Qw.eq_2]
  by_cases hi:i<n.2.2.2.1.length
  ·have ht:=hs.pl _ (List.getElem_mem hi)
   have hm:Zk (Ys n).2.2.2.1 (i:Int)=some (Yl [-95,-96] n.2.2.2.1[i]):=by
    rw [Vh]
    show (n.2.2.2.1.map (Yl [-95,-96]))[i]?=_
    rw [List.getElem?_map,List.getElem?_eq_getElem hi];rfl
   have h5:=Zqs (N:=N) hs hi (Qw N (Ys n) n f) N 0 (by omega) (by omega)
   rw [show ((0:Nat):Int)=0 from rfl] at h5
   rw [if_pos (decide_eq_true (by omega)),Zw hi,Option.bind_some,hm,Option.bind_some,Zlm,if_neg (by rw [decide_eq_true rfl];decide),h5]
   exact Zqr f (i+1) (by omega) (by omega)
  ·rw [if_neg (by rw [decide_eq_false (by omega)];decide)]
   exact Zqt hs hN N 0 (by omega) (by omega)
theorem Zqq:∀ (f i:Nat),i≤n.2.2.1.length→n.2.2.1.length<f+i→Zdz N (Ys n) n f (i:Int)=some true
 | 0,i,h1,h2=>by omega
 | f+1,i,h1,h2=>by
  have htn:=hs.vn;have htn2:=hs.pn
  rw [Zdz.eq_2]
  by_cases hi:i<n.2.2.1.length
  ·have ht:=hs.vl _ (List.getElem_mem hi)
   have hm:Zk (Ys n).2.2.1 (i:Int)=some (Yl [⟨#[35,51]⟩,⟨#[35,52]⟩] n.2.2.1[i]):=by
    rw [Vh]
    show (n.2.2.1.map (Yl [⟨#[35,51]⟩,⟨#[35,52]⟩]))[i]?=_
    rw [List.getElem?_map,List.getElem?_eq_getElem hi];rfl
   rw [if_pos (decide_eq_true (by omega)),hm,Option.bind_some,Zw hi,Option.bind_some,Zvf ht hN,Option.bind_some,if_neg (by decide),Zq (by omega)]
   exact Zqq f (i+1) (by omega) (by omega)
  ·rw [if_neg (by rw [decide_eq_false (by omega)];decide)]
   exact Zqr hs hN N 0 (by omega) (by omega)
theorem Zzk:Zdx N (Ys n) n=some true:=by
 have h1:=hs.nm;have h2:=hs.vn
 have l1:(Ys n).2.2.1.length=n.2.2.1.length:=by show (n.2.2.1.map _).length=_;rw [List.length_map]
 have l2:(Ys n).2.2.2.1.length=n.2.2.2.1.length:=by show (n.2.2.2.1.map _).length=_;rw [List.length_map]
 have l3:(Ys n).2.2.2.2.length=n.2.2.2.2.length:=by show (n.2.2.2.2.map _).length=_;rw [List.length_map]
 have t1:Zd6 N (Ys n).2.1.1 (Ys n).2.1.2 n.2.1 (⟨#[35,49]⟩) (⟨#[35,50]⟩)=some true:=Zvf h1 hN
 rw [Zdx,l1,l2,l3,if_neg (by rw [show (Ys n).1=n.1 from rfl,decide_eq_true rfl];decide),if_neg (by rw [decide_eq_true rfl];decide),if_neg (by rw [decide_eq_true rfl];decide),if_neg (by rw [decide_eq_true rfl];decide),t1,Option.bind_some,Zb1,if_neg (by decide)]
 exact Zqq hs hN N 0 (by omega) (by omega)
end
theorem Zps:Ws Tryz.prog 79 1 4:=⟨Tryz.t79,_,rfl,rfl,rfl,rfl,rfl⟩
def Zds (N:Nat) (ad:Int) (ab:Int) (kk_L1:(R8→Int→Int→Option Rf)):Nat→R8→Int→Option Rf
  | 0,_,_=>none
  | af+1,ae,ac=>(Zk ae ab).bind fun aa=>if (decide (ac<(aa.2.length:Int)))=true then ((Zk aa.2 ac).bind fun ah=>(some (aa.2.set (Int.toNat ac) (u32.wrap (ad+1)))).bind fun ag=>(Zds N ad ab kk_L1 af) (ae.set (Int.toNat ab) ((aa.1.1,aa.1.2),ag)) (i64.wrap (ac+1))) else (kk_L1 ae (u32.wrap (ad+2)) (i64.wrap (ab+1)))
termination_by structural x=>x
def Zdr (N:Nat) (ad:Int) (ab:Int) (kk_L1:(R8→Int→Int→Option Rf)):Nat→R8→Int→Option Rf
  | 0,_,_=>none
  | af+1,ae,ac=>(Zk ae ab).bind fun aa=>if (decide (ac<(aa.1.2.length:Int)))=true then ((Zk aa.1.2 ac).bind fun ah=>(some (aa.1.2.set (Int.toNat ac) ad)).bind fun ag=>(Zdr N ad ab kk_L1 af) (ae.set (Int.toNat ab) ((aa.1.1,ag),aa.2)) (i64.wrap (ac+1))) else (Zds N ad ab kk_L1 N ae 0)
termination_by structural x=>x
def Zdu (N:Nat) (ab:Int) (kk_L4:(Int→Option Rf)):Nat→R2→Int→Option Rf
  | 0,_,_=>none
  | ad+1,aa,ac=>if (decide (ac<12))=true then (Zy ((aa.length+[8].length) * 4≤140737488355328∧aa.length+[8].length≤maxLen) ((Zdu N ab kk_L4 ad) (aa++[8]) (i64.wrap (ac+1)))) else (kk_L4 (i64.wrap (ab+1)))
termination_by structural x=>x
def Zdt (N:Nat) (ab:Int) (kk_L4:(Int→Option Rf)) (ac:R0):Nat→R2→Int→Option Rf
  | 0,_,_=>none
  | ae+1,aa,ad=>if (decide (ad<12))=true then (Zy ((aa.length+[7].length) * 4≤140737488355328∧aa.length+[7].length≤maxLen) ((Zdt N ab kk_L4 ac ae) (aa++[7]) (i64.wrap (ad+1)))) else (Zdu N ab kk_L4 N ac.2 0)
termination_by structural x=>x
def Zdw (N:Nat) (aa:List R0) (ab:Int) (ac:Int) (kk_L7:(Int→Int→Option Rf)):Nat→Int→Option Rf
  | 0,_=>none
  | af+1,ad=>(Zk aa ab).bind fun ae=>if (decide (ad<(ae.2.length:Int)))=true then ((Zk ae.2 ad).bind fun ag=>if (!decide (ag=(u32.wrap (ac+1))))=true then (some (false,aa)) else ((Zdw N aa ab ac kk_L7 af) (i64.wrap (ad+1)))) else (kk_L7 (i64.wrap (ab+1)) (u32.wrap (ac+2)))
termination_by structural x=>x
def Zdv (N:Nat) (aa:List R0) (ab:Int) (ac:Int) (kk_L7:(Int→Int→Option Rf)):Nat→Int→Option Rf
  | 0,_=>none
  | af+1,ad=>(Zk aa ab).bind fun ae=>if (decide (ad<(ae.1.2.length:Int)))=true then ((Zk ae.1.2 ad).bind fun ag=>if (!decide (ag=ac))=true then (some (false,aa)) else ((Zdv N aa ab ac kk_L7 af) (i64.wrap (ad+1)))) else (Zdw N aa ab ac kk_L7 N 0)
termination_by structural x=>x
def Sy (N:Nat) (aa:List R0):Nat→Int→Int→Option Rf
  | 0,_,_=>none
  | ac+1,ab,ad=>if (decide (ab<(aa.length:Int)))=true then (Zdv N aa ab ad (Sy N aa ac) N 0) else (some (true,aa))
termination_by structural x=>x
def Sx (N:Nat) (aa:List R0):Nat→Int→Option Rf
  | 0,_=>none
  | ad+1,ab=>if (decide (ab<(aa.length:Int)))=true then ((Zk aa ab).bind fun ac=>Zdt N ab (Sx N aa ad) ac N ac.1.2 0) else (Sy N aa N 0 1000)
termination_by structural x=>x
def Qv (N:Nat):Nat→R8→Int→Int→Option Rf
  | 0,_,_,_=>none
  | ac+1,aa,ad,ab=>if (decide (ab<(aa.length:Int)))=true then (Zdr N ad ab (Qv N ac) N aa 0) else (Sx N aa N 0)
termination_by structural x=>x
def Zgs (N:Nat) (aa:R8):Option Rf:=
  Qv N N aa 1000 0
theorem Zxq {N ac:Nat} {a0:Option Addr} {col:Zd} {w0:World} {aj:R8} {r:Rf} (qc0:Nat) (hm:Zgs N aj=some r) (hd:Sp [qc0]=true) (h0:Zc (Za.pair (Za.pair Za.bool (Za.row 79 (Za.int .u32))) (Za.row 79 (Za.int .u32))) 47 qc0 col w0 a0 ac aj):
    Calls Tryz.prog 27 #[.slice a0 aj.length ac] w0 (fun e w'=>∃ (col':Zd),e= .returned ((.bool r.1))∧Z2 (pS [qc0]) col w0 col' w'∧Zc (Za.pair (Za.pair Za.bool (Za.row 79 (Za.int .u32))) (Za.row 79 (Za.int .u32))) 47 qc0 col' w' a0 ac r.2∧r.2.length=aj.length):=by
 refine Xb 2 (m:=144) func27 rfl rfl rfl rfl rfl ?_;rw [Zgs.eq_1] at hm;have aa:=St.startL (l:=[qc0]) rfl col w0;replace h0:=h0.startL (Q6 hd 0 rfl) (Q5 hd 0 rfl);refine go ?_;refine Zx [1000000] (fun n f b2=>∃ b3 ad au ae aw,aw=n∧Qv N aw ad au ae=some r∧St w0 (Xm [qc0] col) b3 b2∧Zc (Za.pair (Za.pair Za.bool (Za.row 79 (Za.int .u32))) (Za.row 79 (Za.int .u32))) 47 440 b3 b2 a0 ac ad∧ad.length=aj.length∧ad.length=aj.length∧[0,3,4].map f=[.slice a0 ad.length ac,.int .u32 au,.int .i64 ae]) N ⟨_,_,1000,0,_,rfl,hm,aa,h0,rfl,rfl,rfl⟩ ?_;clear hm;intro n f b2 hI;obtain ⟨b3,ad,au,ae,aw,hn,hm,aa,ab,dn,bn,hs⟩:=hI;subst hn;refine .lL [0,3,4] hs ?_
 cases aw with
 | zero=>rw [Qv.eq_1] at hm;cases hm
 | succ aw=>
  rw [Qv.eq_2] at hm;refine go ?_;refine Zp hm (fun hb hm=>go ?_) fun hb hm=>go ?_
  ·refine Zx [3,4,1000000] (fun n f bo=>∃ b4 ak bp a4,a4=n∧Zdr N au ae (Qv N aw) a4 ak bp=some r∧St w0 (Xm [qc0] col) b4 bo∧Zc (Za.pair (Za.pair Za.bool (Za.row 79 (Za.int .u32))) (Za.row 79 (Za.int .u32))) 47 440 b4 bo a0 ac ak∧ak.length=aj.length∧ak.length=aj.length∧[0,5].map f=[.slice a0 ak.length ac,.int .i64 bp]) N ⟨_,_,0,_,rfl,hm,aa,ab,dn,bn,rfl⟩ ?_;clear hm;intro n f bo hI;obtain ⟨b4,ak,bp,a4,hn,hm,aa,av,cw,dp,hs⟩:=hI;subst hn;refine .lL [0,5] hs ?_
   cases a4 with
   | zero=>rw [Zdr.eq_1] at hm;cases hm
   | succ a4=>
    rw [Zdr.eq_2] at hm;refine go ?_;obtain ⟨ah,aq,hm⟩:=bZ hm;refine lI aq (av.addr aq)<|lv (v:=(.pointer ((a0.map (·.add (Int.toNat ae * 3))).map (·.add 0)))) rfl rfl (Zu (sz:=2) (off:=0) underlying47 rfl sizeOf45 (by decide) rfl rfl (Ya (av.addr aq)))<|lv (v:=(.pointer (((a0.map (·.add (Int.toNat ae * 3))).map (·.add 0)).map (·.add 1)))) rfl rfl (Zu (sz:=1) (off:=1) underlying45 rfl sizeOf43 (by decide) rfl rfl (Ya (Ya (av.addr aq)))) ?_;obtain ⟨_,dq,dr⟩:=av.atN aq;obtain ⟨_,_,rfl,ds,dt⟩:=dq.parts;obtain ⟨_,_,rfl,du,dv⟩:=ds.parts;obtain rfl:=du.bool;obtain ⟨fw,fx,rfl,fy⟩:=dv.row;obtain ⟨fz,f0,rfl,f1⟩:=dt.row;refine lW ((((dr).part 0 2 _ rfl)).nth (q:=1) rfl)<|go ?_;refine Zp hm (fun hb hm=>go ?_) fun hb hm=>go ?_
    ·refine lI aq (av.addr aq)<|lv (v:=(.pointer ((a0.map (·.add (Int.toNat ae * 3))).map (·.add 0)))) rfl rfl (Zu (sz:=2) (off:=0) underlying47 rfl sizeOf45 (by decide) rfl rfl (Ya (av.addr aq)))<|lv (v:=(.pointer (((a0.map (·.add (Int.toNat ae * 3))).map (·.add 0)).map (·.add 1)))) rfl rfl (Zu (sz:=1) (off:=1) underlying45 rfl sizeOf43 (by decide) rfl rfl (Ya (Ya (av.addr aq)))) ?_;obtain ⟨_,f2,dw,al,dx⟩:=av.open_ 1 (by decide) aq;obtain ⟨_,_,cx,rfl,cy,dy,dz⟩:=dx.split 2 (by decide);obtain ⟨_,_,rfl,d0,d1⟩:=dy.parts;obtain rfl:=d0.bool;obtain ⟨cz,c0,rfl,c1⟩:=d1.row;obtain ⟨c3,c4,rfl,b5⟩:=dz.row;replace al:=al.kpp cy;replace al:Yd (Za.pair (Za.pair Za.bool (Za.row 79 (Za.int .u32))) (Za.row 79 (Za.int .u32))) 47 440 cx bo a0 ac ak (Int.toNat ae) [.bool ah.1.1,.slice cz ah.1.2.length c0,.slice c3 ah.2.length c4]:=al;refine lW ((((al.atN).part 0 2 _ rfl)).nth (q:=1) rfl)<|go ?_;obtain ⟨f3,b6,hm⟩:=bZ hm;refine lI b6 (c1.addr b6) ?_;obtain ⟨a5,bq,hm⟩:=bZ hm;have bq:a5=ah.1.2.set (Int.toNat bp) au:=(Option.some.inj bq).symm;refine Yw (x1:=au) c1 b6 ?_;intro d2 b7 d3 c5;rw [← bq] at c5;replace al:=al.kp b7;replace al:Yd (Za.pair (Za.pair Za.bool (Za.row 79 (Za.int .u32))) (Za.row 79 (Za.int .u32))) 47 440 cx d2 a0 ac ak (Int.toNat ae) [.bool ah.1.1,.slice cz a5.length c0,.slice c3 ah.2.length c4]:=by rw [← (show ah.1.2.length=a5.length by rw [bq,List.length_set])];exact al
     replace b5:=b5.kp b7;have d4:=X4.join (X4.joinL (Tq ah.1.1) c5.has) b5.has (by decide) (by decide);replace al:=al.recol 2 1 (by decide);replace aa:=((aa.kpp dw).kpp cy).kp b7 d3;replace aa:=aa.recol 2 1 (by decide) (by decide);have d5:=al.close d4 (by decide) (by decide);have c6:(ak.set (Int.toNat ae) ((ah.1.1,a5),ah.2)).length=aj.length:=by rw [List.length_set];exact cw
     replace aa:=aa.recol 1 440 (by decide) (by decide);refine .ld (d:=0) (v:=(.slice a0 ((ak.set (Int.toNat ae) ((ah.1.1,a5),ah.2)).length) ac)) (congrArg (fun n=>Value.slice a0 n ac) (show ak.length=(ak.set (Int.toNat ae) ((ah.1.1,a5),ah.2)).length by simp only [List.length_set])) ?_;refine go ?_;exact ⟨a4,by omega,rfl,⟨_,_,_,_,rfl,hm,aa,d5,c6,c6,rfl⟩⟩
    refine Zx [3,4,1000000] (fun n f br=>∃ b8 am bs a6,a6=n∧Zds N au ae (Qv N aw) a6 am bs=some r∧St w0 (Xm [qc0] col) b8 br∧Zc (Za.pair (Za.pair Za.bool (Za.row 79 (Za.int .u32))) (Za.row 79 (Za.int .u32))) 47 440 b8 br a0 ac am∧am.length=aj.length∧am.length=aj.length∧[0,6].map f=[.slice a0 am.length ac,.int .i64 bs]) N ⟨_,_,0,_,rfl,hm,aa,av,cw,dp,rfl⟩ ?_;clear hm;intro n f br hI;obtain ⟨b8,am,bs,a6,hn,hm,aa,a2,c7,d6,hs⟩:=hI;subst hn;refine .lL [0,6] hs ?_
    cases a6 with
    | zero=>rw [Zds.eq_1] at hm;cases hm
    | succ a6=>
     rw [Zds.eq_2] at hm;refine go ?_;obtain ⟨ai,ax,hm⟩:=bZ hm;refine lI ax (a2.addr ax)<|lv (v:=(.pointer ((a0.map (·.add (Int.toNat ae * 3))).map (·.add 2)))) rfl rfl (Zu (sz:=1) (off:=2) underlying47 rfl sizeOf43 (by decide) rfl rfl (Ya (a2.addr ax))) ?_;obtain ⟨_,d7,d8⟩:=a2.atN ax;obtain ⟨_,_,rfl,d9,ea⟩:=d7.parts;obtain ⟨_,_,rfl,eb,ec⟩:=d9.parts;obtain rfl:=eb.bool;obtain ⟨f4,f5,rfl,f6⟩:=ec.row;obtain ⟨f7,f8,rfl,f9⟩:=ea.row;refine lW ((d8).nth (q:=2) rfl)<|go ?_;refine Zp hm (fun hb hm=>go ?_) fun hb hm=>go ?_
     ·refine lI ax (a2.addr ax)<|lv (v:=(.pointer ((a0.map (·.add (Int.toNat ae * 3))).map (·.add 2)))) rfl rfl (Zu (sz:=1) (off:=2) underlying47 rfl sizeOf43 (by decide) rfl rfl (Ya (a2.addr ax))) ?_;obtain ⟨_,ga,ed,an,ee⟩:=a2.open_ 3 (by decide) ax;obtain ⟨_,_,c8,rfl,c9,ef,eg⟩:=ee.split 4 (by decide);obtain ⟨_,_,rfl,eh,ei⟩:=ef.parts;obtain rfl:=eh.bool;obtain ⟨da,db,rfl,b9⟩:=ei.row;obtain ⟨dc,dd,rfl,de⟩:=eg.row;replace an:=an.kpp c9;replace an:Yd (Za.pair (Za.pair Za.bool (Za.row 79 (Za.int .u32))) (Za.row 79 (Za.int .u32))) 47 440 c8 br a0 ac am (Int.toNat ae) [.bool ai.1.1,.slice da ai.1.2.length db,.slice dc ai.2.length dd]:=an;refine lW ((an.atN).nth (q:=2) rfl)<|go ?_;obtain ⟨gb,ca,hm⟩:=bZ hm;refine lI ca (de.addr ca) ?_;obtain ⟨a7,bt,hm⟩:=bZ hm;have bt:a7=ai.2.set (Int.toNat bs) (u32.wrap (au+1)):=(Option.some.inj bt).symm;refine Yw (x1:=u32.wrap (au+1)) de ca ?_;intro ej cb ek df;rw [← bt] at df;replace an:=an.kp cb;replace an:Yd (Za.pair (Za.pair Za.bool (Za.row 79 (Za.int .u32))) (Za.row 79 (Za.int .u32))) 47 440 c8 ej a0 ac am (Int.toNat ae) [.bool ai.1.1,.slice da ai.1.2.length db,.slice dc a7.length dd]:=by rw [← (show ai.2.length=a7.length by rw [bt,List.length_set])];exact an
      replace b9:=b9.kp cb;have el:=X4.join (X4.joinL (Tq ai.1.1) b9.has) df.has (by decide) (by decide);replace an:=an.recol 4 3 (by decide);replace aa:=((aa.kpp ed).kpp c9).kp cb ek;replace aa:=aa.recol 4 3 (by decide) (by decide);have em:=an.close el (by decide) (by decide);have dg:(am.set (Int.toNat ae) ((ai.1.1,ai.1.2),a7)).length=aj.length:=by rw [List.length_set];exact c7
      replace aa:=aa.recol 3 440 (by decide) (by decide);refine .ld (d:=0) (v:=(.slice a0 ((am.set (Int.toNat ae) ((ai.1.1,ai.1.2),a7)).length) ac)) (congrArg (fun n=>Value.slice a0 n ac) (show am.length=(am.set (Int.toNat ae) ((ai.1.1,ai.1.2),a7)).length by simp only [List.length_set])) ?_;refine go ?_;exact ⟨a6,by omega,rfl,⟨_,_,_,_,rfl,hm,aa,em,dg,dg,rfl⟩⟩
     exact ⟨aw,by omega,rfl,⟨_,_,_,_,_,rfl,hm,aa,a2,c7,d6,rfl⟩⟩
  refine Zx [0,1000000] (fun n f bu=>∃ cc ao ay,ay=n∧Sx N ad ay ao=some r∧St w0 (Xm [qc0] col) cc bu∧Zc (Za.pair (Za.pair Za.bool (Za.row 79 (Za.int .u32))) (Za.row 79 (Za.int .u32))) 47 440 cc bu a0 ac ad∧[7].map f=[.int .i64 ao]) N ⟨_,0,_,rfl,hm,aa,ab,rfl⟩ ?_;clear hm;intro n f bu hI;obtain ⟨cc,ao,ay,hn,hm,aa,ab,hs⟩:=hI;subst hn;refine .lL [7] hs ?_
  cases ay with
  | zero=>rw [Sx.eq_1] at hm;cases hm
  | succ ay=>
   rw [Sx.eq_2] at hm;refine go ?_;refine Zp hm (fun hb hm=>go ?_) fun hb hm=>go ?_
   ·obtain ⟨ag,a3,hm⟩:=bZ hm;refine lI a3 (ab.addr a3)<|lv (v:=(.pointer ((a0.map (·.add (Int.toNat ao * 3))).map (·.add 0)))) rfl rfl (Zu (sz:=2) (off:=0) underlying47 rfl sizeOf45 (by decide) rfl rfl (Ya (ab.addr a3)))<|lv (v:=(.pointer (((a0.map (·.add (Int.toNat ao * 3))).map (·.add 0)).map (·.add 1)))) rfl rfl (Zu (sz:=1) (off:=1) underlying45 rfl sizeOf43 (by decide) rfl rfl (Ya (Ya (ab.addr a3)))) ?_;obtain ⟨_,gc,en,af,eo⟩:=ab.open_ 5 (by decide) a3;obtain ⟨_,_,ep,rfl,dh,eq,er⟩:=eo.split 6 (by decide);obtain ⟨_,_,rfl,es,et⟩:=eq.parts;obtain rfl:=es.bool;obtain ⟨bg,bh,rfl,eu⟩:=et.row;obtain ⟨bi,bj,rfl,a8⟩:=er.row;replace af:=af.kpp dh;replace af:Yd (Za.pair (Za.pair Za.bool (Za.row 79 (Za.int .u32))) (Za.row 79 (Za.int .u32))) 47 440 ep bu a0 ac ad (Int.toNat ao) [.bool ag.1.1,.slice bg ag.1.2.length bh,.slice bi ag.2.length bj]:=af;refine lW ((((af.atN).part 0 2 _ rfl)).nth (q:=1) rfl)<|go ?_;refine lI a3 (af.addr)<|lv (v:=(.pointer ((a0.map (·.add (Int.toNat ao * 3))).map (·.add 2)))) rfl rfl (Zu (sz:=1) (off:=2) underlying47 rfl sizeOf43 (by decide) rfl rfl (Ya (af.addr)))<|lW ((af.atN).nth (q:=2) rfl) ?_;refine go ?_;have ev:=eu.ex;replace aa:=(aa.kpp en).kpp dh;refine Zx [0,7,9,1000000] (fun n f bk=>∃ a9 cd ce bv cf ba,ba=n∧Zdt N ao (Sx N ad ay) ag ba bv cf=some r∧St w0 (Xm [qc0] col) a9 bk∧Ex (Za.int .u32) 79 5 a9 bk bg bh ag.1.2 cd ce bv∧Zc (Za.int .u32) 79 6 a9 bk bi bj ag.2∧Yd (Za.pair (Za.pair Za.bool (Za.row 79 (Za.int .u32))) (Za.row 79 (Za.int .u32))) 47 440 a9 bk a0 ac ad (Int.toNat ao) [.bool ag.1.1,.slice bg ag.1.2.length bh,.slice bi ag.2.length bj]∧[10,8].map f=[.int .i64 cf,.slice cd bv.length ce]) N ⟨_,_,_,_,0,_,rfl,hm,aa,ev,a8,af,rfl⟩ ?_;clear hm;intro n f bk hI;obtain ⟨a9,cd,ce,bv,cf,ba,hn,hm,aa,bw,a8,af,hs⟩:=hI;subst hn;refine .lL [10,8] hs ?_
    cases ba with
    | zero=>rw [Zdt.eq_1] at hm;cases hm
    | succ ba=>
     rw [Zdt.eq_2] at hm;refine go ?_;refine Zp hm (fun hb hm=>go ?_) fun hb hm=>go ?_
     ·refine Wv (col:=a9) [7] 7 ?_;intro gd ew ey bx ez;obtain ⟨di,hm⟩:=Z0 hm;replace bw:=bw.gr bx;refine Zbc (col:=ey) (w:=ew) (r:=(Za.int .u32)) (c:=5) (c2:=5) bw (ez.srcN (NB.int (k:=.u32))) rfl underlying43 Zps rfl rfl rfl di.1 di.2 (by decide) ?_;intro ge gf gg gh cg e0;refine go ?_;replace af:=(af.gr bx).kpp cg;replace a8:=(a8.gr bx).kpp cg;replace aa:=(aa.grow bx).kpp cg;exact ⟨ba,by omega,rfl,⟨_,_,_,_,_,_,rfl,hm,aa,e0,a8,af,rfl⟩⟩
     have bb:=bw.old;refine go ?_;have e1:=a8.ex;refine Zx [0,7,1000000] (fun n f bl=>∃ bc ch ci bz cj bd,bd=n∧Zdu N ao (Sx N ad ay) bd bz cj=some r∧St w0 (Xm [qc0] col) bc bl∧Zc (Za.int .u32) 79 5 bc bl bg bh ag.1.2∧Ex (Za.int .u32) 79 6 bc bl bi bj ag.2 ch ci bz∧Yd (Za.pair (Za.pair Za.bool (Za.row 79 (Za.int .u32))) (Za.row 79 (Za.int .u32))) 47 440 bc bl a0 ac ad (Int.toNat ao) [.bool ag.1.1,.slice bg ag.1.2.length bh,.slice bi ag.2.length bj]∧[11,9].map f=[.int .i64 cj,.slice ch bz.length ci]) N ⟨_,_,_,_,0,_,rfl,hm,aa,bb,e1,af,rfl⟩ ?_;clear hm;intro n f bl hI;obtain ⟨bc,ch,ci,bz,cj,bd,hn,hm,aa,bb,b0,af,hs⟩:=hI;subst hn;refine .lL [11,9] hs ?_
     cases bd with
     | zero=>rw [Zdu.eq_1] at hm;cases hm
     | succ bd=>
      rw [Zdu.eq_2] at hm;refine go ?_;refine Zp hm (fun hb hm=>go ?_) fun hb hm=>go ?_
      ·refine Wv (col:=bc) [8] 8 ?_;intro gi e2 e3 b1 e4;obtain ⟨dj,hm⟩:=Z0 hm;replace b0:=b0.gr b1;refine Zbc (col:=e3) (w:=e2) (r:=(Za.int .u32)) (c:=6) (c2:=6) b0 (e4.srcN (NB.int (k:=.u32))) rfl underlying43 Zps rfl rfl rfl dj.1 dj.2 (by decide) ?_;intro gj gk gl gm ck e5;refine go ?_;replace af:=(af.gr b1).kpp ck;replace bb:=(bb.gr b1).kpp ck;replace aa:=(aa.grow b1).kpp ck;exact ⟨bd,by omega,rfl,⟨_,_,_,_,_,_,rfl,hm,aa,bb,e5,af,rfl⟩⟩
      have e6:=b0.old;have e7:=X4.join (X4.joinL (Tq ag.1.1) bb.has) e6.has (by decide) (by decide);replace af:=af.recol 6 5 (by decide);replace aa:=aa.recol 6 5 (by decide) (by decide);have dk:=af.close e7 (by decide) (by decide);rw [Z2b a3] at dk;replace aa:=aa.recol 5 440 (by decide) (by decide);refine go ?_;exact ⟨ay,by omega,rfl,⟨_,_,_,rfl,hm,aa,dk,rfl⟩⟩
   refine Zx [0,1000000] (fun n f cl=>∃ cn ap bm az,az=n∧Sy N ad az ap bm=some r∧St w0 (Xm [qc0] col) cn cl∧Zc (Za.pair (Za.pair Za.bool (Za.row 79 (Za.int .u32))) (Za.row 79 (Za.int .u32))) 47 440 cn cl a0 ac ad∧[12,3].map f=[.int .i64 ap,.int .u32 bm]) N ⟨_,0,1000,_,rfl,hm,aa,ab,rfl⟩ ?_;clear hm;intro n f cl hI;obtain ⟨cn,ap,bm,az,hn,hm,aa,ab,hs⟩:=hI;subst hn;refine .lL [12,3] hs ?_
   cases az with
   | zero=>rw [Sy.eq_1] at hm;cases hm
   | succ az=>
    rw [Sy.eq_2] at hm;refine go ?_;refine Zp hm (fun hb hm=>go ?_) fun hb hm=>go ?_
    ·refine Zx [0,12,3,1000000] (fun n f co=>∃ cp cq be,be=n∧Zdv N ad ap bm (Sy N ad az) be cq=some r∧St w0 (Xm [qc0] col) cp co∧Zc (Za.pair (Za.pair Za.bool (Za.row 79 (Za.int .u32))) (Za.row 79 (Za.int .u32))) 47 440 cp co a0 ac ad∧[13].map f=[.int .i64 cq]) N ⟨_,0,_,rfl,hm,aa,ab,rfl⟩ ?_;clear hm;intro n f co hI;obtain ⟨cp,cq,be,hn,hm,aa,ab,hs⟩:=hI;subst hn;refine .lL [13] hs ?_
     cases be with
     | zero=>rw [Zdv.eq_1] at hm;cases hm
     | succ be=>
      rw [Zdv.eq_2] at hm;refine go ?_;obtain ⟨gn,ar,hm⟩:=bZ hm;refine lI ar (ab.addr ar)<|lv (v:=(.pointer ((a0.map (·.add (Int.toNat ap * 3))).map (·.add 0)))) rfl rfl (Zu (sz:=2) (off:=0) underlying47 rfl sizeOf45 (by decide) rfl rfl (Ya (ab.addr ar)))<|lv (v:=(.pointer (((a0.map (·.add (Int.toNat ap * 3))).map (·.add 0)).map (·.add 1)))) rfl rfl (Zu (sz:=1) (off:=1) underlying45 rfl sizeOf43 (by decide) rfl rfl (Ya (Ya (ab.addr ar)))) ?_;obtain ⟨_,e8,e9⟩:=ab.atN ar;obtain ⟨_,_,rfl,fa,fb⟩:=e8.parts;obtain ⟨_,_,rfl,fc,fd⟩:=fa.parts;obtain rfl:=fc.bool;obtain ⟨gp,gq,rfl,gs⟩:=fd.row;obtain ⟨gt,gu,rfl,gv⟩:=fb.row;refine lW ((((e9).part 0 2 _ rfl)).nth (q:=1) rfl)<|go ?_;refine Zp hm (fun hb hm=>go ?_) fun hb hm=>go ?_
      ·refine lI ar (ab.addr ar)<|lv (v:=(.pointer ((a0.map (·.add (Int.toNat ap * 3))).map (·.add 0)))) rfl rfl (Zu (sz:=2) (off:=0) underlying47 rfl sizeOf45 (by decide) rfl rfl (Ya (ab.addr ar)))<|lv (v:=(.pointer (((a0.map (·.add (Int.toNat ap * 3))).map (·.add 0)).map (·.add 1)))) rfl rfl (Zu (sz:=1) (off:=1) underlying45 rfl sizeOf43 (by decide) rfl rfl (Ya (Ya (ab.addr ar)))) ?_;obtain ⟨_,fe,ff⟩:=ab.atN ar;obtain ⟨_,_,rfl,fg,fh⟩:=fe.parts;obtain ⟨_,_,rfl,fi,fj⟩:=fg.parts;obtain rfl:=fi.bool;obtain ⟨gw,gx,rfl,dl⟩:=fj.row;obtain ⟨gy,gz,rfl,g0⟩:=fh.row;refine lW ((((ff).part 0 2 _ rfl)).nth (q:=1) rfl)<|Xu rfl ?_;obtain ⟨g1,cr,hm⟩:=bZ hm;refine lI cr (dl.addr cr)<|lW (dl.atInt cr) ?_;refine go ?_;refine Zp hm (fun hb hm=>go ?_) fun hb hm=>go ?_
       ·cases hm;exact ⟨rfl,_,rfl,aa.finL rfl (cm [(440,qc0)]),aa.foL ab,bn⟩
       exact ⟨be,by omega,rfl,⟨_,_,_,rfl,hm,aa,ab,rfl⟩⟩
      refine Zx [0,12,3,1000000] (fun n f cs=>∃ ct cu bf,bf=n∧Zdw N ad ap bm (Sy N ad az) bf cu=some r∧St w0 (Xm [qc0] col) ct cs∧Zc (Za.pair (Za.pair Za.bool (Za.row 79 (Za.int .u32))) (Za.row 79 (Za.int .u32))) 47 440 ct cs a0 ac ad∧[14].map f=[.int .i64 cu]) N ⟨_,0,_,rfl,hm,aa,ab,rfl⟩ ?_;clear hm;intro n f cs hI;obtain ⟨ct,cu,bf,hn,hm,aa,ab,hs⟩:=hI;subst hn;refine .lL [14] hs ?_
      cases bf with
      | zero=>rw [Zdw.eq_1] at hm;cases hm
      | succ bf=>
       rw [Zdw.eq_2] at hm;refine go ?_;obtain ⟨g2,a1,hm⟩:=bZ hm;refine lI a1 (ab.addr a1)<|lv (v:=(.pointer ((a0.map (·.add (Int.toNat ap * 3))).map (·.add 2)))) rfl rfl (Zu (sz:=1) (off:=2) underlying47 rfl sizeOf43 (by decide) rfl rfl (Ya (ab.addr a1))) ?_;obtain ⟨_,fk,fl⟩:=ab.atN a1;obtain ⟨_,_,rfl,fm,fn⟩:=fk.parts;obtain ⟨_,_,rfl,fo,fp⟩:=fm.parts;obtain rfl:=fo.bool;obtain ⟨g3,g4,rfl,g5⟩:=fp.row;obtain ⟨g6,g7,rfl,g8⟩:=fn.row;refine lW ((fl).nth (q:=2) rfl)<|go ?_;refine Zp hm (fun hb hm=>go ?_) fun hb hm=>go ?_
       ·refine lI a1 (ab.addr a1)<|lv (v:=(.pointer ((a0.map (·.add (Int.toNat ap * 3))).map (·.add 2)))) rfl rfl (Zu (sz:=1) (off:=2) underlying47 rfl sizeOf43 (by decide) rfl rfl (Ya (ab.addr a1))) ?_;obtain ⟨_,fq,fr⟩:=ab.atN a1;obtain ⟨_,_,rfl,fs,ft⟩:=fq.parts;obtain ⟨_,_,rfl,fu,fv⟩:=fs.parts;obtain rfl:=fu.bool;obtain ⟨g9,ha,rfl,hc⟩:=fv.row;obtain ⟨he,hf,rfl,dm⟩:=ft.row;refine lW ((fr).nth (q:=2) rfl)<|Xu rfl ?_;obtain ⟨hg,cv,hm⟩:=bZ hm;refine lI cv (dm.addr cv)<|lW (dm.atInt cv) ?_;refine go ?_;refine Zp hm (fun hb hm=>go ?_) fun hb hm=>go ?_
        ·cases hm;exact ⟨rfl,_,rfl,aa.finL rfl (cm [(440,qc0)]),aa.foL ab,bn⟩
        exact ⟨bf,by omega,rfl,⟨_,_,_,rfl,hm,aa,ab,rfl⟩⟩
       exact ⟨az,by omega,rfl,⟨_,_,_,_,rfl,hm,aa,ab,rfl⟩⟩
    cases hm;exact ⟨rfl,_,rfl,aa.finL rfl (cm [(440,qc0)]),aa.foL ab,bn⟩
def Za2 (m:Int) (x:QV):QV:=((x.1.1,List.replicate x.1.2.length m),List.replicate x.2.length (m+1))
def W1:Int→List QV→List QV
 | _,[]=>[]
 | m,x :: l=>Za2 m x :: W1 (m+2) l
theorem Qy:∀ (l:List QV) (m:Int),(W1 m l).length=l.length
 | [],_=>rfl
 | x :: l,m=>by rw [W1,List.length_cons,Qy l,List.length_cons]
theorem Zmx:∀ (l:List QV) (m:Int) (i:Nat) (hi:i<l.length),(W1 m l)[i]?=some (Za2 (m+2 * i) l[i])
 | x :: l,m,0,_=>by simp [W1]
 | x :: l,m,i+1,hi=>by
  rw [W1,List.getElem?_cons_succ,Zmx l (m+2) i (by simpa using hi),List.getElem_cons_succ]
  congr 2;omega
theorem Zrx:∀ (a b:List QV) (m:Int),W1 m (a++b)=W1 m a++W1 (m+2 * (a.length:Int)) b
 | [],b,m=>by simp [W1]
 | x :: a,b,m=>by
  rw [List.cons_append,W1,Zrx a b,W1,List.cons_append,List.length_cons]
  congr 3;omega
theorem Zlq {x:Int} (h:0≤x∧x<4294967296):u32.wrap x=x:=by rw [IntKind.wrap_u32];omega
theorem Z2a {α:Type} {l:List α} {i:Nat} {x:α} (h:l[i]?=some x):l.set i x=l:=by
 obtain ⟨hi,rfl⟩:=List.getElem?_eq_some_iff.1 h
 exact List.set_getElem_self hi
theorem Zvd {l:List Int} {k:Nat} {m:Int} (hk:k<l.length) (h:l.take k=List.replicate k m):(l.set k m).take (k+1)=List.replicate (k+1) m:=by
 rw [List.take_set,List.take_succ_eq_append_getElem hk,h,List.set_append_right _ _ (by simp),List.length_replicate,Nat.sub_self,List.replicate_succ']
 rfl
theorem Zn7 {l:List Int} {k:Nat} {m:Int} (h:l.take k=List.replicate k m) (hk:l.length≤k):l=List.replicate l.length m:=by
 rw [List.take_of_length_le hk] at h
 have:=congrArg List.length h
 rw [List.length_replicate] at this
 rw [this];exact h
abbrev Zek:=Option (Bool×List QV)
section
variable {N:Nat} (hN:1099511627777<N)
include hN
omit hN in
theorem Zp7 {m:Int} (hm:0≤m∧m<4294967000) {i:Nat} (hi:i<4611686018427387904) (kk:List QV→Int→Int→Zek) (b:Bool) (num:List Int) (c:Nat) (hc:c≤1099511627776):∀ (f k:Nat) (l:List QV) (den:List Int),l[i]?=some ((b,num),den)→den.length=c→den.take k=List.replicate k (m+1)→k≤c→c<f+k→
  Zds N m (i:Int) kk f l (k:Int)=kk (l.set i ((b,num),List.replicate c (m+1))) (m+2) ((i+1:Nat):Int)
 | 0,k,l,den,_,_,_,h1,h2=>by omega
 | f+1,k,l,den,hl,hd,ht,h1,h2=>by
  rw [Zds.eq_2,Vh,hl,Option.bind_some]
  by_cases hk:k<c
  ·have hkd:k<den.length:=by omega
   have hil:=(List.getElem?_eq_some_iff.1 hl).1
   rw [if_pos (decide_eq_true (show (k:Int)<(den.length:Int) by omega)),show (((b,num),den):QV).2=den from rfl,Zw hkd,Option.bind_some,Option.bind_some,Zlq (by omega),Int.toNat_natCast,Int.toNat_natCast,wS (by omega)]
   have ih:=Zp7 hm hi kk b num c hc f (k+1) (l.set i ((b,num),den.set k (m+1))) (den.set k (m+1)) (by rw [List.getElem?_set_self hil]) (by rw [List.length_set];exact hd) (Zvd hkd ht) (by omega) (by omega)
   rw [List.set_set] at ih
   exact ih
  ·rw [if_neg (by rw [decide_eq_false (show ¬ (k:Int)<((((b,num),den):QV).2.length:Int) by simp only;omega)];decide),Zlq (by omega),Zq (by omega)]
   have e:=Zn7 ht (by omega)
   rw [hd] at e
   rw [← e,Z2a hl];rfl
theorem Zp6 {m:Int} (hm:0≤m∧m<4294967000) {i:Nat} (hi:i<4611686018427387904) (kk:List QV→Int→Int→Zek) (b:Bool) (den:List Int) (hden:den.length≤1099511627776) (c:Nat) (hc:c≤1099511627776):∀ (f k:Nat) (l:List QV) (num:List Int),l[i]?=some ((b,num),den)→num.length=c→num.take k=List.replicate k m→k≤c→c<f+k→
  Zdr N m (i:Int) kk f l (k:Int)=kk (l.set i ((b,List.replicate c m),List.replicate den.length (m+1))) (m+2) ((i+1:Nat):Int)
 | 0,k,l,num,_,_,_,h1,h2=>by omega
 | f+1,k,l,num,hl,hd,ht,h1,h2=>by
  rw [Zdr.eq_2,Vh,hl,Option.bind_some]
  by_cases hk:k<c
  ·have hkd:k<num.length:=by omega
   have hil:=(List.getElem?_eq_some_iff.1 hl).1
   rw [if_pos (decide_eq_true (show (k:Int)<(num.length:Int) by omega)),show (((b,num),den):QV).1.2=num from rfl,Zw hkd,Option.bind_some,Option.bind_some,Int.toNat_natCast,Int.toNat_natCast,wS (by omega)]
   have ih:=Zp6 hm hi kk b den hden c hc f (k+1) (l.set i ((b,num.set k m),den)) (num.set k m) (by rw [List.getElem?_set_self hil]) (by rw [List.length_set];exact hd) (Zvd hkd ht) (by omega) (by omega)
   rw [List.set_set] at ih
   exact ih
  ·rw [if_neg (by rw [decide_eq_false (show ¬ (k:Int)<((((b,num),den):QV).1.2.length:Int) by simp only;omega)];decide)]
   have e:=Zn7 ht (by omega)
   rw [hd] at e
   have:=Zp7 (N:=N) hm hi kk b num den.length hden N 0 l den hl rfl rfl (Nat.zero_le _) (by omega)
   rw [show ((0:Nat):Int)=0 from rfl] at this
   rw [this,e]
theorem Zp5 {p:List QV} (hp:p.length≤1048576) (hl:∀ x ∈ p,x.1.2.length≤1099511627776∧x.2.length≤1099511627776):∀ (f i:Nat) (l:List QV),l=W1 1000 (p.take i)++p.drop i→i≤p.length→p.length<f+i→
  Qv N f l (1000+2 * (i:Int)) (i:Int)=Sx N (W1 1000 p) N 0
 | 0,i,l,_,h1,h2=>by omega
 | f+1,i,l,he,h1,h2=>by
  have hll:l.length=p.length:=by
   rw [he,List.length_append,Qy,List.length_take,List.length_drop];omega
  rw [Qv.eq_2]
  by_cases hi:i<p.length
  ·have hmem:=hl _ (List.getElem_mem hi)
   have hg:l[i]?=some ((p[i].1.1,p[i].1.2),p[i].2):=by
    rw [he,List.getElem?_append_right (by rw [Qy,List.length_take];omega),Qy,List.length_take,Nat.min_eq_left (by omega),Nat.sub_self,List.getElem?_drop,Nat.add_zero,List.getElem?_eq_getElem hi]
   rw [if_pos (decide_eq_true (by omega))]
   have h3:=Zp6 hN (m:=1000+2 * (i:Int)) (by omega) (i:=i) (by omega) (Qv N f) p[i].1.1 p[i].2 hmem.2 p[i].1.2.length hmem.1 N 0 l p[i].1.2 hg rfl rfl (Nat.zero_le _) (by omega)
   rw [show ((0:Nat):Int)=0 from rfl] at h3
   rw [h3,show (1000+2 * (i:Int)+2)=1000+2 * ((i+1:Nat):Int) by omega]
   refine Zp5 hp hl f (i+1) _ ?_ (by omega) (by omega)
   rw [he,List.set_append_right _ _ (by rw [Qy,List.length_take];omega),Qy,List.length_take,Nat.min_eq_left (by omega),Nat.sub_self,List.drop_eq_getElem_cons hi,List.set_cons_zero,List.take_succ_eq_append_getElem hi,Zrx,List.append_assoc,List.length_take,Nat.min_eq_left (by omega)]
   rfl
  ·rw [if_neg (by rw [decide_eq_false (by omega)];decide),he,List.take_of_length_le (by omega),List.drop_eq_nil_of_le (by omega),List.append_nil]
omit hN in
theorem Zqa (i:Nat) (hi:i<4611686018427387904) (kk:Int→Zek):∀ (f k:Nat) (l:List Int),k≤12→12<f+k→l.length≤1099511627776+k→Zdu N (i:Int) kk f l (k:Int)=kk ((i+1:Nat):Int)
 | 0,k,l,h1,h2,_=>by omega
 | f+1,k,l,h1,h2,hl=>by
  rw [Zdu.eq_2]
  by_cases hk:k<12
  ·rw [if_pos (decide_eq_true (by omega)),Z5 (by simp only [List.length_singleton,maxLen];omega),wS (by omega)]
   exact Zqa i hi kk f (k+1) _ (by omega) (by omega) (by rw [List.length_append,List.length_singleton];omega)
  ·rw [if_neg (by rw [decide_eq_false (by omega)];decide),wS (by omega)]
theorem Zp9 (i:Nat) (hi:i<4611686018427387904) (kk:Int→Zek) (e:QV) (he:e.2.length≤1099511627776):∀ (f k:Nat) (l:List Int),k≤12→12<f+k→l.length≤1099511627776+k→Zdt N (i:Int) kk e f l (k:Int)=kk ((i+1:Nat):Int)
 | 0,k,l,h1,h2,_=>by omega
 | f+1,k,l,h1,h2,hl=>by
  rw [Zdt.eq_2]
  by_cases hk:k<12
  ·rw [if_pos (decide_eq_true (by omega)),Z5 (by simp only [List.length_singleton,maxLen];omega),wS (by omega)]
   exact Zp9 i hi kk e he f (k+1) _ (by omega) (by omega) (by rw [List.length_append,List.length_singleton];omega)
  ·rw [if_neg (by rw [decide_eq_false (by omega)];decide)]
   have:=Zqa (N:=N) i hi kk N 0 e.2 (Nat.zero_le _) (by omega) (by omega)
   exact this
theorem Zp8 {l:List QV} (hp:l.length≤1048576) (hl:∀ x ∈ l,x.1.2.length≤1099511627776∧x.2.length≤1099511627776):∀ (f i:Nat),i≤l.length→l.length<f+i→Sx N l f (i:Int)=Sy N l N 0 1000
 | 0,i,h1,h2=>by omega
 | f+1,i,h1,h2=>by
  rw [Sx.eq_2]
  by_cases hi:i<l.length
  ·have hmem:=hl _ (List.getElem_mem hi)
   rw [if_pos (decide_eq_true (by omega)),Zw hi,Option.bind_some]
   have:=Zp9 hN i (by omega) (Sx N l f) l[i] hmem.2 N 0 l[i].1.2 (Nat.zero_le _) (by omega) (by omega)
   rw [show ((0:Nat):Int)=0 from rfl] at this
   rw [this]
   exact Zp8 hp hl f (i+1) (by omega) (by omega)
  ·rw [if_neg (by rw [decide_eq_false (by omega)];decide)]
omit hN in
theorem Zqd {l:List QV} {i:Nat} {m:Int} {x:QV} (hm:0≤m∧m<4294967000) (hi:i<4611686018427387904) (hx:l[i]?=some (Za2 m x)) (hc:x.2.length≤1099511627776) (kk:Int→Int→Zek):∀ (f k:Nat),k≤x.2.length→x.2.length<f+k→Zdw N l (i:Int) m kk f (k:Int)=kk ((i+1:Nat):Int) (m+2)
 | 0,k,h1,h2=>by omega
 | f+1,k,h1,h2=>by
  have hlen:(Za2 m x).2.length=x.2.length:=List.length_replicate
  rw [Zdw.eq_2,Vh,hx,Option.bind_some,hlen]
  by_cases hk:k<x.2.length
  ·rw [if_pos (decide_eq_true (by omega)),Zw (by rw [hlen];exact hk),Option.bind_some,show (Za2 m x).2[k]'(by rw [hlen];exact hk)=m+1 from List.getElem_replicate _,Zlq (by omega),if_neg (by rw [decide_eq_true rfl];decide),wS (by omega)]
   exact Zqd hm hi hx hc kk f (k+1) (by omega) (by omega)
  ·rw [if_neg (by rw [decide_eq_false (by omega)];decide),Zlq (by omega),wS (by omega)]
theorem Zqc {l:List QV} {i:Nat} {m:Int} {x:QV} (hm:0≤m∧m<4294967000) (hi:i<4611686018427387904) (hx:l[i]?=some (Za2 m x)) (hc:x.1.2.length≤1099511627776) (hd:x.2.length≤1099511627776) (kk:Int→Int→Zek):∀ (f k:Nat),k≤x.1.2.length→x.1.2.length<f+k→Zdv N l (i:Int) m kk f (k:Int)=kk ((i+1:Nat):Int) (m+2)
 | 0,k,h1,h2=>by omega
 | f+1,k,h1,h2=>by
  have hlen:(Za2 m x).1.2.length=x.1.2.length:=List.length_replicate
  rw [Zdv.eq_2,Vh,hx,Option.bind_some,hlen]
  by_cases hk:k<x.1.2.length
  ·rw [if_pos (decide_eq_true (by omega)),Zw (by rw [hlen];exact hk),Option.bind_some,show (Za2 m x).1.2[k]'(by rw [hlen];exact hk)=m from List.getElem_replicate _,if_neg (by rw [decide_eq_true rfl];decide),wS (by omega)]
   exact Zqc hm hi hx hc hd kk f (k+1) (by omega) (by omega)
  ·rw [if_neg (by rw [decide_eq_false (by omega)];decide)]
   have:=Zqd (N:=N) hm hi hx hd kk N 0 (Nat.zero_le _) (by omega)
   exact this
theorem Zqb {p:List QV} (hp:p.length≤1048576) (hl:∀ x ∈ p,x.1.2.length≤1099511627776∧x.2.length≤1099511627776):∀ (f i:Nat),i≤p.length→p.length<f+i→Sy N (W1 1000 p) f (i:Int) (1000+2 * (i:Int))=some (true,W1 1000 p)
 | 0,i,h1,h2=>by omega
 | f+1,i,h1,h2=>by
  rw [Sy.eq_2,Qy]
  by_cases hi:i<p.length
  ·have hmem:=hl _ (List.getElem_mem hi)
   have h3:=Zqc hN (l:=W1 1000 p) (i:=i) (m:=1000+2 * (i:Int)) (x:=p[i]) (by omega) (by omega) (Zmx p 1000 i hi) hmem.1 hmem.2 (Sy N (W1 1000 p) f) N 0 (Nat.zero_le _) (by omega)
   rw [show ((0:Nat):Int)=0 from rfl] at h3
   rw [if_pos (decide_eq_true (by omega)),h3,show (1000+2 * (i:Int)+2)=1000+2 * ((i+1:Nat):Int) by omega]
   exact Zqb hp hl f (i+1) (by omega) (by omega)
  ·rw [if_neg (by rw [decide_eq_false (by omega)];decide)]
theorem Zy8 {p:List QV} (hp:p.length≤1048576) (hl:∀ x ∈ p,x.1.2.length≤1099511627776∧x.2.length≤1099511627776):Zgs N p=some (true,W1 1000 p):=by
 have h1:=Zp5 hN hp hl N 0 p (by simp [W1]) (Nat.zero_le _) (by omega)
 have hm:∀ x ∈ W1 1000 p,x.1.2.length≤1099511627776∧x.2.length≤1099511627776:=fun x hx=>by
  obtain ⟨i,hi⟩:=List.getElem?_of_mem hx
  have hil:i<p.length:=by have:=(List.getElem?_eq_some_iff.1 hi).1;rwa [Qy] at this
  rw [Zmx p 1000 i hil] at hi
  cases hi
  have:=hl _ (List.getElem_mem hil)
  simp only [Za2,List.length_replicate]
  exact this
 have h2:=Zp8 hN (l:=W1 1000 p) (by rw [Qy];exact hp) hm N 0 (Nat.zero_le _) (by rw [Qy];omega)
 have h3:=Zqb hN hp hl N 0 (Nat.zero_le _) (by omega)
 rw [show ((0:Nat):Int)=0 from rfl] at h1 h2 h3
 rw [show (1000+2 * (0:Int))=1000 from rfl] at h1 h3
 rw [Zgs,h1,h2,h3]
end
def Zgu (ae:R1) (aa:Int) (kk_L1:(Int→Int→Option Int)) (ab:Int) (ac:Int) (kk_L2:(Int→Int→Option Int)) (af:Bool):Option Int:=
  if af=true then ((Zk ae.2.2.2.2 aa).bind fun ag=>(Zk ag ac).bind fun ad=>kk_L2 (i64.wrap ((i64.wrap (ab+(ad.1.2.length:Int)))+(ad.2.length:Int))) (i64.wrap (ac+1))) else (kk_L1 ab (i64.wrap (aa+1)))
def Zax (N:Nat) (aa:R1) (ab:Int) (kk_L1:(Int→Int→Option Int)):Nat→Int→Int→Option Int
  | 0,_,_=>none
  | ae+1,ac,ad=>(Zk aa.2.2.2.2 ab).bind fun af=>if (decide (ad<(af.length:Int)))=true then (Zgu aa ab kk_L1 ac ad (Zax N aa ab kk_L1 ae) (decide (ac<10000))) else (Zgu aa ab kk_L1 ac ad (Zax N aa ab kk_L1 ae) false)
termination_by structural x=>x
def S0 (N:Nat) (aa:R1):Nat→Int→Int→Option Int
  | 0,_,_=>none
  | ad+1,ab,ac=>if (decide (ac<(aa.2.2.2.2.length:Int)))=true then (Zax N aa ac (S0 N aa ad) N ab 0) else (some (if 10000<ab then 10000 else ab))
termination_by structural x=>x
def Zkn (N:Nat) (aa:R1):Option Int:=
  S0 N aa N 0 0
theorem Zxs {N am an ao ap:Nat} {aq ar au av:Option Addr} {col:Zd} {w0:World} {aa:R1} {r:Int} (hm:Zkn N aa=some r) (bu:Sl Za.str col w0 aq am aa.2.1) (bv:Sl (Za.slice Za.str) col w0 ar an aa.2.2.1) (bw:Sl (Za.slice (Za.int .i64)) col w0 au ao aa.2.2.2.1) (ag:Sl (Za.slice (Za.pair (Za.pair Za.bool (Za.slice (Za.int .u32))) (Za.slice (Za.int .u32)))) col w0 av ap aa.2.2.2.2):
    Calls Tryz.prog 84 #[(.agg #[.string aa.1,.slice aq aa.2.1.length am,.slice ar aa.2.2.1.length an,.slice au aa.2.2.2.1.length ao,.slice av aa.2.2.2.2.length ap])] w0 (fun e w'=>e= .returned ((.int .i64 r))∧Below w0.heap.size w0 w'):=by
 refine Xb 2 (m:=53) func84 rfl rfl rfl rfl rfl ?_;rw [Zkn.eq_1] at hm;have ab:=St.start col w0;refine go ?_;refine Xh (col:=(Zi col)) 1 rfl ?_;intro aw bx bz a9 ac;refine go ?_;replace ab:=ab.grow a9;refine Zx [1,1000000] (fun n f az=>∃ a0 aj ak ae,ae=n∧S0 N aa ae aj ak=some r∧St w0 (Zi col) a0 az∧Zn 27 1 a0 az aw #[.string aa.1,.slice aq aa.2.1.length am,.slice ar aa.2.2.1.length an,.slice au aa.2.2.2.1.length ao,.slice av aa.2.2.2.2.length ap]∧[3,4].map f=[.int .i64 aj,.int .i64 ak]) N ⟨_,0,0,_,rfl,hm,ab,ac,rfl⟩ ?_;clear hm;intro n f az hI;obtain ⟨a0,aj,ak,ae,hn,hm,ab,ac,hs⟩:=hI;subst hn;refine .lL [3,4] hs ?_;replace ag:=ag.keep (Zj.start col w0)
 cases ae with
 | zero=>rw [S0.eq_1] at hm;cases hm
 | succ ae=>
  rw [S0.eq_2] at hm;refine go ?_;refine Z9 ac ?_;refine go ?_;refine Zp hm (fun hb hm=>go ?_) fun hb hm=>go ?_
  ·refine Zx [1,4,1000000] (fun n f a1=>∃ a2 ax ah ai,ai=n∧Zax N aa ak (S0 N aa ae) ai ax ah=some r∧St w0 (Zi col) a2 a1∧Zn 27 1 a2 a1 aw #[.string aa.1,.slice aq aa.2.1.length am,.slice ar aa.2.2.1.length an,.slice au aa.2.2.2.1.length ao,.slice av aa.2.2.2.2.length ap]∧[3,5].map f=[.int .i64 ax,.int .i64 ah]) N ⟨_,_,0,_,rfl,hm,ab,ac,rfl⟩ ?_;clear hm;intro n f a1 hI;obtain ⟨a2,ax,ah,ai,hn,hm,ab,ac,hs⟩:=hI;subst hn;refine .lL [3,5] hs ?_
   cases ai with
   | zero=>rw [Zax.eq_1] at hm;cases hm
   | succ ai=>
    rw [Zax.eq_2] at hm;refine Zv<|Zv ?_;refine Wp.cutK [1,3,4,5,1000000] (fun f a3=>∃ ad a4,Zgu aa ak (S0 N aa ae) ax ah (Zax N aa ak (S0 N aa ae) ai) a4=some r∧St w0 (Zi col) ad a3∧Zn 27 1 ad a3 aw #[.string aa.1,.slice aq aa.2.1.length am,.slice ar aa.2.2.1.length an,.slice au aa.2.2.2.1.length ao,.slice av aa.2.2.2.2.length ap]∧[24].map f=[.bool a4]) ?_ ?_
    ·intro f a3 hJ;obtain ⟨ad,a4,hm,ab,ac,hs⟩:=hJ;rw [Zgu.eq_1] at hm;refine .lL [24] hs ?_;refine Zp hm (fun hb hm=>go ?_) fun hb hm=>go ?_
     ·refine Wk (col:=ad) (by kernel_rfl) (by kernel_rfl)<|go ?_;refine qv (v:=(.pointer ((some (⟨aw,0,none⟩:Addr)).map (·.add 4)))) rfl (fun _ hC=>Zu (sz:=1) (off:=4) underlying27 rfl sizeOf25 (by decide) rfl rfl ⟨_,_,rfl⟩) ?_;refine qW (fun _ hC=>((ac.atN).nth (q:=4) rfl).gr (hC.bl ad)) ?_;refine go ?_;obtain ⟨b0,al,hm⟩:=bZ hm;refine qI al ((ag.ks ab).addr al) ?_;obtain ⟨_,ba,bb⟩:=(ag.ks ab).atN al;obtain ⟨⟨a8,b1,rfl,ay⟩,_⟩:=ba;refine qW (fun _ hC=>bb.one.gr (hC.bl ad)) ?_;refine go ?_;obtain ⟨b2,af,hm⟩:=bZ hm;refine qI af (ay.addr af)<|qv (v:=(.pointer ((a8.map (·.add (Int.toNat ah * 3))).map (·.add 0)))) rfl (fun _ hC=>Zu (sz:=2) (off:=0) underlying47 rfl sizeOf45 (by decide) rfl rfl (Ya (ay.addr af))) ?_;refine qv (v:=(.pointer (((a8.map (·.add (Int.toNat ah * 3))).map (·.add 0)).map (·.add 1)))) rfl (fun _ hC=>Zu (sz:=1) (off:=1) underlying45 rfl sizeOf43 (by decide) rfl rfl (Ya (Ya (ay.addr af)))) ?_;obtain ⟨_,bc,bd⟩:=ay.atN af;obtain ⟨_,_,rfl,be,bf⟩:=Yy bc;obtain ⟨_,_,rfl,bg,bh⟩:=Yy be;obtain ⟨rfl,_⟩:=bg;obtain ⟨⟨b3,b4,rfl,b5⟩,_⟩:=bh;obtain ⟨⟨b6,b7,rfl,b8⟩,_⟩:=bf;refine qW (fun _ hC=>((((bd).part 0 2 _ rfl)).nth (q:=1) rfl).gr (hC.bl ad)) ?_;refine go ?_;refine qv (v:=(.pointer ((some (⟨aw,0,none⟩:Addr)).map (·.add 4)))) rfl (fun _ hC=>Zu (sz:=1) (off:=4) underlying27 rfl sizeOf25 (by decide) rfl rfl ⟨_,_,rfl⟩) ?_;refine qW (fun _ hC=>((ac.atN).nth (q:=4) rfl).gr (hC.bl ad)) ?_;refine go ?_;refine qI al ((ag.ks ab).addr al) ?_;obtain ⟨_,bi,bj⟩:=(ag.ks ab).atN al;obtain ⟨⟨bk,b9,rfl,a5⟩,_⟩:=bi;refine qW (fun _ hC=>bj.one.gr (hC.bl ad)) ?_;refine go ?_;refine qI af (a5.addr af)<|qv (v:=(.pointer ((bk.map (·.add (Int.toNat ah * 3))).map (·.add 2)))) rfl (fun _ hC=>Zu (sz:=1) (off:=2) underlying47 rfl sizeOf43 (by decide) rfl rfl (Ya (a5.addr af))) ?_;obtain ⟨_,bm,bn⟩:=a5.atN af;obtain ⟨_,_,rfl,bo,bp⟩:=Yy bm;obtain ⟨_,_,rfl,bq,br⟩:=Yy bo;obtain ⟨rfl,_⟩:=bq;obtain ⟨⟨ca,cb,rfl,cc⟩,_⟩:=br;obtain ⟨⟨cd,ce,rfl,cf⟩,_⟩:=bp;refine qW (fun _ hC=>((bn).nth (q:=2) rfl).gr (hC.bl ad)) ?_;refine go ?_;refine Yo ?_;intro cg hC;replace hC:=hC.bl ad;refine go ?_;replace ac:=ac.gr hC;replace ab:=ab.grow hC;exact ⟨ai,by omega,rfl,⟨_,_,_,_,rfl,hm,ab,ac,rfl⟩⟩
     exact ⟨ae,by omega,rfl,⟨_,_,_,_,rfl,hm,ab,ac,rfl⟩⟩
    refine go ?_;refine Z9 ac<|Xu rfl ?_;obtain ⟨ch,a6,hm⟩:=bZ hm;refine lI a6 ((ag.ks ab).addr a6) ?_;obtain ⟨_,bs,bt⟩:=(ag.ks ab).atN a6;obtain ⟨⟨ci,cj,rfl,ck⟩,_⟩:=bs;refine lW bt.one<|go ?_;refine Xr hm (fun a7 hm=>go ?_) fun a7 hm=>go ?_
    ·refine lV (.bool (decide (ax<10000))) (Z6 (congrArg Value.bool a7) rfl)<|Zl ?_;exact ⟨rfl,_,_,hm,ab,ac,rfl⟩
    refine lV (.bool false) (Xg (congrArg Value.bool a7) rfl)<|Zl ?_;exact ⟨rfl,_,_,hm,ab,ac,rfl⟩
  refine lV (.int .i64 (if 10000<aj then 10000 else aj)) (Znf aj 10000 rfl rfl)<|go ?_;cases hm;exact ⟨rfl,rfl,ab.below⟩
def Zfb (aa:Bool):Option Bool:=
  some aa
def Zcv (N:Nat) (aa:R1) (ab:Int) (ac:Int) (kk_L1:(Int→Int→Option Bool)) (ad:Bool):Option Bool:=
  if ad=true then ((Zk aa.2.2.2.2 ac).bind fun ae=>kk_L1 (i64.wrap (ab+(ae.length:Int))) (i64.wrap (ac+1))) else (if (decide (12<(aa.2.1.length:Int)))=true then (Zfb true) else (if (decide (600<ab))=true then (Zfb true) else (if (decide (12<(aa.2.2.2.2.length:Int)))=true then (Zfb true) else ((Zkn N (aa.1,aa.2.1,aa.2.2.1,aa.2.2.2.1,aa.2.2.2.2)).bind fun af=>Zfb (decide (3000<af))))))
def Qn (N:Nat) (aa:R1):Nat→Int→Int→Option Bool
  | 0,_,_=>none
  | ac+1,ad,ab=>if (decide (ab<(aa.2.2.2.2.length:Int)))=true then (Zcv N aa ad ab (Qn N aa ac) (decide (ab<13))) else (Zcv N aa ad ab (Qn N aa ac) false)
termination_by structural x=>x
def Zhz (N:Nat) (aa:R1):Option Bool:=
  Qn N aa N 0 0
theorem Zwn {N ai aj ak al:Nat} {am an ao ap:Option Addr} {col:Zd} {w0:World} {aa:R1} {r:Bool} (hm:Zhz N aa=some r) (ar:Sl Za.str col w0 am ai aa.2.1) (au:Sl (Za.slice Za.str) col w0 an aj aa.2.2.1) (av:Sl (Za.slice (Za.int .i64)) col w0 ao ak aa.2.2.2.1) (ae:Sl (Za.slice (Za.pair (Za.pair Za.bool (Za.slice (Za.int .u32))) (Za.slice (Za.int .u32)))) col w0 ap al aa.2.2.2.2):
    Calls Tryz.prog 21 #[(.agg #[.string aa.1,.slice am aa.2.1.length ai,.slice an aa.2.2.1.length aj,.slice ao aa.2.2.2.1.length ak,.slice ap aa.2.2.2.2.length al])] w0 (fun e w'=>e= .returned ((.bool r))∧Below w0.heap.size w0 w'):=by
 refine Xb 2 (m:=43) func21 rfl rfl rfl rfl rfl ?_;rw [Zhz.eq_1] at hm;have ab:=St.start col w0;refine go ?_;refine Xh (col:=(Zi col)) 1 rfl ?_;intro aw bf bg a9 ac;refine go ?_;replace ab:=ab.grow a9;refine Zx [1,1000000] (fun n f ax=>∃ ay af ag ad,ad=n∧Qn N aa ad af ag=some r∧St w0 (Zi col) ay ax∧Zn 27 1 ay ax aw #[.string aa.1,.slice am aa.2.1.length ai,.slice an aa.2.2.1.length aj,.slice ao aa.2.2.2.1.length ak,.slice ap aa.2.2.2.2.length al]∧[3,4].map f=[.int .i64 af,.int .i64 ag]) N ⟨_,0,0,_,rfl,hm,ab,ac,rfl⟩ ?_;clear hm;intro n f ax hI;obtain ⟨ay,af,ag,ad,hn,hm,ab,ac,hs⟩:=hI;subst hn;refine .lL [3,4] hs ?_;replace ar:=ar.keep (Zj.start col w0);replace au:=au.keep (Zj.start col w0);replace av:=av.keep (Zj.start col w0);replace ae:=ae.keep (Zj.start col w0)
 cases ad with
 | zero=>rw [Qn.eq_1] at hm;cases hm
 | succ ad=>
  rw [Qn.eq_2] at hm;refine Zv<|Zv ?_;refine Wp.cutK [1,3,4,1000000] (fun f aq=>∃ ah az,Zcv N aa af ag (Qn N aa ad) az=some r∧St w0 (Zi col) ah aq∧Zn 27 1 ah aq aw #[.string aa.1,.slice am aa.2.1.length ai,.slice an aa.2.2.1.length aj,.slice ao aa.2.2.2.1.length ak,.slice ap aa.2.2.2.2.length al]∧[13].map f=[.bool az]) ?_ ?_
  ·intro f aq hJ;obtain ⟨ah,az,hm,ab,ac,hs⟩:=hJ;rw [Zcv.eq_1] at hm;refine .lL [13] hs ?_;refine Zp hm (fun hb hm=>go ?_) fun hb hm=>?_
   ·refine Z9 ac<|Xu rfl ?_;obtain ⟨bh,a0,hm⟩:=bZ hm;refine lI a0 ((ae.ks ab).addr a0) ?_;obtain ⟨_,ba,bb⟩:=(ae.ks ab).atN a0;obtain ⟨⟨bi,bj,rfl,bk⟩,_⟩:=ba;refine lW bb.one<|go ?_;exact ⟨ad,by omega,rfl,⟨_,_,_,_,rfl,hm,ab,ac,rfl⟩⟩
   refine Zjf (Zhq ?_);refine Zv ?_;refine Wp.cutK [1000000] (fun f a7=>∃ a8 a1,Zfb a1=some r∧St w0 (Zi col) a8 a7∧[2].map f=[.bool a1]) ?_ ?_
   ·intro f a7 hJ;obtain ⟨a8,a1,hm,ab,hs⟩:=hJ;rw [Zfb.eq_1] at hm;refine .lL [2] hs<|Y5 ?_;cases hm;exact ⟨rfl,rfl,ab.below⟩
   refine Wl<|Z9 ac ?_;refine go ?_;refine Xr hm (fun a2 hm=>go ?_) fun a2 hm=>go ?_
   ·refine lV (.bool true) (Z6 (congrArg Value.bool a2) rfl)<|Xt rfl<|lP 32 rfl rfl<|lP 32 rfl rfl<|lP 32 rfl rfl<|lP 32 rfl rfl<|lV (.bool true) (Z6 rfl rfl)<|Xt rfl<|lP 38 rfl rfl<|lP 38 rfl rfl<|lP 38 rfl rfl<|lV (.bool true) (Z6 rfl rfl)<|go ?_;exact ⟨rfl,_,_,hm,ab,rfl⟩
   refine lV (.bool (decide (600<af))) (Xg (congrArg Value.bool a2) rfl)<|Xt rfl ?_;refine Xr hm (fun a3 hm=>go ?_) fun a3 hm=>go ?_
   ·refine lV (.bool true) (Z6 (congrArg Value.bool a3) rfl)<|Xt rfl<|lP 38 rfl rfl<|lP 38 rfl rfl<|lP 38 rfl rfl<|lV (.bool true) (Z6 rfl rfl)<|go ?_;exact ⟨rfl,_,_,hm,ab,rfl⟩
   refine lF aw 4 underlying27 rfl sizeOf25<|go ?_;refine lW ((ac.atN).nth (q:=4) rfl)<|go ?_;refine lV (.bool (decide (12<(aa.2.2.2.2.length:Int)))) (Xg (congrArg Value.bool a3) rfl)<|Xt rfl ?_;refine Xr hm (fun a4 hm=>go ?_) fun a4 hm=>go ?_
   ·refine lV (.bool true) (Z6 (congrArg Value.bool a4) rfl)<|go ?_;exact ⟨rfl,_,_,hm,ab,rfl⟩
   refine lV _ (Xj isAgg27 sizeOf27 ac)<|go ?_;obtain ⟨bc,bd,hm⟩:=bZ hm;refine Zh (Zxs bd (ar.ks ab) (au.ks ab) (av.ks ab) (ae.ks ab)) ?_;rintro _ be ⟨rfl,a5⟩;refine ⟨_,rfl,?_⟩;replace a5:Zf ah aq ah be:=.of_below a5;refine go ?_;refine lV (.bool (decide (3000<bc))) (Xg (congrArg Value.bool a4) rfl)<|go ?_;replace ab:=ab.grow a5;exact ⟨rfl,_,_,hm,ab,rfl⟩
  refine go ?_;refine Z9 ac ?_;refine go ?_;refine Xr hm (fun a6 hm=>go ?_) fun a6 hm=>go ?_
  ·refine lV (.bool (decide (ag<13))) (Z6 (congrArg Value.bool a6) rfl)<|Zl ?_;exact ⟨rfl,_,_,hm,ab,ac,rfl⟩
  refine lV (.bool false) (Xg (congrArg Value.bool a6) rfl)<|Zl ?_;exact ⟨rfl,_,_,hm,ab,ac,rfl⟩
def Zhy (aa:List Int):Option R5:=
  Zy ((([]:List Int).length+aa.length) * 8≤140737488355328∧([]:List Int).length+aa.length≤maxLen) (Zy (((([]:List Int)++aa).length+[(-61),(-62),(-63)].length) * 8≤140737488355328∧(([]:List Int)++aa).length+[(-61),(-62),(-63)].length≤maxLen) (Zy ((0:Int)≤(aa.length:Int)∧(aa.length:Int)≤(((([]:List Int)++aa)++[(-61),(-62),(-63)]).length:Int)) (some ((Int.toNat (aa.length:Int)),(([]:List Int)++aa)++[(-61),(-62),(-63)]))))
theorem Zwm {ag:Nat} {a0:Option Addr} {col:Zd} {w0:World} {aa:R2} {r:R5} (c1:Nat) (hm:Zhy aa=some r) (h0:Sl (Za.int .i64) col w0 a0 ag aa):
    Calls Tryz.prog 23 #[.slice a0 aa.length ag] w0 (fun e w'=>∃ (col':Zd) (ra1:Option Addr) (rc2:Nat),e= .returned ((.slice ra1 ((r.2.take r.1).length) rc2))∧Zf col w0 col' w'∧Zc (Za.int .i64) 3 c1 col' w' ra1 rc2 r.2):=by
 refine Xb 2 (m:=14) func23 rfl rfl rfl rfl rfl ?_;rw [Zhy.eq_1] at hm;have ab:=St.start col w0;refine go ?_;obtain ⟨aj,hm⟩:=Z0 hm;replace h0:=h0.keep (Zj.start col w0);refine Wo (c:=1) Zc.nil (h0.ks ab).srcC aj ?_;intro ap aq ar ak al ac;refine go ?_;refine Wv (col:=ak) [(-61),(-62),(-63)] 2 ?_;intro au av aw ah am;obtain ⟨an,hm⟩:=Z0 hm;replace ac:=ac.gr ah;refine Wo ac (am.srcN (NB.int (k:=.i64))) an ?_;intro ad ae ax ay ao ai;refine go ?_;obtain ⟨af,hm⟩:=Z0 hm;refine lv (v:=.slice ad (Int.toNat (aa.length:Int)) ae) rfl rfl (Vu underlying40 sizeOf3 rfl rfl af.1 (by have:=ai.lecap;have:=af.2;omega))<|.ld (d:=13) (v:=(.slice ad ((((([]:List Int)++aa)++[(-61),(-62),(-63)]).take (Int.toNat (aa.length:Int))).length) ae)) (congrArg (fun n=>Value.slice ad n ae) (List.length_take_of_le (show (Int.toNat (aa.length:Int))≤((([]:List Int)++aa)++[(-61),(-62),(-63)]).length by have:=af.2;omega)).symm) ?_;refine go ?_;cases hm;replace ab:=((ab.kpp al).grow ah).kpp ao;exact ⟨rfl,_,_,_,rfl,ab.fin (cm [(1,c1)]),ab.fo ai⟩
def Zd4 (N:Nat) (ab:List Int) (ac:List Int):Nat→Int→Option Bool
  | 0,_=>none
  | ad+1,aa=>if (decide (aa<(ab.length:Int)))=true then ((Zk ab aa).bind fun ae=>(Zk ac aa).bind fun af=>if (!decide (ae=af))=true then (some false) else ((Zd4 N ab ac ad) (i64.wrap (aa+1)))) else (some true)
termination_by structural x=>x
def Zit (N:Nat) (aa:List Int) (ab:List Int):Option Bool:=
  if (!decide ((aa.length:Int)=(ab.length:Int)))=true then (some false) else (Zd4 N aa ab N 0)
theorem Zxt {N ai aj:Nat} {a0 a1:Option Addr} {col:Zd} {w0:World} {ad ae:R2} {r:Bool} (hm:Zit N ad ae=some r) (h0:Sl (Za.int .i64) col w0 a0 ai ad) (h1:Sl (Za.int .i64) col w0 a1 aj ae):
    Calls Tryz.prog 31 #[.slice a0 ad.length ai,.slice a1 ae.length aj] w0 (fun e w'=>e= .returned ((.bool r))∧Below w0.heap.size w0 w'):=by
 refine Xb 4 (m:=26) func31 rfl rfl rfl rfl rfl ?_;rw [Zit.eq_1] at hm;have aa:=St.start col w0;refine go ?_;replace h0:=h0.keep (Zj.start col w0);replace h1:=h1.keep (Zj.start col w0);refine Zp hm (fun hb hm=>go ?_) fun hb hm=>go ?_
 ·cases hm;exact ⟨rfl,rfl,aa.below⟩
 refine Zx [0,1,1000000] (fun n f ak=>∃ ab af ac,ac=n∧Zd4 N ad ae ac af=some r∧St w0 (Zi col) ab ak∧[5].map f=[.int .i64 af]) N ⟨_,0,_,rfl,hm,aa,rfl⟩ ?_;clear hm;intro n f ak hI;obtain ⟨ab,af,ac,hn,hm,aa,hs⟩:=hI;subst hn;refine .lL [5] hs ?_
 cases ac with
 | zero=>rw [Zd4.eq_1] at hm;cases hm
 | succ ac=>
  rw [Zd4.eq_2] at hm;refine go ?_;refine Zp hm (fun hb hm=>go ?_) fun hb hm=>go ?_
  ·refine Wk (col:=ab) (by kernel_rfl) (by kernel_rfl)<|go ?_;obtain ⟨al,ag,hm⟩:=bZ hm;refine qI ag ((h0.ks aa).addr ag)<|qW (fun _ hC=>((h0.ks aa).gr (hC.bl ab)).atInt ag) ?_;refine go ?_;obtain ⟨am,ah,hm⟩:=bZ hm;refine qI ah ((h1.ks aa).addr ah)<|qW (fun _ hC=>((h1.ks aa).gr (hC.bl ab)).atInt ah) ?_;refine go ?_;refine Yo ?_;intro an hC;replace hC:=hC.bl ab;replace aa:=aa.grow hC;refine Zp hm (fun hb hm=>go ?_) fun hb hm=>go ?_
   ·cases hm;exact ⟨rfl,rfl,aa.below⟩
   exact ⟨ac,by omega,rfl,⟨_,_,_,rfl,hm,aa,rfl⟩⟩
  cases hm;exact ⟨rfl,rfl,aa.below⟩
def Zfc (aa:Bool):Option Bool:=
  some aa
def Zh0 (N:Nat) (n0:Nat) (aa:List Int) (ab:List Int):Option Bool:=
  Zy ((0:Int)≤(i64.wrap (((aa.take n0).length:Int)+3))∧(i64.wrap (((aa.take n0).length:Int)+3))≤(aa.length:Int)) ((Zit N (aa.take n0) ab).bind fun ac=>if ac=true then ((Zk (aa.take (Int.toNat (i64.wrap (((aa.take n0).length:Int)+3)))) ((aa.take n0).length:Int)).bind fun ad=>if (decide (ad=(-61)))=true then ((Zk (aa.take (Int.toNat (i64.wrap (((aa.take n0).length:Int)+3)))) (i64.wrap (((aa.take n0).length:Int)+2))).bind fun ae=>Zfc (decide (ae=(-63)))) else (Zfc false)) else (Zfc false))
theorem Zwo {N ac n0 al:Nat} {a0 a1:Option Addr} {col:Zd} {w0:World} {ab ad:R2} {r:Bool} (hm:Zh0 N n0 ab ad=some r) (h0:Sl (Za.int .i64) col w0 a0 ac ab) (h1:Sl (Za.int .i64) col w0 a1 al ad):
    Calls Tryz.prog 26 #[.slice a0 ((ab.take n0).length) ac,.slice a1 ad.length al] w0 (fun e w'=>e= .returned ((.bool r))∧Below w0.heap.size w0 w'):=by
 refine Xb 4 (m:=31) func26 rfl rfl rfl rfl rfl ?_;rw [Zh0.eq_1] at hm;have aa:=St.start col w0;refine go ?_;obtain ⟨ae,hm⟩:=Z0 hm;replace h0:=h0.keep (Zj.start col w0);refine lv (v:=.slice a0 (Int.toNat (i64.wrap (((ab.take n0).length:Int)+3))) ac) rfl rfl (Vu underlying40 sizeOf3 rfl rfl ae.1 (by have:=(h0.ks aa).1.2;have:=ae.2;omega))<|.ld (d:=10) (v:=(.slice a0 ((ab.take (Int.toNat (i64.wrap (((ab.take n0).length:Int)+3)))).length) ac)) (congrArg (fun n=>Value.slice a0 n ac) (List.length_take_of_le (show (Int.toNat (i64.wrap (((ab.take n0).length:Int)+3)))≤ab.length by have:=ae.2;omega)).symm) ?_;refine T5 rfl<|Zl<|Zv ?_;replace h1:=h1.keep (Zj.start col w0);refine Wp.cutK [1000000] (fun f am=>∃ an af,Zfc af=some r∧St w0 (Zi col) an am∧[4].map f=[.bool af]) ?_ ?_
 ·intro f am hJ;obtain ⟨an,af,hm,aa,hs⟩:=hJ;rw [Zfc.eq_1] at hm;refine .lL [4] hs<|Y5 ?_;cases hm;exact ⟨rfl,rfl,aa.below⟩
 refine go ?_;obtain ⟨au,ao,hm⟩:=bZ hm;refine Zh (Zxt ao ((h0.ks aa).take n0) (h1.ks aa)) ?_;rintro _ ap ⟨rfl,ag⟩;refine ⟨_,rfl,?_⟩;replace ag:Zf (Zi col) w0 (Zi col) ap:=.of_below ag;refine Xt rfl ?_;replace aa:=aa.grow ag;refine Xr hm (fun ah hm=>go ?_) fun ah hm=>go ?_
 ·obtain ⟨aq,ai,hm⟩:=bZ hm;refine lI ai (((h0.ks aa).take (Int.toNat (i64.wrap (((ab.take n0).length:Int)+3)))).addr ai) ?_;refine go ?_;refine lW (((h0.ks aa).take (Int.toNat (i64.wrap (((ab.take n0).length:Int)+3)))).atInt ai)<|go ?_;refine lV (.bool (decide (aq=(-61)))) (Z6 (congrArg Value.bool ah) rfl)<|Xt rfl ?_;refine Xr hm (fun aj hm=>go ?_) fun aj hm=>go ?_
  ·obtain ⟨ar,ak,hm⟩:=bZ hm;refine lI ak (((h0.ks aa).take (Int.toNat (i64.wrap (((ab.take n0).length:Int)+3)))).addr ak) ?_;refine go ?_;refine lW (((h0.ks aa).take (Int.toNat (i64.wrap (((ab.take n0).length:Int)+3)))).atInt ak)<|go ?_;refine lV (.bool (decide (ar=(-63)))) (Z6 (congrArg Value.bool aj) rfl)<|go ?_;exact ⟨rfl,_,_,hm,aa,rfl⟩
  refine lV (.bool false) (Xg (congrArg Value.bool aj) rfl)<|go ?_;exact ⟨rfl,_,_,hm,aa,rfl⟩
 refine lV (.bool false) (Xg (congrArg Value.bool ah) rfl)<|Xt rfl<|lP 22 rfl rfl<|lP 22 rfl rfl<|lP 22 rfl rfl<|lP 22 rfl rfl<|lP 22 rfl rfl<|lP 22 rfl rfl<|lP 22 rfl rfl<|lV (.bool false) (Xg rfl rfl)<|go ?_;exact ⟨rfl,_,_,hm,aa,rfl⟩
def Zad (aa:Bool):Option Bool:=
  some aa
def Zac (N:Nat) (af:R1) (aa:Re) (ab:R3) (ag:R5) (ac:Re) (ad:Re) (ah:Bool):Option Bool:=
  if ah=true then (some false) else ((Zgs N [((ac.1.1.1.1,ac.1.1.1.2),ac.1.1.2),((ac.1.2.1.1,ac.1.2.1.2),ac.1.2.2)]).bind fun ai=>(Zcs N (ab.1,ab.2.1.2.take ab.2.1.1,ab.2.2.1.map Xf,ab.2.2.2.1.map Xf,ab.2.2.2.2.map (Vf (Prod.map (Prod.map id Xf) Xf))) (ag.2.take ag.1)).bind fun ae=>if ai.1=true then ((Uh N ((ad.1.1.1.1,ad.1.1.1.2),ad.1.1.2) ((aa.1.1.1.1,aa.1.1.1.2),aa.1.1.2)).bind fun aj=>if aj=true then ((Uh N ((ad.1.2.1.1,ad.1.2.1.2),ad.1.2.2) ((aa.1.2.1.1,aa.1.2.1.2),aa.1.2.2)).bind fun ak=>if ak=true then ((Uh N ((ae.1.1.1.1,ae.1.1.1.2),ae.1.1.2) ((aa.1.1.1.1,aa.1.1.1.2),aa.1.1.2)).bind fun al=>if al=true then ((Uh N ((ae.1.2.1.1,ae.1.2.1.2),ae.1.2.2) ((aa.1.2.1.1,aa.1.2.1.2),aa.1.2.2)).bind fun am=>if am=true then ((Zdx N (ab.1,(ab.2.1.1,ab.2.1.2),ab.2.2.1,ab.2.2.2.1,ab.2.2.2.2) (af.1,af.2.1,af.2.2.1,af.2.2.2.1,af.2.2.2.2)).bind fun an=>Zad an) else (Zad false)) else (Zad false)) else (Zad false)) else (Zad false)) else (Zad false))
def Zkc (N:Nat) (aa:R1) (ag:List Int):Option Bool:=
  (Zhz N (aa.1,aa.2.1,aa.2.2.1,aa.2.2.2.1,aa.2.2.2.2)).bind fun ah=>if ah=true then (some true) else ((Zgw N (aa.1,aa.2.1,aa.2.2.1,aa.2.2.2.1,aa.2.2.2.2) ag).bind fun ac=>(Zgt N (aa.1,aa.2.1,aa.2.2.1,aa.2.2.2.1,aa.2.2.2.2)).bind fun ab=>(Zhy ag).bind fun ae=>(Zcs N (ab.1,ab.2.1.2.take ab.2.1.1,ab.2.2.1.map Xf,ab.2.2.2.1.map Xf,ab.2.2.2.2.map (Vf (Prod.map (Prod.map id Xf) Xf))) (ae.2.take ae.1)).bind fun ad=>(Zcs N (ab.1,ab.2.1.2.take ab.2.1.1,ab.2.2.1.map Xf,ab.2.2.2.1.map Xf,ab.2.2.2.2.map (Vf (Prod.map (Prod.map id Xf) Xf))) (ae.2.take ae.1)).bind fun af=>if (!decide (ad.2=ac.2))=true then (Zac N aa ac ab ae ad af true) else (if (!decide (af.2=ac.2))=true then (Zac N aa ac ab ae ad af true) else ((Uh N ((ad.1.1.1.1,ad.1.1.1.2),ad.1.1.2) ((ac.1.1.1.1,ac.1.1.1.2),ac.1.1.2)).bind fun ai=>if (!ai)=true then (Zac N aa ac ab ae ad af true) else ((Uh N ((ad.1.2.1.1,ad.1.2.1.2),ad.1.2.2) ((ac.1.2.1.1,ac.1.2.1.2),ac.1.2.2)).bind fun aj=>if (!aj)=true then (Zac N aa ac ab ae ad af true) else ((Zdx N (ab.1,(ab.2.1.1,ab.2.1.2),ab.2.2.1,ab.2.2.2.1,ab.2.2.2.2) (aa.1,aa.2.1,aa.2.2.1,aa.2.2.2.1,aa.2.2.2.2)).bind fun ak=>if (!ak)=true then (Zac N aa ac ab ae ad af true) else ((Zh0 N ae.1 ae.2 ag).bind fun al=>Zac N aa ac ab ae ad af (!al)))))))
theorem Zwl (N:Nat) (col:Zd) (w0:World) (dd:Option Addr) (de:Nat) (df:Option Addr) (dg:Nat) (dh:Option Addr) (di:Nat) (dj:Option Addr) (dk:Nat) (bo:R1) (a1:Option Addr) (ea:Nat) (dl:List Int) (ci:Sl Za.str col w0 dd de bo.2.1) (cj:Sl (Za.slice Za.str) col w0 df dg bo.2.2.1) (ck:Sl (Za.slice (Za.int .i64)) col w0 dh di bo.2.2.2.1) (cl:Sl (Za.slice (Za.pair (Za.pair Za.bool (Za.slice (Za.int .u32))) (Za.slice (Za.int .u32)))) col w0 dj dk bo.2.2.2.2) (h1:Sl (Za.int .i64) col w0 a1 ea dl) (r:Bool) (hm:Zkc N bo dl=some r):
    Calls Tryz.prog 4 #[(.agg #[.string bo.1,.slice dd bo.2.1.length de,.slice df bo.2.2.1.length dg,.slice dh bo.2.2.2.1.length di,.slice dj bo.2.2.2.2.length dk]),.slice a1 dl.length ea] w0 (fun e w'=>e= .returned ((.bool r))∧Below w0.heap.size w0 w'):=by
 refine Xb 4 (m:=122) func4 rfl rfl rfl rfl rfl ?_;rw [Zkc.eq_1] at hm;have ab:=St.start col w0;refine go ?_;refine Xh (col:=(Zi col)) 1 rfl ?_;intro ep eq eb er aj;refine go ?_;refine lV _ (Xj isAgg27 sizeOf27 aj) ?_;obtain ⟨gk,es,hm⟩:=bZ hm;replace ci:=ci.keep (Zj.start col w0);replace cj:=cj.keep (Zj.start col w0);replace ck:=ck.keep (Zj.start col w0);replace cl:=cl.keep (Zj.start col w0);replace ab:=ab.grow er;refine Zh (Zwn es (ci.ks ab) (cj.ks ab) (ck.ks ab) (cl.ks ab)) ?_;rintro _ et ⟨rfl,dc⟩;refine ⟨_,rfl,?_⟩;replace dc:Zf eb eq eb et:=.of_below dc;refine Zl ?_;replace h1:=h1.keep (Zj.start col w0);replace aj:=aj.gr dc;replace ab:=ab.grow dc;refine Zp hm (fun hb hm=>go ?_) fun hb hm=>go ?_
 ·cases hm;exact ⟨rfl,rfl,ab.below⟩
 refine lV _ (Xj isAgg27 sizeOf27 aj)<|Y3 rfl ?_;obtain ⟨ad,eu,hm⟩:=bZ hm;refine Zh (Zxv eu (ci.ks ab) (cj.ks ab) (ck.ks ab) (cl.ks ab) (h1.ks ab)) ?_;rintro _ gl ⟨ev,cm,cn,co,cp,cq,cr,ct,cu,rfl,ec,an,ao,al,am⟩;refine ⟨_,rfl,?_⟩;refine lM (.tuple #[(.agg #[.bool ad.1.1.1.1,.slice cm ad.1.1.1.2.length cn,.slice co ad.1.1.2.length cp,.bool ad.1.2.1.1,.slice cq ad.1.2.1.2.length cr,.slice ct ad.1.2.2.length cu]),.int .i64 ad.2])<|lV (.agg #[.bool ad.1.1.1.1,.slice cm ad.1.1.1.2.length cn,.slice co ad.1.1.2.length cp,.bool ad.1.2.1.1,.slice cq ad.1.2.1.2.length cr,.slice ct ad.1.2.2.length cu]) (X3 rfl rfl)<|lV (.int .i64 ad.2) (X3 rfl rfl)<|Xp (col:=ev) #[.bool false,.slice none (([]:List Int).length) 0,.slice none (([]:List Int).length) 0,.bool false,.slice none (([]:List Int).length) 0,.slice none (([]:List Int).length) 0] 2 zeroValue49 ?_;intro cv gm gn cx ew;refine Z7 ew ?_;intro gp cy ex ak;refine go ?_;replace aj:=((aj.gr ec).gr cx).kp cy;refine lV _ (Xj isAgg27 sizeOf27 aj) ?_;obtain ⟨aa,ey,hm⟩:=bZ hm;replace ab:=((ab.grow ec).grow cx).kp cy ex;refine Zh (Zxr ey (ci.ks ab) (cj.ks ab) (ck.ks ab) (cl.ks ab)) ?_;rintro _ gq ⟨ez,b8,b9,ca,cb,cc,cd,ce,cf,rfl,cw,ae,af,ag,ah⟩;refine ⟨_,rfl,?_⟩;refine Xp (col:=ez) #[.string (⟨#[]⟩),.slice none (([]:List ByteArray).length) 0,.slice none (([]:List Ra).length) 0,.slice none (([]:List R2).length) 0,(.slice none (([]:List R8).length) 0)] 3 zeroValue27 ?_;intro e0 gs gt br e1;refine Z7 e1 ?_;intro gu bs e2 ai;refine go ?_;obtain ⟨c2,e3,hm⟩:=bZ hm;replace ab:=((ab.grow cw).grow br).kp bs e2;refine Zh (Zwm 4 e3 (h1.ks ab)) ?_;rintro _ e4 ⟨cz,e5,e6,rfl,bq,aq⟩;refine ⟨_,rfl,go ?_⟩;replace ai:=ai.gr bq;refine lV _ (Xj isAgg27 sizeOf27 ai)<|Y3 rfl ?_
 have e7:((.agg #[.string aa.1,.slice b8 ((aa.2.1.2.take aa.2.1.1).length) b9,.slice ca aa.2.2.1.length cb,.slice cc aa.2.2.2.1.length cd,.slice ce aa.2.2.2.2.length cf]):Value)=(.agg #[.string aa.1,(.slice b8 (aa.1,aa.2.1.2.take aa.2.1.1,aa.2.2.1.map Xf,aa.2.2.2.1.map Xf,aa.2.2.2.2.map (Vf (Prod.map (Prod.map id Xf) Xf))).2.1.length b9),(.slice ca (aa.1,aa.2.1.2.take aa.2.1.1,aa.2.2.1.map Xf,aa.2.2.2.1.map Xf,aa.2.2.2.2.map (Vf (Prod.map (Prod.map id Xf) Xf))).2.2.1.length cb),(.slice cc (aa.1,aa.2.1.2.take aa.2.1.1,aa.2.2.1.map Xf,aa.2.2.2.1.map Xf,aa.2.2.2.2.map (Vf (Prod.map (Prod.map id Xf) Xf))).2.2.2.1.length cd),(.slice ce (aa.1,aa.2.1.2.take aa.2.1.1,aa.2.2.1.map Xf,aa.2.2.2.1.map Xf,aa.2.2.2.2.map (Vf (Prod.map (Prod.map id Xf) Xf))).2.2.2.2.length cf)]):=by first | (simp only [List.length_map];done) | simp only [List.length_map,List.take_length]
 obtain ⟨ac,e8,hm⟩:=bZ hm;replace ae:=((ae.gr br).kp bs).gr bq;replace af:=((af.gr br).kp bs).gr bq;replace ag:=((ag.gr br).kp bs).gr bq;replace ah:=((ah.gr br).kp bs).gr bq;refine lc rfl rfl (Q0 call24 e7 rfl) (Zl0 5 6 7 8 e8 ((ae.take aa.2.1.1).froz 4) ((af.froz 4).weak Yj.view0) ((ag.froz 4).weak Yj.view0) ((ah.froz 4).weak (Yj.view (Yj.pair (Yj.pair Yj.rfl Yj.view0) Yj.view0))) ((aq.take c2.1).toSlF (Zm.int .i64)):) ?_;rintro _ gv ⟨e9,bw,bx,bz,b0,b1,b2,b3,b4,rfl,bi,bc,bd,a6,a7⟩;refine ⟨_,rfl,?_⟩;replace bc:=bc.thaw (Zz .u32) bi ((Fz.refl (col:=cz)).froz 4) (by decide);replace bd:=bd.thaw (Zz .u32) bi ((Fz.refl (col:=cz)).froz 4) (by decide);replace a6:=a6.thaw (Zz .u32) bi ((Fz.refl (col:=cz)).froz 4) (by decide);replace a7:=a7.thaw (Zz .u32) bi ((Fz.refl (col:=cz)).froz 4) (by decide);replace bi:=bi.thawR (col:=cz);generalize Xa e4.heap.size cz e9=fa at *;refine lM (.tuple #[(.agg #[.bool ac.1.1.1.1,.slice bw ac.1.1.1.2.length bx,.slice bz ac.1.1.2.length b0,.bool ac.1.2.1.1,.slice b1 ac.1.2.1.2.length b2,.slice b3 ac.1.2.2.length b4]),.int .i64 ac.2])<|lV (.agg #[.bool ac.1.1.1.1,.slice bw ac.1.1.1.2.length bx,.slice bz ac.1.1.2.length b0,.bool ac.1.2.1.1,.slice b1 ac.1.2.1.2.length b2,.slice b3 ac.1.2.2.length b4]) (X3 rfl rfl)<|lV (.int .i64 ac.2) (X3 rfl rfl)<|Xp (col:=fa) #[.bool false,.slice none (([]:List Int).length) 0,.slice none (([]:List Int).length) 0,.bool false,.slice none (([]:List Int).length) 0,.slice none (([]:List Int).length) 0] 9 zeroValue49 ?_;intro c3 gw c0 bm fb;refine Z7 fb ?_;intro fc bn fd be;refine go ?_;replace ai:=((ai.gr bi).gr bm).kp bn;refine lV _ (Xj isAgg27 sizeOf27 ai)<|Y3 rfl ?_
 have fe:((.agg #[.string aa.1,.slice b8 ((aa.2.1.2.take aa.2.1.1).length) b9,.slice ca aa.2.2.1.length cb,.slice cc aa.2.2.2.1.length cd,.slice ce aa.2.2.2.2.length cf]):Value)=(.agg #[.string aa.1,(.slice b8 (aa.1,aa.2.1.2.take aa.2.1.1,aa.2.2.1.map Xf,aa.2.2.2.1.map Xf,aa.2.2.2.2.map (Vf (Prod.map (Prod.map id Xf) Xf))).2.1.length b9),(.slice ca (aa.1,aa.2.1.2.take aa.2.1.1,aa.2.2.1.map Xf,aa.2.2.2.1.map Xf,aa.2.2.2.2.map (Vf (Prod.map (Prod.map id Xf) Xf))).2.2.1.length cb),(.slice cc (aa.1,aa.2.1.2.take aa.2.1.1,aa.2.2.1.map Xf,aa.2.2.2.1.map Xf,aa.2.2.2.2.map (Vf (Prod.map (Prod.map id Xf) Xf))).2.2.2.1.length cd),(.slice ce (aa.1,aa.2.1.2.take aa.2.1.1,aa.2.2.1.map Xf,aa.2.2.2.1.map Xf,aa.2.2.2.2.map (Vf (Prod.map (Prod.map id Xf) Xf))).2.2.2.2.length cf)]):=by first | (simp only [List.length_map];done) | simp only [List.length_map,List.take_length]
 obtain ⟨ap,ff,hm⟩:=bZ hm;replace ae:=((ae.gr bi).gr bm).kp bn;replace af:=((af.gr bi).gr bm).kp bn;replace ag:=((ag.gr bi).gr bm).kp bn;replace ah:=((ah.gr bi).gr bm).kp bn;replace aq:=((aq.gr bi).gr bm).kp bn;refine lc rfl rfl (Q0 call24 fe rfl) (Zl0 10 11 12 13 ff ((ae.take aa.2.1.1).froz 4) ((af.froz 4).weak Yj.view0) ((ag.froz 4).weak Yj.view0) ((ah.froz 4).weak (Yj.view (Yj.pair (Yj.pair Yj.rfl Yj.view0) Yj.view0))) ((aq.take c2.1).toSlF (Zm.int .i64)):) ?_;rintro _ gx ⟨fg,c4,c5,c6,c7,c8,c9,da,db,rfl,a5,av,aw,ar,au⟩;refine ⟨_,rfl,?_⟩;replace av:=av.thaw (Zz .u32) a5 ((Fz.refl (col:=c0)).froz 4) (by decide);replace aw:=aw.thaw (Zz .u32) a5 ((Fz.refl (col:=c0)).froz 4) (by decide);replace ar:=ar.thaw (Zz .u32) a5 ((Fz.refl (col:=c0)).froz 4) (by decide);replace au:=au.thaw (Zz .u32) a5 ((Fz.refl (col:=c0)).froz 4) (by decide);replace a5:=a5.thawR (col:=c0);generalize Xa fc.heap.size c0 fg=fh at *;refine lM (.tuple #[(.agg #[.bool ap.1.1.1.1,.slice c4 ap.1.1.1.2.length c5,.slice c6 ap.1.1.2.length c7,.bool ap.1.2.1.1,.slice c8 ap.1.2.1.2.length c9,.slice da ap.1.2.2.length db]),.int .i64 ap.2])<|lV (.agg #[.bool ap.1.1.1.1,.slice c4 ap.1.1.1.2.length c5,.slice c6 ap.1.1.2.length c7,.bool ap.1.2.1.1,.slice c8 ap.1.2.1.2.length c9,.slice da ap.1.2.2.length db]) (X3 rfl rfl)<|lV (.int .i64 ap.2) (X3 rfl rfl)<|Xp (col:=fh) #[.bool false,.slice none (([]:List Int).length) 0,.slice none (([]:List Int).length) 0,.bool false,.slice none (([]:List Int).length) 0,.slice none (([]:List Int).length) 0] 14 zeroValue49 ?_;intro dm gy cg a9 fi;refine Z7 fi ?_;intro fj ba fk ax;refine Yu rfl<|Zl<|Zv<|Zv ?_;replace an:=(((((((((((an.gr cx).kp cy).gr cw).gr br).kp bs).gr bq).gr bi).gr bm).kp bn).gr a5).gr a9).kp ba;replace ao:=(((((((((((ao.gr cx).kp cy).gr cw).gr br).kp bs).gr bq).gr bi).gr bm).kp bn).gr a5).gr a9).kp ba;replace al:=(((((((((((al.gr cx).kp cy).gr cw).gr br).kp bs).gr bq).gr bi).gr bm).kp bn).gr a5).gr a9).kp ba
 replace am:=(((((((((((am.gr cx).kp cy).gr cw).gr br).kp bs).gr bq).gr bi).gr bm).kp bn).gr a5).gr a9).kp ba;replace aj:=(((((((((aj.gr cw).gr br).kp bs).gr bq).gr bi).gr bm).kp bn).gr a5).gr a9).kp ba;replace ak:=(((((((((ak.gr cw).gr br).kp bs).gr bq).gr bi).gr bm).kp bn).gr a5).gr a9).kp ba;replace ab:=((((((ab.grow bq).grow bi).grow bm).kp bn fd).grow a5).grow a9).kp ba fk;replace bc:=((((bc.gr bm).kp bn).gr a5).gr a9).kp ba;replace bd:=((((bd.gr bm).kp bn).gr a5).gr a9).kp ba;replace a6:=((((a6.gr bm).kp bn).gr a5).gr a9).kp ba;replace a7:=((((a7.gr bm).kp bn).gr a5).gr a9).kp ba;replace ae:=((ae.gr a5).gr a9).kp ba;replace af:=((af.gr a5).gr a9).kp ba;replace ag:=((ag.gr a5).gr a9).kp ba;replace ah:=((ah.gr a5).gr a9).kp ba;replace aq:=((aq.gr a5).gr a9).kp ba;replace ai:=((ai.gr a5).gr a9).kp ba;replace be:=((be.gr a5).gr a9).kp ba;replace av:=(av.gr a9).kp ba;replace aw:=(aw.gr a9).kp ba;replace ar:=(ar.gr a9).kp ba;replace au:=(au.gr a9).kp ba
 refine Wp.cutK [11,2,5,7,8,9,1000000] (fun f az=>∃ ay dn,Zac N bo ad aa c2 ac ap dn=some r∧St w0 (Zi col) ay az∧Zc (Za.int .u32) 79 10 ay az c4 c5 ap.1.1.1.2∧Zc (Za.int .u32) 79 11 ay az c6 c7 ap.1.1.2∧Zc (Za.int .u32) 79 12 ay az c8 c9 ap.1.2.1.2∧Zc (Za.int .u32) 79 13 ay az da db ap.1.2.2∧Zn 49 14 ay az dm #[.bool ap.1.1.1.1,.slice c4 ap.1.1.1.2.length c5,.slice c6 ap.1.1.2.length c7,.bool ap.1.2.1.1,.slice c8 ap.1.2.1.2.length c9,.slice da ap.1.2.2.length db]∧Zn 27 1 ay az ep #[.string bo.1,.slice dd bo.2.1.length de,.slice df bo.2.2.1.length dg,.slice dh bo.2.2.2.1.length di,.slice dj bo.2.2.2.2.length dk]∧Sl (Za.int .u32) ay az cm cn ad.1.1.1.2∧Sl (Za.int .u32) ay az co cp ad.1.1.2∧Sl (Za.int .u32) ay az cq cr ad.1.2.1.2∧Sl (Za.int .u32) ay az ct cu ad.1.2.2∧Zn 49 2 ay az cv #[.bool ad.1.1.1.1,.slice cm ad.1.1.1.2.length cn,.slice co ad.1.1.2.length cp,.bool ad.1.2.1.1,.slice cq ad.1.2.1.2.length cr,.slice ct ad.1.2.2.length cu]∧Sl Za.str ay az b8 b9 aa.2.1.2∧Sl (Za.view Za.str) ay az ca cb aa.2.2.1∧Sl (Za.view (Za.int .i64)) ay az cc cd aa.2.2.2.1∧Sl (Za.view (Za.pair (Za.pair Za.bool (Za.view (Za.int .u32))) (Za.view (Za.int .u32)))) ay az ce cf aa.2.2.2.2∧Zn 27 3 ay az e0 #[.string aa.1,.slice b8 ((aa.2.1.2.take aa.2.1.1).length) b9,.slice ca aa.2.2.1.length cb,.slice cc aa.2.2.2.1.length cd,.slice ce aa.2.2.2.2.length cf]∧Zc (Za.int .i64) 3 4 ay az e5 e6 c2.2∧Zc (Za.int .u32) 79 5 ay az bw bx ac.1.1.1.2∧Zc (Za.int .u32) 79 6 ay az bz b0 ac.1.1.2∧Zc (Za.int .u32) 79 7 ay az b1 b2 ac.1.2.1.2∧Zc (Za.int .u32) 79 8 ay az b3 b4 ac.1.2.2∧Zn 49 9 ay az c3 #[.bool ac.1.1.1.1,.slice bw ac.1.1.1.2.length bx,.slice bz ac.1.1.2.length b0,.bool ac.1.2.1.1,.slice b1 ac.1.2.1.2.length b2,.slice b3 ac.1.2.2.length b4]∧[75].map f=[.bool dn]) ?_ ?_
 ·intro f az hJ;obtain ⟨ay,dn,hm,ab,av,aw,ar,au,ax,aj,an,ao,al,am,ak,ae,af,ag,ah,ai,aq,bc,bd,a6,a7,be,hs⟩:=hJ;rw [Zac.eq_1] at hm;refine .lL [75] hs ?_;refine Zp hm (fun hb hm=>go ?_) fun hb hm=>go ?_
  ·cases hm;exact ⟨rfl,rfl,ab.below⟩
  refine lF c3 0 underlying49 rfl sizeOf47<|lV (.agg #[.bool ac.1.1.1.1,.slice bw ac.1.1.1.2.length bx,.slice bz ac.1.1.2.length b0]) (Xq isAgg47 sizeOf47 rfl rfl ((be.atN).part 0 3 _ rfl))<|lF c3 3 underlying49 rfl sizeOf47<|lV (.agg #[.bool ac.1.2.1.1,.slice b1 ac.1.2.1.2.length b2,.slice b3 ac.1.2.2.length b4]) (Xq isAgg47 sizeOf47 rfl rfl ((be.atN).part 3 3 _ rfl)) ?_;have fl:=X4.join (X4.joinL (Tq ac.1.1.1.1) bc.has) bd.has (by decide) (by decide);replace av:=av.recol 6 5 (by decide);replace aw:=aw.recol 6 5 (by decide);replace ar:=ar.recol 6 5 (by decide);replace au:=au.recol 6 5 (by decide);replace an:=an.recol 6 5 (by decide);replace ao:=ao.recol 6 5 (by decide);replace al:=al.recol 6 5 (by decide);replace am:=am.recol 6 5 (by decide);replace ae:=ae.recol 6 5 (by decide);replace af:=af.recol 6 5 (by decide);replace ag:=ag.recol 6 5 (by decide);replace ah:=ah.recol 6 5 (by decide);replace aq:=aq.recol 6 5 (by decide);replace a6:=a6.recol 6 5 (by decide);replace a7:=a7.recol 6 5 (by decide);replace ax:=ax.recol 6 5 (by decide);replace aj:=aj.recol 6 5 (by decide);replace ak:=ak.recol 6 5 (by decide);replace ai:=ai.recol 6 5 (by decide);replace ab:=ab.recol 6 5 (by decide) (by decide);have dp:X4 (Za.pair (Za.pair Za.bool (Za.row 79 (Za.int .u32))) (Za.row 79 (Za.int .u32))) 5 (Xx 6 5 ay) az [.bool ac.1.1.1.1,.slice bw ac.1.1.1.2.length bx,.slice bz ac.1.1.2.length b0] ((ac.1.1.1.1,ac.1.1.1.2),ac.1.1.2):=fl;have fm:=X4.join (X4.joinL (Tq ac.1.2.1.1) a6.has) a7.has (by decide) (by decide);replace av:=av.recol 8 7 (by decide);replace aw:=aw.recol 8 7 (by decide);replace ar:=ar.recol 8 7 (by decide);replace au:=au.recol 8 7 (by decide);replace an:=an.recol 8 7 (by decide);replace ao:=ao.recol 8 7 (by decide);replace al:=al.recol 8 7 (by decide);replace am:=am.recol 8 7 (by decide);replace ae:=ae.recol 8 7 (by decide);replace af:=af.recol 8 7 (by decide);replace ag:=ag.recol 8 7 (by decide);replace ah:=ah.recol 8 7 (by decide);replace aq:=aq.recol 8 7 (by decide);replace ax:=ax.recol 8 7 (by decide);replace aj:=aj.recol 8 7 (by decide);replace ak:=ak.recol 8 7 (by decide);replace ai:=ai.recol 8 7 (by decide);replace ab:=ab.recol 8 7 (by decide) (by decide);replace dp:=dp.recol 8 7 (by decide)
  have fn:X4 (Za.pair (Za.pair Za.bool (Za.row 79 (Za.int .u32))) (Za.row 79 (Za.int .u32))) 7 (Xx 8 7 (Xx 6 5 ay)) az [.bool ac.1.2.1.1,.slice b1 ac.1.2.1.2.length b2,.slice b3 ac.1.2.2.length b4] ((ac.1.2.1.1,ac.1.2.1.2),ac.1.2.2):=fm;have fo:=Wu.cons (cs:=[.bool ac.1.1.1.1,.slice bw ac.1.1.1.2.length bx,.slice bz ac.1.1.2.length b0]) dp (Wu.cons1 (cs:=[.bool ac.1.2.1.1,.slice b1 ac.1.2.1.2.length b2,.slice b3 ac.1.2.2.length b4]) fn Rows.nil0) (by decide) (by decide);replace av:=av.recol 5 7 (by decide);replace aw:=aw.recol 5 7 (by decide);replace ar:=ar.recol 5 7 (by decide);replace au:=au.recol 5 7 (by decide);replace an:=an.recol 5 7 (by decide);replace ao:=ao.recol 5 7 (by decide);replace al:=al.recol 5 7 (by decide);replace am:=am.recol 5 7 (by decide);replace ae:=ae.recol 5 7 (by decide);replace af:=af.recol 5 7 (by decide);replace ag:=ag.recol 5 7 (by decide);replace ah:=ah.recol 5 7 (by decide);replace aq:=aq.recol 5 7 (by decide);replace ax:=ax.recol 5 7 (by decide);replace aj:=aj.recol 5 7 (by decide);replace ak:=ak.recol 5 7 (by decide);replace ai:=ai.recol 5 7 (by decide);replace ab:=ab.recol 5 7 (by decide) (by decide);refine Q7 (col:=(Xx 5 7 (Xx 8 7 (Xx 6 5 ay)))) (r:=(Za.pair (Za.pair Za.bool (Za.row 79 (Za.int .u32))) (Za.row 79 (Za.int .u32)))) (xs:=[((ac.1.1.1.1,ac.1.1.1.2),ac.1.1.2),((ac.1.2.1.1,ac.1.2.1.2),ac.1.2.2)]) [(.agg #[.bool ac.1.1.1.1,.slice bw ac.1.1.1.2.length bx,.slice bz ac.1.1.2.length b0]),(.agg #[.bool ac.1.2.1.1,.slice b1 ac.1.2.1.2.length b2,.slice b3 ac.1.2.2.length b4])] 7 fo ?_;intro ed gz g0 bk fp;obtain ⟨ee,fq,hm⟩:=bZ hm;refine Zh (Zxq 7 fq rfl fp) ?_;rintro _ fr ⟨c1,rfl,bl,g1,fs⟩;refine ⟨_,rfl,?_⟩;refine .ld (d:=80) (v:=(.slice ed ee.2.length 2)) (congrArg (fun n=>Value.slice ed n 2) (show [((ac.1.1.1.1,ac.1.1.1.2),ac.1.1.2),((ac.1.2.1.1,ac.1.2.1.2),ac.1.2.2)].length=ee.2.length from fs.symm)) ?_;refine go ?_;replace ai:=(ai.gr bk).kpp bl;refine lV _ (Xj isAgg27 sizeOf27 ai)<|Y3 rfl ?_
  have ft:((.agg #[.string aa.1,.slice b8 ((aa.2.1.2.take aa.2.1.1).length) b9,.slice ca aa.2.2.1.length cb,.slice cc aa.2.2.2.1.length cd,.slice ce aa.2.2.2.2.length cf]):Value)=(.agg #[.string aa.1,(.slice b8 (aa.1,aa.2.1.2.take aa.2.1.1,aa.2.2.1.map Xf,aa.2.2.2.1.map Xf,aa.2.2.2.2.map (Vf (Prod.map (Prod.map id Xf) Xf))).2.1.length b9),(.slice ca (aa.1,aa.2.1.2.take aa.2.1.1,aa.2.2.1.map Xf,aa.2.2.2.1.map Xf,aa.2.2.2.2.map (Vf (Prod.map (Prod.map id Xf) Xf))).2.2.1.length cb),(.slice cc (aa.1,aa.2.1.2.take aa.2.1.1,aa.2.2.1.map Xf,aa.2.2.2.1.map Xf,aa.2.2.2.2.map (Vf (Prod.map (Prod.map id Xf) Xf))).2.2.2.1.length cd),(.slice ce (aa.1,aa.2.1.2.take aa.2.1.1,aa.2.2.1.map Xf,aa.2.2.2.1.map Xf,aa.2.2.2.2.map (Vf (Prod.map (Prod.map id Xf) Xf))).2.2.2.2.length cf)]):=by first | (simp only [List.length_map];done) | simp only [List.length_map,List.take_length]
  obtain ⟨bh,fu,hm⟩:=bZ hm;replace ae:=(ae.gr bk).kpp bl;replace af:=(af.gr bk).kpp bl;replace ag:=(ag.gr bk).kpp bl;replace ah:=(ah.gr bk).kpp bl;replace aq:=(aq.gr bk).kpp bl;refine lc rfl rfl (Q0 call24 ft rfl) (Zl0 15 16 17 18 fu ((ae.take aa.2.1.1).froz 4) ((af.froz 4).weak Yj.view0) ((ag.froz 4).weak Yj.view0) ((ah.froz 4).weak (Yj.view (Yj.pair (Yj.pair Yj.rfl Yj.view0) Yj.view0))) ((aq.take c2.1).toSlF (Zm.int .i64)):) ?_;rintro _ g2 ⟨fv,dq,dr,ds,dt,du,dv,dw,dx,rfl,a8,b5,b6,bt,bu⟩;refine ⟨_,rfl,?_⟩;replace b5:=b5.thaw (Zz .u32) a8 ((Fz.refl (col:=c1)).froz 4) (by decide);replace b6:=b6.thaw (Zz .u32) a8 ((Fz.refl (col:=c1)).froz 4) (by decide);replace bt:=bt.thaw (Zz .u32) a8 ((Fz.refl (col:=c1)).froz 4) (by decide);replace bu:=bu.thaw (Zz .u32) a8 ((Fz.refl (col:=c1)).froz 4) (by decide);replace a8:=a8.thawR (col:=c1);generalize Xa fr.heap.size c1 fv=fw at *;refine lM (.tuple #[(.agg #[.bool bh.1.1.1.1,.slice dq bh.1.1.1.2.length dr,.slice ds bh.1.1.2.length dt,.bool bh.1.2.1.1,.slice du bh.1.2.1.2.length dv,.slice dw bh.1.2.2.length dx]),.int .i64 bh.2])<|lV (.agg #[.bool bh.1.1.1.1,.slice dq bh.1.1.1.2.length dr,.slice ds bh.1.1.2.length dt,.bool bh.1.2.1.1,.slice du bh.1.2.1.2.length dv,.slice dw bh.1.2.2.length dx]) (X3 rfl rfl)<|lV (.int .i64 bh.2) (X3 rfl rfl)<|Xp (col:=fw) #[.bool false,.slice none (([]:List Int).length) 0,.slice none (([]:List Int).length) 0,.bool false,.slice none (([]:List Int).length) 0,.slice none (([]:List Int).length) 0] 19 zeroValue49 ?_;intro ef g3 bv bf fx;refine Z7 fx ?_;intro fy bg fz ch;refine Yu rfl<|Zl<|Zv ?_;replace av:=((((av.gr bk).kpp bl).gr a8).gr bf).kp bg;replace aw:=((((aw.gr bk).kpp bl).gr a8).gr bf).kp bg;replace ar:=((((ar.gr bk).kpp bl).gr a8).gr bf).kp bg;replace au:=((((au.gr bk).kpp bl).gr a8).gr bf).kp bg;replace an:=((((an.gr bk).kpp bl).gr a8).gr bf).kp bg;replace ao:=((((ao.gr bk).kpp bl).gr a8).gr bf).kp bg
  replace al:=((((al.gr bk).kpp bl).gr a8).gr bf).kp bg;replace am:=((((am.gr bk).kpp bl).gr a8).gr bf).kp bg;replace ax:=((((ax.gr bk).kpp bl).gr a8).gr bf).kp bg;replace aj:=((((aj.gr bk).kpp bl).gr a8).gr bf).kp bg;replace ak:=((((ak.gr bk).kpp bl).gr a8).gr bf).kp bg;replace ab:=((((ab.grow bk).kpp bl).grow a8).grow bf).kp bg fz;replace ae:=((ae.gr a8).gr bf).kp bg;replace af:=((af.gr a8).gr bf).kp bg;replace ag:=((ag.gr a8).gr bf).kp bg;replace ah:=((ah.gr a8).gr bf).kp bg;replace ai:=((ai.gr a8).gr bf).kp bg;replace b5:=(b5.gr bf).kp bg;replace b6:=(b6.gr bf).kp bg;replace bt:=(bt.gr bf).kp bg;replace bu:=(bu.gr bf).kp bg;refine Wp.cutK [1000000] (fun f eg=>∃ eh dy,Zad dy=some r∧St w0 (Zi col) eh eg∧[4].map f=[.bool dy]) ?_ ?_
  ·intro f eg hJ;obtain ⟨eh,dy,hm,ab,hs⟩:=hJ;rw [Zad.eq_1] at hm;refine .lL [4] hs<|Y5 ?_;cases hm;exact ⟨rfl,rfl,ab.below⟩
  refine go ?_;refine Xr hm (fun dz hm=>go ?_) fun dz hm=>go ?_
  ·refine lF dm 0 underlying49 rfl sizeOf47<|go ?_;refine lV (.agg #[.bool ap.1.1.1.1,.slice c4 ap.1.1.1.2.length c5,.slice c6 ap.1.1.2.length c7]) (Xq isAgg47 sizeOf47 rfl rfl ((ax.atN).part 0 3 _ rfl))<|go ?_;refine lF cv 0 underlying49 rfl sizeOf47<|go ?_;refine lV (.agg #[.bool ad.1.1.1.1,.slice cm ad.1.1.1.2.length cn,.slice co ad.1.1.2.length cp]) (Xq isAgg47 sizeOf47 rfl rfl ((ak.atN).part 0 3 _ rfl))<|go ?_;obtain ⟨f0,f1,hm⟩:=bZ hm;refine Zh (Zcj f1 ((av.toSlF (Zm.int .u32)).froz 11) ((aw.froz 10 (by decide)).toSlF (Zm.int .u32)) ((an.froz 10).froz 11) ((ao.froz 10).froz 11)) ?_;rintro _ ei ⟨rfl,bb⟩;refine ⟨_,rfl,?_⟩;replace bb:Zf bv fy bv ei:=.of_below bb;refine lV (.bool f0) (Z6 (congrArg Value.bool dz) rfl)<|Xt rfl ?_;replace ar:=ar.gr bb;replace au:=au.gr bb;replace an:=an.gr bb;replace ao:=ao.gr bb;replace al:=al.gr bb;replace am:=am.gr bb;replace ae:=ae.gr bb;replace af:=af.gr bb;replace ag:=ag.gr bb;replace ah:=ah.gr bb;replace b5:=b5.gr bb;replace b6:=b6.gr bb;replace bt:=bt.gr bb;replace bu:=bu.gr bb;replace ax:=ax.gr bb;replace aj:=aj.gr bb;replace ak:=ak.gr bb;replace ai:=ai.gr bb;replace ch:=ch.gr bb;replace ab:=ab.grow bb;refine Xr hm (fun d0 hm=>go ?_) fun d0 hm=>go ?_
   ·refine lF dm 3 underlying49 rfl sizeOf47<|go ?_;refine lV (.agg #[.bool ap.1.2.1.1,.slice c8 ap.1.2.1.2.length c9,.slice da ap.1.2.2.length db]) (Xq isAgg47 sizeOf47 rfl rfl ((ax.atN).part 3 3 _ rfl))<|go ?_;refine lF cv 3 underlying49 rfl sizeOf47<|go ?_;refine lV (.agg #[.bool ad.1.2.1.1,.slice cq ad.1.2.1.2.length cr,.slice ct ad.1.2.2.length cu]) (Xq isAgg47 sizeOf47 rfl rfl ((ak.atN).part 3 3 _ rfl))<|go ?_;obtain ⟨f2,f3,hm⟩:=bZ hm;refine Zh (Zcj f3 ((ar.toSlF (Zm.int .u32)).froz 13) ((au.froz 12 (by decide)).toSlF (Zm.int .u32)) ((al.froz 12).froz 13) ((am.froz 12).froz 13)) ?_;rintro _ ej ⟨rfl,bj⟩;refine ⟨_,rfl,?_⟩;replace bj:Zf bv ei bv ej:=.of_below bj;refine lV (.bool f2) (Z6 (congrArg Value.bool d0) rfl)<|Xt rfl ?_;replace an:=an.gr bj;replace ao:=ao.gr bj;replace al:=al.gr bj;replace am:=am.gr bj;replace ae:=ae.gr bj;replace af:=af.gr bj;replace ag:=ag.gr bj;replace ah:=ah.gr bj;replace b5:=b5.gr bj;replace b6:=b6.gr bj;replace bt:=bt.gr bj;replace bu:=bu.gr bj;replace aj:=aj.gr bj;replace ak:=ak.gr bj;replace ai:=ai.gr bj;replace ch:=ch.gr bj;replace ab:=ab.grow bj;refine Xr hm (fun d1 hm=>go ?_) fun d1 hm=>go ?_
    ·refine lF ef 0 underlying49 rfl sizeOf47<|go ?_;refine lV (.agg #[.bool bh.1.1.1.1,.slice dq bh.1.1.1.2.length dr,.slice ds bh.1.1.2.length dt]) (Xq isAgg47 sizeOf47 rfl rfl ((ch.atN).part 0 3 _ rfl))<|go ?_;refine lF cv 0 underlying49 rfl sizeOf47<|go ?_;refine lV (.agg #[.bool ad.1.1.1.1,.slice cm ad.1.1.1.2.length cn,.slice co ad.1.1.2.length cp]) (Xq isAgg47 sizeOf47 rfl rfl ((ak.atN).part 0 3 _ rfl))<|go ?_;obtain ⟨f4,f5,hm⟩:=bZ hm;refine Zh (Zcj f5 ((b5.toSlF (Zm.int .u32)).froz 16) ((b6.froz 15 (by decide)).toSlF (Zm.int .u32)) ((an.froz 15).froz 16) ((ao.froz 15).froz 16)) ?_;rintro _ ek ⟨rfl,bp⟩;refine ⟨_,rfl,?_⟩;replace bp:Zf bv ej bv ek:=.of_below bp;refine lV (.bool f4) (Z6 (congrArg Value.bool d1) rfl)<|Xt rfl ?_;replace al:=al.gr bp;replace am:=am.gr bp;replace ae:=ae.gr bp;replace af:=af.gr bp;replace ag:=ag.gr bp;replace ah:=ah.gr bp;replace bt:=bt.gr bp;replace bu:=bu.gr bp;replace aj:=aj.gr bp;replace ak:=ak.gr bp;replace ai:=ai.gr bp;replace ch:=ch.gr bp;replace ab:=ab.grow bp;refine Xr hm (fun d2 hm=>go ?_) fun d2 hm=>go ?_
     ·refine lF ef 3 underlying49 rfl sizeOf47<|go ?_;refine lV (.agg #[.bool bh.1.2.1.1,.slice du bh.1.2.1.2.length dv,.slice dw bh.1.2.2.length dx]) (Xq isAgg47 sizeOf47 rfl rfl ((ch.atN).part 3 3 _ rfl))<|go ?_;refine lF cv 3 underlying49 rfl sizeOf47<|go ?_;refine lV (.agg #[.bool ad.1.2.1.1,.slice cq ad.1.2.1.2.length cr,.slice ct ad.1.2.2.length cu]) (Xq isAgg47 sizeOf47 rfl rfl ((ak.atN).part 3 3 _ rfl))<|go ?_;obtain ⟨f6,f7,hm⟩:=bZ hm;refine Zh (Zcj f7 ((bt.toSlF (Zm.int .u32)).froz 18) ((bu.froz 17 (by decide)).toSlF (Zm.int .u32)) ((al.froz 17).froz 18) ((am.froz 17).froz 18)) ?_;rintro _ el ⟨rfl,b7⟩;refine ⟨_,rfl,?_⟩;replace b7:Zf bv ek bv el:=.of_below b7;refine lV (.bool f6) (Z6 (congrArg Value.bool d2) rfl)<|Xt rfl ?_;replace ae:=ae.gr b7;replace af:=af.gr b7;replace ag:=ag.gr b7;replace ah:=ah.gr b7;replace aj:=aj.gr b7;replace ai:=ai.gr b7;replace ab:=ab.grow b7;refine Xr hm (fun d3 hm=>go ?_) fun d3 hm=>go ?_
      ·refine lV _ (Xj isAgg27 sizeOf27 ai)<|go ?_;refine lV _ (Xj isAgg27 sizeOf27 aj)<|go ?_;obtain ⟨f8,f9,hm⟩:=bZ hm;refine Zh (Zo3 f9 ae af ag ah (ci.ks ab) (cj.ks ab) (ck.ks ab) (cl.ks ab)) ?_;rintro _ ga ⟨rfl,d4⟩;refine ⟨_,rfl,?_⟩;replace d4:Zf bv el bv ga:=.of_below d4;refine lV (.bool f8) (Z6 (congrArg Value.bool d3) rfl)<|go ?_;replace ab:=ab.grow d4;exact ⟨rfl,_,_,hm,ab,rfl⟩
      refine lV (.bool false) (Xg (congrArg Value.bool d3) rfl)<|go ?_;exact ⟨rfl,_,_,hm,ab,rfl⟩
     refine lV (.bool false) (Xg (congrArg Value.bool d2) rfl)<|Xt rfl<|lP 117 rfl rfl<|lP 117 rfl rfl<|lP 117 rfl rfl<|lV (.bool false) (Xg rfl rfl)<|go ?_;exact ⟨rfl,_,_,hm,ab,rfl⟩
    refine lV (.bool false) (Xg (congrArg Value.bool d1) rfl)<|Xt rfl<|lP 110 rfl rfl<|lP 110 rfl rfl<|lP 110 rfl rfl<|lP 110 rfl rfl<|lP 110 rfl rfl<|lV (.bool false) (Xg rfl rfl)<|Xt rfl<|lP 117 rfl rfl<|lP 117 rfl rfl<|lP 117 rfl rfl<|lV (.bool false) (Xg rfl rfl)<|go ?_;exact ⟨rfl,_,_,hm,ab,rfl⟩
   refine lV (.bool false) (Xg (congrArg Value.bool d0) rfl)<|Xt rfl<|lP 103 rfl rfl<|lP 103 rfl rfl<|lP 103 rfl rfl<|lP 103 rfl rfl<|lP 103 rfl rfl<|lV (.bool false) (Xg rfl rfl)<|Xt rfl<|lP 110 rfl rfl<|lP 110 rfl rfl<|lP 110 rfl rfl<|lP 110 rfl rfl<|lP 110 rfl rfl<|lV (.bool false) (Xg rfl rfl)<|Xt rfl<|lP 117 rfl rfl<|lP 117 rfl rfl<|lP 117 rfl rfl<|lV (.bool false) (Xg rfl rfl)<|go ?_;exact ⟨rfl,_,_,hm,ab,rfl⟩
  refine lV (.bool false) (Xg (congrArg Value.bool dz) rfl)<|Xt rfl<|lP 96 rfl rfl<|lP 96 rfl rfl<|lP 96 rfl rfl<|lP 96 rfl rfl<|lP 96 rfl rfl<|lV (.bool false) (Xg rfl rfl)<|Xt rfl<|lP 103 rfl rfl<|lP 103 rfl rfl<|lP 103 rfl rfl<|lP 103 rfl rfl<|lP 103 rfl rfl<|lV (.bool false) (Xg rfl rfl)<|Xt rfl<|lP 110 rfl rfl<|lP 110 rfl rfl<|lP 110 rfl rfl<|lP 110 rfl rfl<|lP 110 rfl rfl<|lV (.bool false) (Xg rfl rfl)<|Xt rfl<|lP 117 rfl rfl<|lP 117 rfl rfl<|lP 117 rfl rfl<|lV (.bool false) (Xg rfl rfl)<|go ?_;exact ⟨rfl,_,_,hm,ab,rfl⟩
 refine go ?_;refine Xr hm (fun d5 hm=>go ?_) fun d5 hm=>go ?_
 ·refine lV (.bool true) (Z6 (congrArg Value.bool d5) rfl)<|Xt rfl<|lP 48 rfl rfl<|lP 48 rfl rfl<|lP 48 rfl rfl<|lP 48 rfl rfl<|lP 48 rfl rfl<|lP 48 rfl rfl<|lV (.bool true) (Z6 rfl rfl)<|Xt rfl<|lP 56 rfl rfl<|lP 56 rfl rfl<|lP 56 rfl rfl<|lP 56 rfl rfl<|lP 56 rfl rfl<|lP 56 rfl rfl<|lV (.bool true) (Z6 rfl rfl)<|Xt rfl<|lP 64 rfl rfl<|lP 64 rfl rfl<|lP 64 rfl rfl<|lP 64 rfl rfl<|lV (.bool true) (Z6 rfl rfl)<|Xt rfl<|lP 70 rfl rfl<|lP 70 rfl rfl<|lP 70 rfl rfl<|lP 70 rfl rfl<|lV (.bool true) (Z6 rfl rfl)<|Zl ?_;exact ⟨rfl,_,_,hm,ab,av,aw,ar,au,ax,aj,an,ao,al,am,ak,ae,af,ag,ah,ai,aq,bc,bd,a6,a7,be,rfl⟩
 refine lV (.bool (!decide (ap.2=ad.2))) (Xg (congrArg Value.bool d5) rfl)<|Xt rfl ?_;refine Xr hm (fun d6 hm=>go ?_) fun d6 hm=>go ?_
 ·refine lV (.bool true) (Z6 (congrArg Value.bool d6) rfl)<|Xt rfl<|lP 56 rfl rfl<|lP 56 rfl rfl<|lP 56 rfl rfl<|lP 56 rfl rfl<|lP 56 rfl rfl<|lP 56 rfl rfl<|lV (.bool true) (Z6 rfl rfl)<|Xt rfl<|lP 64 rfl rfl<|lP 64 rfl rfl<|lP 64 rfl rfl<|lP 64 rfl rfl<|lV (.bool true) (Z6 rfl rfl)<|Xt rfl<|lP 70 rfl rfl<|lP 70 rfl rfl<|lP 70 rfl rfl<|lP 70 rfl rfl<|lV (.bool true) (Z6 rfl rfl)<|Zl ?_;exact ⟨rfl,_,_,hm,ab,av,aw,ar,au,ax,aj,an,ao,al,am,ak,ae,af,ag,ah,ai,aq,bc,bd,a6,a7,be,rfl⟩
 refine lF c3 0 underlying49 rfl sizeOf47<|go ?_;refine lV (.agg #[.bool ac.1.1.1.1,.slice bw ac.1.1.1.2.length bx,.slice bz ac.1.1.2.length b0]) (Xq isAgg47 sizeOf47 rfl rfl ((be.atN).part 0 3 _ rfl))<|go ?_;refine lF cv 0 underlying49 rfl sizeOf47<|go ?_;refine lV (.agg #[.bool ad.1.1.1.1,.slice cm ad.1.1.1.2.length cn,.slice co ad.1.1.2.length cp]) (Xq isAgg47 sizeOf47 rfl rfl ((ak.atN).part 0 3 _ rfl))<|go ?_;obtain ⟨gb,gc,hm⟩:=bZ hm;refine Zh (Zcj gc ((bc.toSlF (Zm.int .u32)).froz 6) ((bd.froz 5 (by decide)).toSlF (Zm.int .u32)) ((an.froz 5).froz 6) ((ao.froz 5).froz 6)) ?_;rintro _ em ⟨rfl,a0⟩;refine ⟨_,rfl,?_⟩;replace a0:Zf cg fj cg em:=.of_below a0;refine go ?_;refine lV (.bool (!gb)) (Xg (congrArg Value.bool d6) rfl)<|Xt rfl ?_;replace an:=an.gr a0;replace ao:=ao.gr a0;replace al:=al.gr a0;replace am:=am.gr a0;replace ae:=ae.gr a0;replace af:=af.gr a0;replace ag:=ag.gr a0;replace ah:=ah.gr a0;replace aq:=aq.gr a0;replace bc:=bc.gr a0;replace bd:=bd.gr a0;replace a6:=a6.gr a0;replace a7:=a7.gr a0;replace av:=av.gr a0;replace aw:=aw.gr a0;replace ar:=ar.gr a0;replace au:=au.gr a0;replace aj:=aj.gr a0;replace ak:=ak.gr a0;replace ai:=ai.gr a0;replace be:=be.gr a0;replace ax:=ax.gr a0;replace ab:=ab.grow a0;refine Xr hm (fun d7 hm=>go ?_) fun d7 hm=>go ?_
 ·refine lV (.bool true) (Z6 (congrArg Value.bool d7) rfl)<|Xt rfl<|lP 64 rfl rfl<|lP 64 rfl rfl<|lP 64 rfl rfl<|lP 64 rfl rfl<|lV (.bool true) (Z6 rfl rfl)<|Xt rfl<|lP 70 rfl rfl<|lP 70 rfl rfl<|lP 70 rfl rfl<|lP 70 rfl rfl<|lV (.bool true) (Z6 rfl rfl)<|Zl ?_;exact ⟨rfl,_,_,hm,ab,av,aw,ar,au,ax,aj,an,ao,al,am,ak,ae,af,ag,ah,ai,aq,bc,bd,a6,a7,be,rfl⟩
 refine lF c3 3 underlying49 rfl sizeOf47<|go ?_;refine lV (.agg #[.bool ac.1.2.1.1,.slice b1 ac.1.2.1.2.length b2,.slice b3 ac.1.2.2.length b4]) (Xq isAgg47 sizeOf47 rfl rfl ((be.atN).part 3 3 _ rfl))<|go ?_;refine lF cv 3 underlying49 rfl sizeOf47<|go ?_;refine lV (.agg #[.bool ad.1.2.1.1,.slice cq ad.1.2.1.2.length cr,.slice ct ad.1.2.2.length cu]) (Xq isAgg47 sizeOf47 rfl rfl ((ak.atN).part 3 3 _ rfl))<|go ?_;obtain ⟨gd,ge,hm⟩:=bZ hm;refine Zh (Zcj ge ((a6.toSlF (Zm.int .u32)).froz 8) ((a7.froz 7 (by decide)).toSlF (Zm.int .u32)) ((al.froz 7).froz 8) ((am.froz 7).froz 8)) ?_;rintro _ en ⟨rfl,a2⟩;refine ⟨_,rfl,?_⟩;replace a2:Zf cg em cg en:=.of_below a2;refine go ?_;refine lV (.bool (!gd)) (Xg (congrArg Value.bool d7) rfl)<|Xt rfl ?_;replace an:=an.gr a2;replace ao:=ao.gr a2;replace al:=al.gr a2;replace am:=am.gr a2;replace ae:=ae.gr a2;replace af:=af.gr a2;replace ag:=ag.gr a2;replace ah:=ah.gr a2;replace aq:=aq.gr a2;replace bc:=bc.gr a2;replace bd:=bd.gr a2;replace a6:=a6.gr a2;replace a7:=a7.gr a2;replace av:=av.gr a2;replace aw:=aw.gr a2;replace ar:=ar.gr a2;replace au:=au.gr a2;replace aj:=aj.gr a2;replace ak:=ak.gr a2;replace ai:=ai.gr a2;replace be:=be.gr a2;replace ax:=ax.gr a2;replace ab:=ab.grow a2;refine Xr hm (fun d8 hm=>go ?_) fun d8 hm=>go ?_
 ·refine lV (.bool true) (Z6 (congrArg Value.bool d8) rfl)<|Xt rfl<|lP 70 rfl rfl<|lP 70 rfl rfl<|lP 70 rfl rfl<|lP 70 rfl rfl<|lV (.bool true) (Z6 rfl rfl)<|Zl ?_;exact ⟨rfl,_,_,hm,ab,av,aw,ar,au,ax,aj,an,ao,al,am,ak,ae,af,ag,ah,ai,aq,bc,bd,a6,a7,be,rfl⟩
 refine lV _ (Xj isAgg27 sizeOf27 ai)<|go ?_;refine lV _ (Xj isAgg27 sizeOf27 aj)<|go ?_;obtain ⟨gf,gg,hm⟩:=bZ hm;refine Zh (Zo3 gg ae af ag ah (ci.ks ab) (cj.ks ab) (ck.ks ab) (cl.ks ab)) ?_;rintro _ eo ⟨rfl,a3⟩;refine ⟨_,rfl,?_⟩;replace a3:Zf cg en cg eo:=.of_below a3;refine go ?_;refine lV (.bool (!gf)) (Xg (congrArg Value.bool d8) rfl)<|Xt rfl ?_;replace an:=an.gr a3;replace ao:=ao.gr a3;replace al:=al.gr a3;replace am:=am.gr a3;replace ae:=ae.gr a3;replace af:=af.gr a3;replace ag:=ag.gr a3;replace ah:=ah.gr a3;replace aq:=aq.gr a3;replace bc:=bc.gr a3;replace bd:=bd.gr a3;replace a6:=a6.gr a3;replace a7:=a7.gr a3;replace av:=av.gr a3;replace aw:=aw.gr a3;replace ar:=ar.gr a3;replace au:=au.gr a3;replace aj:=aj.gr a3;replace ak:=ak.gr a3;replace ai:=ai.gr a3;replace be:=be.gr a3;replace ax:=ax.gr a3;replace ab:=ab.grow a3;refine Xr hm (fun d9 hm=>go ?_) fun d9 hm=>go ?_
 ·refine lV (.bool true) (Z6 (congrArg Value.bool d9) rfl)<|Zl ?_;exact ⟨rfl,_,_,hm,ab,av,aw,ar,au,ax,aj,an,ao,al,am,ak,ae,af,ag,ah,ai,aq,bc,bd,a6,a7,be,rfl⟩
 obtain ⟨gh,gi,hm⟩:=bZ hm;refine Zh (Zwo gi (aq.toSlF (Zm.int .i64)) ((h1.ks ab).froz 4)) ?_;rintro _ gj ⟨rfl,a4⟩;refine ⟨_,rfl,?_⟩;replace a4:Zf cg eo cg gj:=.of_below a4;refine go ?_;refine lV (.bool (!gh)) (Xg (congrArg Value.bool d9) rfl)<|Zl ?_;replace an:=an.gr a4;replace ao:=ao.gr a4;replace al:=al.gr a4;replace am:=am.gr a4;replace ae:=ae.gr a4;replace af:=af.gr a4;replace ag:=ag.gr a4;replace ah:=ah.gr a4;replace aq:=aq.gr a4;replace bc:=bc.gr a4;replace bd:=bd.gr a4;replace a6:=a6.gr a4;replace a7:=a7.gr a4;replace av:=av.gr a4;replace aw:=aw.gr a4;replace ar:=ar.gr a4;replace au:=au.gr a4;replace aj:=aj.gr a4;replace ak:=ak.gr a4;replace ai:=ai.gr a4;replace be:=be.gr a4;replace ax:=ax.gr a4;replace ab:=ab.grow a4;exact ⟨rfl,_,_,hm,ab,av,aw,ar,au,ax,aj,an,ao,al,am,ak,ae,af,ag,ah,ai,aq,bc,bd,a6,a7,be,rfl⟩
/-! a list with Za1 behind it -/
theorem Zzj {l:List Int} (hl:l.length≤1048576):Zhy l=some (Yl [-61,-62,-63] l):=by
 rw [Zhy,Z5 (by simp only [List.length_nil,maxLen];omega),Z5 (by simp only [List.length_append,List.length_cons,List.length_nil,maxLen];omega),Z5 (by simp only [List.length_append,List.length_cons,List.length_nil];omega),List.nil_append]
 rfl
theorem Zu1 {N:Nat} {l:List Int} (hl:l.length≤1048576):∀ (f i:Nat),i≤l.length→l.length<f+i→Zd4 N l l f (i:Int)=some true
 | 0,i,h1,h2=>by omega
 | f+1,i,h1,h2=>by
  rw [Zd4.eq_2]
  by_cases hi:i<l.length
  ·rw [if_pos (decide_eq_true (by omega)),Zw hi,Option.bind_some,Option.bind_some,if_neg (by rw [decide_eq_true rfl];decide),wS (by omega)]
   exact Zu1 hl f (i+1) (by omega) (by omega)
  ·rw [if_neg (by rw [decide_eq_false (by omega)];decide)]
theorem Z19 {N:Nat} {l:List Int} (hl:l.length≤1048576) (hN:1048577<N):Zit N l l=some true:=by
 rw [Zit,if_neg (by rw [decide_eq_true rfl];decide)]
 exact Zu1 hl N 0 (Nat.zero_le _) (by omega)
theorem Zn8 {l:List Int} (a b c:Int):Zk (l++[a,b,c]) (l.length:Int)=some a∧Zk (l++[a,b,c]) ((l.length:Int)+2)=some c:=by
 constructor
 ·rw [Vh,List.getElem?_append_right (by omega),Nat.sub_self];rfl
 ·rw [show (l.length:Int)+2=((l.length+2:Nat):Int) by omega,Vh,List.getElem?_append_right (by omega),show l.length+2 - l.length=2 by omega];rfl
theorem Z2j {N:Nat} {l:List Int} (hl:l.length≤1048576) (hN:1048577<N):Zh0 N (Yl [-61,-62,-63] l).1 (Yl [-61,-62,-63] l).2 l=some true:=by
 have v1:(Yl [-61,-62,-63] l).2.take (Yl [-61,-62,-63] l).1=l:=Zlm _ _
 have v2:(Yl [-61,-62,-63] l).2=l++[-61,-62,-63]:=rfl
 have ql:((l++[-61,-62,-63]).length:Int)=(l.length:Int)+3:=by simp
 have tk:(l++[-61,-62,-63]).take (l.length+3)=l++[-61,-62,-63]:=List.take_of_length_le (by simp)
 rw [Zh0,v1,v2,Zq (x:=(l.length:Int)+3) (by omega),Zq (x:=(l.length:Int)+2) (by omega),Z5 (by rw [ql];omega),show Int.toNat ((l.length:Int)+3)=l.length+3 by omega,tk,Z19 hl hN,Option.bind_some,if_pos rfl,(Zn8 (l:=l) _ _ _).1,Option.bind_some,if_pos (decide_eq_true rfl),(Zn8 (l:=l) _ _ _).2,Option.bind_some,Zfc,decide_eq_true rfl]
/-! fractions of many Ze -/
theorem Zu0 {N:Nat} {x:QV} (h1:x.1.2.length≤1099511627776):∀ (f i:Nat),i≤x.1.2.length→x.1.2.length<f+i→Zaz N x x f (i:Int)=some true
 | 0,i,h2,h3=>by omega
 | f+1,i,h2,h3=>by
  rw [Zaz.eq_2]
  by_cases hi:i<x.1.2.length
  ·rw [if_pos (decide_eq_true (by omega)),Zw hi,Option.bind_some,Option.bind_some,if_neg (by rw [decide_eq_true rfl];decide),wS (by omega)]
   exact Zu0 h1 f (i+1) (by omega) (by omega)
  ·rw [if_neg (by rw [decide_eq_false (by omega)];decide)]
theorem Zuz {N:Nat} {x:QV} (h1:x.1.2.length≤1099511627776) (h2:x.2.length≤1099511627776) (hN:1099511627777<N):∀ (f i:Nat),i≤x.2.length→x.2.length<f+i→Zay N x x f (i:Int)=some true
 | 0,i,h3,h4=>by omega
 | f+1,i,h3,h4=>by
  rw [Zay.eq_2]
  by_cases hi:i<x.2.length
  ·rw [if_pos (decide_eq_true (by omega)),Zw hi,Option.bind_some,Option.bind_some,if_neg (by rw [decide_eq_true rfl];decide),wS (by omega)]
   exact Zuz h1 h2 hN f (i+1) (by omega) (by omega)
  ·rw [if_neg (by rw [decide_eq_false (by omega)];decide)]
   exact Zu0 h1 N 0 (Nat.zero_le _) (by omega)
theorem Zuy {N:Nat} {x:QV} (h:x.1.2.length≤1099511627776∧x.2.length≤1099511627776) (hN:1099511627777<N):Uh N x x=some true:=by
 rw [Uh,if_neg (by rw [decide_eq_true rfl];decide),if_neg (by rw [decide_eq_true rfl];decide),decide_eq_true rfl,Zd5,if_neg (by decide)]
 exact Zuz h.1 h.2 hN N 0 (Nat.zero_le _) (by omega)
/-! which networks are gone through -/
theorem Zrf {N:Nat} {n:Xy} (hb:∀ t ∈ n.2.2.2.2,t.length≤1048576∧∀ x ∈ t,x.1.2.length≤1048576∧x.2.length≤1048576) {i:Nat} (hi:i<n.2.2.2.2.length) (hib:i<4611686018427387904) (kk:Int→Int→Option Int) (hkk:∀ s:Int,0≤s→s≤3000000→∃ r,kk s ((i+1:Nat):Int)=some r):∀ (f k:Nat) (s:Int),0≤s→s≤3000000→k≤n.2.2.2.2[i].length→n.2.2.2.2[i].length<f+k→∃ r,Zax N n (i:Int) kk f s (k:Int)=some r
 | 0,k,s,_,_,h1,h2=>by omega
 | f+1,k,s,s1,s2,h1,h2=>by
  have ht:=hb _ (List.getElem_mem hi)
  rw [Zax.eq_2,Zw hi,Option.bind_some]
  by_cases hk:k<n.2.2.2.2[i].length
  ·have hx:=ht.2 _ (List.getElem_mem hk)
   rw [if_pos (decide_eq_true (by omega)),Zgu]
   by_cases hs:s<10000
   ·rw [decide_eq_true hs,if_pos rfl,Zw hi,Option.bind_some,Zw hk,Option.bind_some,Zq (x:=s+_) (by omega),Zq (by omega),wS (by omega)]
    exact Zrf hb hi hib kk hkk f (k+1) _ (by omega) (by omega) (by omega) (by omega)
   ·rw [decide_eq_false hs,if_neg (by decide),wS (by omega)]
    exact hkk s s1 s2
  ·rw [if_neg (by rw [decide_eq_false (by omega)];decide),Zgu,if_neg (by decide),wS (by omega)]
   exact hkk s s1 s2
theorem Zre {N:Nat} {n:Xy} (hb:∀ t ∈ n.2.2.2.2,t.length≤1048576∧∀ x ∈ t,x.1.2.length≤1048576∧x.2.length≤1048576) (hl:n.2.2.2.2.length≤1048576) (hN:1048577<N):∀ (f i:Nat) (s:Int),0≤s→s≤3000000→i≤n.2.2.2.2.length→n.2.2.2.2.length<f+i→∃ r,S0 N n f s (i:Int)=some r
 | 0,i,s,_,_,h1,h2=>by omega
 | f+1,i,s,s1,s2,h1,h2=>by
  rw [S0.eq_2]
  by_cases hi:i<n.2.2.2.2.length
  ·rw [if_pos (decide_eq_true (by omega))]
   have ht:=hb _ (List.getElem_mem hi)
   have:=Zrf (N:=N) hb hi (by omega) (S0 N n f) (fun s' a b=>Zre hb hl hN f (i+1) s' a b (by omega) (by omega)) N 0 s s1 s2 (Nat.zero_le _) (by omega)
   exact this
  ·rw [if_neg (by rw [decide_eq_false (by omega)];decide)]
   exact ⟨_,rfl⟩
theorem Zrj {N:Nat} {n:Xy} (hb:∀ t ∈ n.2.2.2.2,t.length≤1048576∧∀ x ∈ t,x.1.2.length≤1048576∧x.2.length≤1048576) (hl:n.2.2.2.2.length≤1048576) (hN:1048577<N):∀ (f i:Nat) (s:Int),0≤s→s≤1048576 * (i:Int)→i≤13→13<f+i→∃ r,Qn N n f s (i:Int)=some r
 | 0,i,s,_,_,h1,h2=>by omega
 | f+1,i,s,s1,s2,h1,h2=>by
  have fin:∃ r,Zcv N n s (i:Int) (Qn N n f) false=some r:=by
   rw [Zcv,if_neg (by decide)]
   by_cases c1:(12:Int)<(n.2.1.length:Int)
   ·rw [if_pos (decide_eq_true c1)];exact ⟨_,rfl⟩
   ·rw [if_neg (by rw [decide_eq_false c1];decide)]
    by_cases c2:(600:Int)<s
    ·rw [if_pos (decide_eq_true c2)];exact ⟨_,rfl⟩
    ·rw [if_neg (by rw [decide_eq_false c2];decide)]
     by_cases c3:(12:Int)<(n.2.2.2.2.length:Int)
     ·rw [if_pos (decide_eq_true c3)];exact ⟨_,rfl⟩
     ·rw [if_neg (by rw [decide_eq_false c3];decide)]
      obtain ⟨r,hr⟩:=Zre (N:=N) hb hl hN N 0 0 (by omega) (by omega) (Nat.zero_le _) (by omega)
      have hr':Zkn N (n.1,n.2.1,n.2.2.1,n.2.2.2.1,n.2.2.2.2)=some r:=hr
      rw [hr',Option.bind_some];exact ⟨_,rfl⟩
  rw [Qn.eq_2]
  by_cases hi:i<n.2.2.2.2.length
  ·rw [if_pos (decide_eq_true (by omega))]
   by_cases h13:i<13
   ·rw [decide_eq_true (by omega),Zcv,if_pos rfl,Zw hi,Option.bind_some]
    have ht:=hb _ (List.getElem_mem hi)
    rw [Zq (x:=s+_) (by omega),wS (by omega)]
    exact Zrj hb hl hN f (i+1) _ (by omega) (by omega) (by omega) (by omega)
   ·rw [decide_eq_false (by omega)];exact fin
  ·rw [if_neg (by rw [decide_eq_false (by omega)];decide)];exact fin
theorem Zz3 {N:Nat} {n:Xy} (hb:∀ t ∈ n.2.2.2.2,t.length≤1048576∧∀ x ∈ t,x.1.2.length≤1048576∧x.2.length≤1048576) (hl:n.2.2.2.2.length≤1048576) (hN:1048577<N):∃ r,Zhz N n=some r:=
 Zrj hb hl hN N 0 0 (by omega) (by omega) (by omega) (by omega)
/-! the law -/
theorem Zsc {q:Rat} {K:Nat} (h:qs q≤K) (hK:K≤1099511627776):(Zr q).1.2.length≤1099511627776∧(Zr q).2.length≤1099511627776:=
 ⟨Nat.le_trans (Nat.le_max_left _ _) (Nat.le_trans h hK),Nat.le_trans (Nat.le_max_right _ _) (Nat.le_trans h hK)⟩
theorem Zvz {N W K:Nat} {n:Xy} {w:List Int} (hs:U1 n W) (hb:Zjk n) (hw:w.length≤1048576) (hr:Xd N (8 * K+40)) (hWK:1025 * (W+2)+4≤K) (hK:K≤1099511627776) (hN:1099511627777<N):Zkc N n w=some true:=by
 obtain ⟨r,hm⟩:=Zz3 (N:=N) (n:=n) (fun t ht=>⟨hb.tl t ht,hb.tm t ht⟩) hb.tn (by omega)
 have hm':Zhz N (n.1,n.2.1,n.2.2.1,n.2.2.2.1,n.2.2.2.2)=some r:=hm
 rw [Zkc,hm',Option.bind_some]
 cases r with
 | true=>rw [if_pos rfl]
 | false=>
  obtain ⟨x,s1,s2,sx⟩:=Z2i (w:=w) hs hr hWK (by omega)
  have hx:(x.1.1.1.2.length≤1099511627776∧x.1.1.2.length≤1099511627776)∧(x.1.2.1.2.length≤1099511627776∧x.1.2.2.length≤1099511627776):=by
   rcases sx with ⟨e,rfl⟩ | ⟨p,rfl,q1,q2⟩
   ·simp [Zpt]
   ·exact ⟨Zsc q1 hK,Zsc q2 hK⟩
  have s2':Zgw N (n.1,n.2.1,n.2.2.1,n.2.2.2.1,n.2.2.2.2) w=some x:=s2
  have l:Zgt N (n.1,n.2.1,n.2.2.1,n.2.2.2.1,n.2.2.2.2)=some (Ys n):=Zzu hb (by omega)
  have v1:(Yl [-61,-62,-63] w).2.take (Yl [-61,-62,-63] w).1=w:=Zlm _ _
  have m1:Uh N ((x.1.1.1.1,x.1.1.1.2),x.1.1.2) ((x.1.1.1.1,x.1.1.1.2),x.1.1.2)=some true:=Zuy (x:=x.1.1) hx.1 hN
  have m2:Uh N ((x.1.2.1.1,x.1.2.1.2),x.1.2.2) ((x.1.2.1.1,x.1.2.1.2),x.1.2.2)=some true:=Zuy (x:=x.1.2) hx.2 hN
  have k1:Zdx N ((Ys n).1,((Ys n).2.1.1,(Ys n).2.1.2),(Ys n).2.2.1,(Ys n).2.2.2.1,(Ys n).2.2.2.2) (n.1,n.2.1,n.2.2.1,n.2.2.2.1,n.2.2.2.2)=some true:=Zzk hb (by omega)
  have hfr:Zgs N [((x.1.1.1.1,x.1.1.1.2),x.1.1.2),((x.1.2.1.1,x.1.2.1.2),x.1.2.2)]=some (true,W1 1000 [((x.1.1.1.1,x.1.1.1.2),x.1.1.2),((x.1.2.1.1,x.1.2.1.2),x.1.2.2)]):=Zy8 hN (by simp) (fun y hy=>by
   rcases List.mem_cons.1 hy with rfl | hy
   ·exact hx.1
   ·rw [List.mem_singleton] at hy;subst hy;exact hx.2)
  have st:=Z2j (N:=N) hw (by omega)
  rw [if_neg (show ¬ false=true by decide),s2',Option.bind_some,l,Option.bind_some,Zzj hw,Option.bind_some,Zvo,v1,s1,Option.bind_some,Option.bind_some,if_neg (show ¬ (!decide (x.2=x.2))=true by rw [decide_eq_true rfl];decide),if_neg (show ¬ (!decide (x.2=x.2))=true by rw [decide_eq_true rfl];decide),m1,Option.bind_some,if_neg (show ¬ (!true)=true by decide),m2,Option.bind_some,if_neg (show ¬ (!true)=true by decide),k1,Option.bind_some,if_neg (show ¬ (!true)=true by decide),st,Option.bind_some,
   Zac,if_neg (show ¬ (!true)=true by decide),hfr,Option.bind_some,Zvo,v1,s1,Option.bind_some,if_pos rfl,m1,Option.bind_some,if_pos rfl,m2,Option.bind_some,if_pos rfl,Option.bind_some,if_pos rfl,Option.bind_some,if_pos rfl,k1,Option.bind_some,Zad]
theorem Qd {α:Type} {b:α→Nat} (hb:∀ x,1≤b x):∀ (l:List α),l.length+1≤Xs b l
 | []=>by simp [Xs]
 | x :: l=>by
  have h:=Qd hb l
  have:=hb x
  simp only [Xs,List.map_cons,List.sum_cons,List.length_cons] at h ⊢
  omega
theorem Zku {α:Type} {b:α→Nat} {x:α}:∀ {l:List α},x ∈ l→b x+1≤Xs b l
 | y :: l,h=>by
  simp only [Xs,List.map_cons,List.sum_cons]
  rcases List.mem_cons.1 h with rfl | h
  ·omega
  ·have:=Zku (b:=b) h
   simp only [Xs] at this
   omega
theorem Zly {α:Type} {b:α→Nat} (l:List α):1≤Xs b l:=by simp only [Xs];omega
theorem Zlz (s:ByteArray):1≤Vi s:=by simp only [Vi];omega
theorem Zjp {α:Type} (s:α):1≤Y7 s:=by simp only [Y7];omega
theorem Zn9 {α:Type} {b:α→Nat} (s:α):1≤Uo b s:=by simp only [Uo];omega
abbrev Q3:QV→Nat:=Uo (Wi (Uo (Wi Y7 (Xs Y7))) (Xs Y7))
abbrev qQ:QV→Prop:=Tn (Tn (fun _=>True) (Wy (S8 .u32))) (Wy (S8 .u32))
abbrev Zjq:Xy→Nat:=Uo (Wi Vi (Wi (Xs Vi) (Wi (Xs (Xs Vi)) (Wi (Xs (Xs Y7)) (Xs (Xs Q3))))))
abbrev Zsv:Xy→Prop:=Tn (fun _=>True) (Tn (Wy (fun _=>True)) (Tn (Wy (Wy (fun _=>True))) (Tn (Wy (Wy (S8 .i64))) (Wy (Wy qQ)))))
theorem Zrd {l:List Int} (h:Wy (S8 .u32) l):Zo l:=by
 intro d hd
 have h1:=h d hd
 simp [S8,Lit.wf,IntKind.min,IntKind.max,IntKind.signed,IntKind.bits] at h1
 omega
theorem Zzy {x:QV} (h:qQ x):Wt x:=⟨Zrd h.1.2,Zrd h.2⟩
theorem Zoa (x:QV):x.1.2.length+x.2.length+4≤Q3 x:=by
 have h1:=Qd (b:=Y7) Zjp x.1.2
 have h2:=Qd (b:=Y7) Zjp x.2
 simp only [Uo,Wi]
 have h3:Y7 x.1.1=1:=rfl
 omega
theorem Zsy:∀ t:List QV,X6 t≤Xs Q3 t
 | []=>by rw [X6];omega
 | x :: t=>by
  have h1:=Zsy t
  have h2:=Zoa x
  rw [X6]
  simp only [Xs,List.map_cons,List.sum_cons] at h1 ⊢
  omega
theorem Zvj:∀ P:List R2,Ux P+P.length≤Xs (Xs Y7) P
 | []=>by simp [Ux,Xs]
 | l :: P=>by
  have h1:=Zvj P
  have h2:=Qd (b:=Y7) Zjp l
  rw [Zjc,List.length_cons]
  simp only [Xs,List.map_cons,List.sum_cons] at h1 h2 ⊢
  omega
theorem Z0k {n:Xy} (hb:Zjq n≤1048576) (hq:Zsv n):U1 n 1048576∧Zjk n:=by
 have a1:=Zlz n.1
 have a2:=Qd (b:=Vi) Zlz n.2.1
 have a3:=Qd (b:=Xs Vi) Zly n.2.2.1
 have a4:=Zvj n.2.2.2.1
 have a5:=Qd (b:=Xs Q3) Zly n.2.2.2.2
 have a6:=Zly (b:=Xs Y7) n.2.2.2.1
 simp only [Zjq,Uo,Wi] at hb
 have b3:∀ l ∈ n.2.2.1,l.length≤1048576:=fun l hl=>by
  have h1:=Zku (b:=Xs Vi) hl
  have h2:=Qd (b:=Vi) Zlz l
  omega
 have b4:∀ l ∈ n.2.2.2.1,l.length≤1048576:=fun l hl=>by
  have h1:=Zln hl
  omega
 have b5:∀ t ∈ n.2.2.2.2,Xs Q3 t≤1048576:=fun t ht=>by
  have h1:=Zku (b:=Xs Q3) ht
  omega
 have b6:∀ t ∈ n.2.2.2.2,t.length≤1048576:=fun t ht=>by
  have h1:=b5 t ht
  have h2:=Qd (b:=Q3) Zn9 t
  omega
 refine ⟨⟨by omega,b3,⟨by omega,by omega⟩,b6,fun t ht=>Nat.le_trans (Zsy t) (b5 t ht),fun t ht x hx=>Zzy (hq.2.2.2.2 t ht x hx)⟩,⟨by omega,by omega,b3,by omega,b4,by omega,b6,fun t ht x hx=>?_⟩⟩
 have h1:=b5 t ht
 have h2:=Zku (b:=Q3) hx
 have h3:=Zoa x
 omega
theorem Z0j:Xd 4611686018427387904 (8 * 1074792454+40):=by rw [Xd];decide

end Go.Proofs.YtbmjpjhbankpoaaGreat
