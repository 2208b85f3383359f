/-
  What functions of the program compute, as plain Lean functions (m_..), and proofs that they compute it (c_..). Printed by a program of the author; no conditions.
-/
import Derived.Test.YtkhnlgdenkikoaaGreatTopStepBFloat
import Derived.Test.YtkhnlgdenkikoaaGreatProg
import Derived.Test.YtkhnlgdenkikoaaGreatTopStepBBrief
import Derived.Test.YtkhnlgdenkikoaaGreatTopStepBMixD
import Derived.Test.YtkhnlgdenkikoaaGreatTopStepBView
import Derived.Test.YtkhnlgdenkikoaaGreatTopStepF4
set_option linter.unusedVariables false
set_option maxRecDepth 100000
set_option maxHeartbeats 2000000
namespace Go.Proofs.YtkhnlgdenkikoaaGreat
open Go Go.RowKit
open List renaming mem_cons→aO,not_mem_nil→bG,drop_eq_nil_iff→aG,length_singleton→aQ,map_nil→bW,append_nil→eG,mem_cons_self→aC,mem_cons_of_mem→aB,append_assoc→bO,getElem_mem→aH,nil_append→bN,length_map→aN,take_succ_eq_append_getElem→bH,map_append→eF,take_of_length_le→bF,take_zero→fL,map_cons→aS,sum_cons→eY,cons_append→bX,perm_cons_erase→jS,length_erase_of_mem→jA,mem_of_mem_erase→jM,mem_map→cA,replicate→aM,length_replicate→bI,replicate_succ→jU,mem_append→bE,map_congr_left→iC,take_append_drop→dK,length_eq_zero_iff→gI,mem_of_mem_take→dB,mem_of_mem_drop→dC,drop_zero→aP,length_drop→bP,drop_drop→dR,foldl_cons→fE,getD_eq_getElem?_getD→aF,eq_of_mem_replicate→eJ,getElem?_eq_getElem→aL,getElem_map→cZ,drop_of_length_le→cH,drop_eq_getElem_cons→aJ,all_eq_true→cV,range'→cI,range'_succ→eX,flatMap_cons→dM
open Nat renaming lt_of_lt_of_le→aE,zero_le→bK,mul_add→dP,mul_one→eN,zero_add→cR,add_assoc→dS,add_zero→bU,zero_mul→dD,add_mul→aV,one_mul→aX,add_comm→eM,le_trans→aU,le_mul_of_pos_left→eQ,mul_le_mul_left→aT,mul_le_mul_right→bC,mul_comm→bY,mul_ne_zero→eE,beq→aI
open Rat renaming add_zero→gL,div_def→bT,zero_mul→cT,natCast_add→gO,add_mul→gX,mul_nonneg→bS,le_refl→cN,mul_one→bQ,not_le→iD,mul_le_mul_of_nonneg_right→cB,mul_assoc→bJ,le_trans→eI,inv_zero→lR,mul_le_mul_of_nonneg_left→eZ,le_of_lt→fM,mul_inv_cancel→cM,mul_zero→eO,mul_pos→gG,add_nonneg→iU,natCast_le_natCast→eP,mul_comm→iJ,one_mul→cX,inv_mul_cancel→fH,zero_add→lS,add_assoc→lH,natCast_inj→eB,natCast_lt_natCast→jN,le_of_mul_le_mul_right→iV,mul_eq_zero→kT,lt_irrefl→dY,zero_mkRat→lB,mkRat_eq_div→dI,natCast_mul→kU
open Int renaming toNat_natCast→aD,toNat→aA
open Go.IntKind (i8 i16 i32 i64 u8 u16 u32 u64)
open Go.Proofs.Tryz

theorem Z6r:Wa prog 22 1 24:=⟨Tryz.t22,_,rfl,rfl,rfl,rfl,rfl⟩
theorem Z6u:Wa prog 33 1 24:=⟨Tryz.t33,_,rfl,rfl,rfl,rfl,rfl⟩
theorem Z6x:Wa prog 39 3 56:=⟨Tryz.t39,_,rfl,rfl,rfl,rfl,rfl⟩
theorem Z6o:Wa prog 114 1 24:=⟨Tryz.t114,_,rfl,rfl,rfl,rfl,rfl⟩
def Zdk (N:Nat) (ae:Int) (af:ByteArray) (ag:List ByteArray) (ah:List R3) (ai:List R2) (ac:List R4) (kk_L1:(Int→ByteArray→R3→Rg→R7→R9→Option R0)) (aj:List ByteArray) (ak:List Int):List R1→R4→Option R0
  | [],ab=>Z4 ((ac.length+[ab].length) * 24≤140737488355328∧ac.length+[ab].length≤maxLen) (kk_L1 (i64.wrap (ae+1)) af ag (ah++[aj]) (ai++[ak]) (ac++[ab]))
  | ad :: al,ab=>(Sr N ((ad.1.1,ad.1.2),ad.2) ((false,([]:List Int)),([]:List Int))).bind fun aa=>Z4 ((ab.length+[((aa.1.1,aa.1.2),aa.2)].length) * 56≤140737488355328∧ab.length+[((aa.1.1,aa.1.2),aa.2)].length≤maxLen) ((Zdk N ae af ag ah ai ac kk_L1 aj ak al) (ab++[((aa.1.1,aa.1.2),aa.2)]))
termination_by structural x=>x
def Zb6 (N:Nat) (aa:R0):Nat→Int→ByteArray→R3→Rg→R7→R9→Option R0
  | 0,_,_,_,_,_,_=>none
  | ak+1,ab,ah,ai,ac,ad,aj=>if (decide (ab<(aa.2.1.length:Int)))=true then ((Zl aa.2.2.1 ab).bind fun al=>(Zcs al).bind fun ae=>Z4 ((ac.length+[ae].length) * 24≤140737488355328∧ac.length+[ae].length≤maxLen) ((Zl aa.2.2.2.1 ab).bind fun am=>(Sz am).bind fun af=>Z4 ((ad.length+[af].length) * 24≤140737488355328∧ad.length+[af].length≤maxLen) ((Zl aa.2.2.2.2 ab).bind fun ag=>Z4 (ag.length * 56≤281474976710656∧ag.length≤maxLen) (Zdk N ab ah ai ac ad aj (Zb6 N aa ak) ae af ag ([]:List R1))))) else (some (ah,ai,ac,ad,aj))
termination_by structural x=>x
def Zhv (N:Nat) (aa:R0):Option R0:=
  (Zcs aa.2.1).bind fun ab=>Zb6 N aa N 0 aa.1 ab ([]:List R3) ([]:List R2) ([]:List R4)
theorem Z4j {N bw cg ch ci:Nat} {bx cj ck cl:Option Addr} {col:Zd} {w0:World} {af r:R0} (c1 c2 c3 c4:Nat) (hm:Zhv N af=some r) (c0:Sl Za.str col w0 bx bw af.2.1) (cn:Sl (Za.slice Za.str) col w0 cj cg af.2.2.1) (co:Sl (Za.slice rI) col w0 ck ch af.2.2.2.1) (bz:Sl (Za.slice (Za.pair (Za.pair Za.bool (Za.slice rU)) (Za.slice rU))) col w0 cl ci af.2.2.2.2):
    Calls prog 101 #[(.agg #[.string af.1,.slice bx af.2.1.length bw,.slice cj af.2.2.1.length cg,.slice ck af.2.2.2.1.length ch,.slice cl af.2.2.2.2.length ci])] w0 (fun e w'=>∃ (col':Zd) (ra1:Option Addr) (rc2:Nat) (ra4:Option Addr) (rc5:Nat) (ra7:Option Addr) (rc8:Nat) (ra10:Option Addr) (rc11:Nat),e= .returned ((.agg #[.string r.1,.slice ra1 r.2.1.length rc2,.slice ra4 r.2.2.1.length rc5,.slice ra7 r.2.2.2.1.length rc8,.slice ra10 r.2.2.2.2.length rc11]))∧Zf col w0 col' w'∧Zb Za.str 9 c1 col' w' ra1 rc2 r.2.1∧Zb (Za.row 9 Za.str) 22 c2 col' w' ra4 rc5 r.2.2.1∧Zb (Za.row 3 rI) 33 c3 col' w' ra7 rc8 r.2.2.2.1∧Zb (Za.row 39 (Za.pair (Za.pair Za.bool (Za.row 95 rU)) (Za.row 95 rU))) 114 c4 col' w' ra10 rc11 r.2.2.2.2):=by
 refine Y5 (m:=74) func101 rfl rfl rfl ?_;rw [Zhv.eq_1] at hm;have aa:=St.start col w0;refine go ?_;refine Xi (col:=(Zj col)) 1 rfl ?_;intro cp f4 d9 ea ab;refine Xk (col:=d9) #[.string (⟨#[]⟩),.slice none (([]:List ByteArray).length) 0,.slice none (([]:List R3).length) 0,.slice none (([]:List R2).length) 0,(.slice none (([]:List R4).length) 0)] 2 zeroValue27 ?_;intro dt cq b6 du ac;refine go ?_;have c5:=Zt.clip (fun _=>false) b6 cq;refine Zmb (col:=b6) [(0,1),(1,0),(2,1),(3,0),(4,3),(5,1),(6,4),(7,2)] (by kernel_rfl) (by kernel_rfl) ⟨fun h=>absurd h (by decide),fun h=>absurd h (by decide),fun h=>absurd h (by decide),fun h=>absurd h (by decide),fun h=>absurd h (by decide),fun h=>absurd h (by decide),fun _=>⟨_,_,_,rfl,Zaw zeroValue27⟩,fun h=>absurd h (by decide),trivial⟩<|Qz (v:=(.pointer ((some (⟨cp,0,none⟩:Addr)).map (·.add 0)))) rfl rfl (fun _=>Zbo (sz:=1) (off:=0) underlying27 rfl sizeOf9 (by decide) rfl rfl ⟨_,_,rfl⟩) ?_;replace ab:=(ab.gr du).kpp c5;refine Zam (v:=(.string af.1)) rfl rfl (fun _ hC=>Zjj isAgg9 rfl (((ab.atN).nth (q:=0) (v:=(.string af.1)) rfl).gr (hC.bl (Zm cq b6)))) ?_;refine Qz (v:=(.pointer ((some (⟨cp,0,none⟩:Addr)).map (·.add 1)))) rfl rfl (fun _=>Zbo (sz:=1) (off:=1) underlying27 rfl sizeOf22 (by decide) rfl rfl ⟨_,_,rfl⟩) ?_;refine Zam (v:=(.slice bx af.2.1.length bw)) rfl rfl (fun _ hC=>Zjj isAgg22 rfl (((ab.atN).nth (q:=1) (v:=(.slice bx af.2.1.length bw)) rfl).gr (hC.bl (Zm cq b6)))) ?_;refine Uq rfl rfl ?_;intro f5 hC0;have hC:=hC0.bl (Zm cq b6);obtain ⟨eb,ec,hm⟩:=bZ hm;replace aa:=(((aa.grow ea).grow du).kpp c5).grow hC;refine Zi (Zm2 3 ec (c0.k0.ks aa)) ?_;rintro _ ak ⟨ao,ed,ee,rfl,b0,b7⟩;refine ⟨_,rfl,?_⟩;refine Zk ?_;refine ⟨fun w'=>Zf (Zm ak ao) ak (Zm ak ao) w',fun g=>(Zm ak ao) g=497,Zf.refl _ _,V8,fun _=>⟨fun _ h=>Ur hC0 b0 h,fun b hb=>b0.below.block b hb,fun g x1 x2=>T8 b0 g x1 (by first | exact x2 | (simp only [Xp,x2];rfl) | (simp only [Xp,Xu,x2];rfl))⟩,?_⟩;have cr:=Zt.clip (fun _=>false) ao ak
 refine Qz (v:=(.agg #[.string af.1,.slice ed eb.length ee,.slice none (([]:List R3).length) 0,.slice none (([]:List R2).length) 0,(.slice none (([]:List R4).length) 0)])) rfl rfl (fun _=>Wq (l:=[_,_,_,_,_]) (qs:=[(0,1),(1,1),(2,1),(3,1),(4,1)]) underlying27 zeroValue27 ⟨rfl,sizeOf9,rfl,sizeOf22,rfl,sizeOf23,rfl,sizeOf24,rfl,sizeOf25,trivial⟩ rfl) ?_;refine Zmd rfl rfl (Zaw zeroValue27) ?_;intro ap ef;refine Uq rfl rfl ?_;intro eg ⟨hC0,hZ0⟩;replace ac:=(((ac.kpp c5).gr hC).gr b0).kpp cr;replace ab:=((ab.gr hC).gr b0).kpp cr;have hC:=hC0.bl (Zm ak ao);replace cn:=cn.k0;replace co:=co.k0;replace bz:=bz.k0;obtain ⟨ct,c6⟩:=Zjy (col:=(Zm ak ao)) 4 hZ0 ef;replace c6:Zg 27 4 (Xr ap 4 (Zm ak ao)) eg ap #[.string (⟨#[]⟩),.slice none (([]:List ByteArray).length) 0,.slice none (([]:List R3).length) 0,.slice none (([]:List R2).length) 0,(.slice none (([]:List R4).length) 0)]:=c6;refine Zy c6 ?_;intro bf cu eh aj;refine Zk ?_;refine ⟨fun w'=>Zf (Zm bf (Xr ap 4 (Zm ak ao))) bf (Zm bf (Xr ap 4 (Zm ak ao))) w',fun g=>(Zm bf (Xr ap 4 (Zm ak ao))) g=497,Zf.refl _ _,V8,fun h=>absurd h (by decide),?_⟩;have b8:=Zt.clip (fun _=>false) (Xr ap 4 (Zm ak ao)) bf;refine Zme ?_;replace aa:=(((((aa.grow b0).kpp cr).grow hC).kpp ct).kp cu eh).kpp b8;replace b7:=((((b7.kpp cr).gr hC).kpp ct).kp cu).kpp b8;replace ab:=(((ab.gr hC).kpp ct).kp cu).kpp b8;replace ac:=(((ac.gr hC).kpp ct).kp cu).kpp b8;intro ei hC;replace hC:Zf (Zm bf (Xr ap 4 (Zm ak ao))) bf (Zm bf (Xr ap 4 (Zm ak ao))) ei:=.of_below hC.below;refine go ?_;refine Yx ⟨_,_,rfl⟩ ?_;replace ab:=ab.gr hC;refine lW ((ab.atN).nth (q:=1) rfl)<|go ?_;replace aj:=(aj.kpp b8).gr hC;replace ac:=ac.gr hC;replace aa:=aa.grow hC
 refine Zv [1,16,2,3,1000000] (fun n f a7=>∃ al cv bg bh bi a0 c7 c8 aw cw cx ax bn bo ay bp,bp=n∧Zb6 N af bp cv bg a0 aw ax ay=some r∧St w0 (Zj col) al a7∧Zg 27 1 al a7 cp #[.string af.1,.slice bx af.2.1.length bw,.slice cj af.2.2.1.length cg,.slice ck af.2.2.2.1.length ch,.slice cl af.2.2.2.2.length ci]∧Zg 27 2 al a7 dt #[.string (⟨#[]⟩),.slice none (([]:List ByteArray).length) 0,.slice none (([]:List R3).length) 0,.slice none (([]:List R2).length) 0,(.slice none (([]:List R4).length) 0)]∧Zb Za.str 9 3 al a7 bh bi a0∧Zb (Za.row 9 Za.str) 22 5 al a7 c7 c8 aw∧Zb (Za.row 3 rI) 33 6 al a7 cw cx ax∧Zb (Za.row 39 (Za.pair (Za.pair Za.bool (Za.row 95 rU)) (Za.row 95 rU))) 114 7 al a7 bn bo ay∧Zg 27 4 al a7 ap #[.string bg,.slice bh a0.length bi,.slice c7 aw.length c8,.slice cw ax.length cx,.slice bn ay.length bo]∧[17].map f=[.int .i64 cv]) N ⟨_,0,_,_,_,_,none,0,_,none,0,_,none,0,_,_,rfl,hm,aa,ab,ac,b7.gr hC,Zb.nil,Zb.nil,Zb.nil,aj,rfl⟩ ?_;clear hm;intro n f a7 hI;obtain ⟨al,cv,bg,bh,bi,a0,c7,c8,aw,cw,cx,ax,bn,bo,ay,bp,hn,hm,aa,ab,ac,ad,a1,ah,ae,aj,hs⟩:=hI;subst hn;refine .lL [17] hs ?_
 cases bp with
 | zero=>rw [Zb6.eq_1] at hm;cases hm
 | succ bp=>
  rw [Zb6.eq_2] at hm;refine go ?_;refine Zo hm (fun hb hm=>go ?_) fun hb hm=>go ?_
  ·refine Y8 (col:=al) [(0,1),(1,0),(2,1),(3,0),(4,1),(5,1),(6,0),(7,3),(8,3),(9,2),(10,1),(11,2)] (by kernel_rfl) (by kernel_rfl)<|xF ⟨_,_,rfl⟩ ?_;refine xW (fun _ hC=>((aj.atN).nth (q:=2) rfl).gr (hC.bl al)) ?_;refine xF ⟨_,_,rfl⟩ ?_;refine xW (fun _ hC=>((ab.atN).nth (q:=2) rfl).gr (hC.bl al)) ?_;refine xu rfl rfl (fun _=>Yq rfl) ?_;obtain ⟨f6,cy,hm⟩:=bZ hm;refine xu rfl rfl (fun _=>Yu underlying23 sizeOf22 rfl rfl (Xa cy).1 (Xa cy).2.1 ((cn.ks aa).addr cy)) ?_;obtain ⟨_,ej,ek⟩:=(cn.ks aa).atN cy;obtain ⟨⟨f7,f8,rfl,c9⟩,_⟩:=ej;refine xW (fun _ hC=>ek.one.gr (hC.bl al)) ?_;refine xe rfl rfl ?_;intro f9 hC0;have hC:=hC0.bl al;obtain ⟨a2,el,hm⟩:=bZ hm;refine Zi (Zm2 8 el (c9.gr hC)) ?_;rintro _ ga ⟨da,dv,dw,rfl,a8,db⟩;refine ⟨_,rfl,?_⟩;refine Zk<|Xj da hC0 a8<|xe rfl rfl ?_;intro gb hC0;replace ad:=(ad.gr hC).gr a8;replace a1:=(a1.gr hC).gr a8;replace ah:=(ah.gr hC).gr a8;replace ae:=(ae.gr hC).gr a8;replace ab:=(ab.gr hC).gr a8;replace ac:=(ac.gr hC).gr a8;replace aj:=(aj.gr hC).gr a8;replace aa:=(aa.grow hC).grow a8;have hC:=hC0.bl da;refine V9 (col:=da) (r:=(Za.row 9 Za.str)) (xs:=[a2]) [.slice dv a2.length dw] 8 (Wg.cons1 (cs:=[.slice dv a2.length dw]) (db.gr hC).has Rows.nil0) ?_;intro gc gd dc a9 dd;refine Zk<|Xj dc hC0 a9<|xe rfl rfl ?_;intro em hC0;replace ad:=(ad.gr hC).gr a9;replace a1:=(a1.gr hC).gr a9;replace ah:=(ah.gr hC).gr a9;replace ae:=(ae.gr hC).gr a9;replace ab:=(ab.gr hC).gr a9;replace ac:=(ac.gr hC).gr a9;replace aj:=(aj.gr hC).gr a9;replace aa:=(aa.grow hC).grow a9;have hC:=hC0.bl dc;obtain ⟨dx,hm⟩:=Z9 hm;replace a1:=a1.gr hC;refine Sb (col:=dc) (w:=em) (r:=(Za.row 9 Za.str)) (c:=5) (c2:=8) (a1.ex) ((dd.gr hC).srcC (by decide)) rfl underlying23 Z6r rfl rfl rfl dx.1 dx.2 (by decide) ?_;intro b1 b2 ge a3 bq de;refine Zk<|xk a3<|xF ⟨_,_,rfl⟩ ?_;refine xe rfl rfl ?_;intro gf hC0;replace ad:=(ad.gr hC).kpp bq;replace ah:=(ah.gr hC).kpp bq;replace ae:=(ae.gr hC).kpp bq;replace ab:=(ab.gr hC).kpp bq;replace ac:=(ac.gr hC).kpp bq;replace aj:=(aj.gr hC).kpp bq;replace aa:=(aa.grow hC).kpp bq;have hC:=hC0.bl a3;replace aj:=aj.gr hC
   refine Tt (off:=2) (v:=(.slice b1 ((aw++[a2]).length) b2)) aj sizeOf23 rfl rfl (by intro u hu;simp only [Value.cells,aO,bG,or_false] at hu;subst hu;rfl) rfl rfl ?_;intro en br eo am;replace am:Zg 27 4 a3 en ap #[.string bg,.slice bh a0.length bi,.slice b1 ((aw++[a2]).length) b2,.slice cw ax.length cx,.slice bn ay.length bo]:=am;refine Zk<|xk a3 ?_;have ag:=((de.gr hC).kp br).new;refine Yz ?_;replace ad:=(ad.gr hC).kp br;replace ah:=(ah.gr hC).kp br;replace ae:=(ae.gr hC).kp br;replace ab:=(ab.gr hC).kp br;replace ac:=(ac.gr hC).kp br;replace aa:=(aa.grow hC).kp br eo;intro gg hC;replace hC:=hC.bl a3;refine Zz<|Y8 (col:=a3) [(0,1),(1,0),(2,1),(3,0),(4,1),(5,1),(6,0),(7,3),(8,3),(9,2),(10,1),(11,2)] (by kernel_rfl) (by kernel_rfl)<|xF ⟨_,_,rfl⟩ ?_;replace am:=am.gr hC;refine xW (fun _ hC=>((am.atN).nth (q:=3) rfl).gr (hC.bl a3)) ?_;refine xF ⟨_,_,rfl⟩ ?_;replace ab:=ab.gr hC;refine xW (fun _ hC=>((ab.atN).nth (q:=3) rfl).gr (hC.bl a3)) ?_;refine xu rfl rfl (fun _=>Yq rfl) ?_;obtain ⟨gh,cz,hm⟩:=bZ hm;replace aa:=aa.grow hC;refine xu rfl rfl (fun _=>Yu underlying24 sizeOf33 rfl rfl (Xa cz).1 (Xa cz).2.1 ((co.ks aa).addr cz)) ?_;obtain ⟨_,ep,eq⟩:=(co.ks aa).atN cz;obtain ⟨⟨gi,gj,rfl,df⟩,_⟩:=ep;refine xW (fun _ hC=>eq.one.gr (hC.bl a3)) ?_;refine xe rfl rfl ?_;intro gk hC0;replace ad:=ad.gr hC;replace ag:=ag.gr hC;replace ah:=ah.gr hC;replace ae:=ae.gr hC;replace ac:=ac.gr hC;have hC:=hC0.bl a3;obtain ⟨ba,er,hm⟩:=bZ hm;refine Zi (Zgz 9 er (df.gr hC)) ?_;rintro _ gl ⟨dg,dy,dz,rfl,bb,dh⟩;refine ⟨_,rfl,?_⟩;refine Zk<|Xj dg hC0 bb<|xe rfl rfl ?_;intro gm hC0;replace ad:=(ad.gr hC).gr bb;replace ag:=(ag.gr hC).gr bb;replace ah:=(ah.gr hC).gr bb;replace ae:=(ae.gr hC).gr bb;replace ab:=(ab.gr hC).gr bb;replace ac:=(ac.gr hC).gr bb;replace am:=(am.gr hC).gr bb;replace aa:=(aa.grow hC).grow bb;have hC:=hC0.bl dg;refine V9 (col:=dg) (r:=(Za.row 3 rI)) (xs:=[ba]) [.slice dy ba.length dz] 9 (Wg.cons1 (cs:=[.slice dy ba.length dz]) (dh.gr hC).has Rows.nil0) ?_;intro gp gs di bc dj;refine Zk<|Xj di hC0 bc<|xe rfl rfl ?_;intro es hC0;replace ad:=(ad.gr hC).gr bc;replace ag:=(ag.gr hC).gr bc;replace ah:=(ah.gr hC).gr bc
   replace ae:=(ae.gr hC).gr bc;replace ab:=(ab.gr hC).gr bc;replace ac:=(ac.gr hC).gr bc;replace am:=(am.gr hC).gr bc;replace aa:=(aa.grow hC).grow bc;have hC:=hC0.bl di;obtain ⟨d0,hm⟩:=Z9 hm;replace ah:=ah.gr hC;refine Sb (col:=di) (w:=es) (r:=(Za.row 3 rI)) (c:=6) (c2:=9) (ah.ex) ((dj.gr hC).srcC (by decide)) rfl underlying24 Z6u rfl rfl rfl d0.1 d0.2 (by decide) ?_;intro b9 ca gt b3 bs dl;refine Zk<|xk b3<|xF ⟨_,_,rfl⟩ ?_;refine xe rfl rfl ?_;intro gu hC0;replace ad:=(ad.gr hC).kpp bs;replace ag:=(ag.gr hC).kpp bs;replace ae:=(ae.gr hC).kpp bs;replace ab:=(ab.gr hC).kpp bs;replace ac:=(ac.gr hC).kpp bs;replace am:=(am.gr hC).kpp bs;replace aa:=(aa.grow hC).kpp bs;have hC:=hC0.bl b3;refine Tt (off:=3) (v:=(.slice b9 ((ax++[ba]).length) ca)) (am.gr hC) sizeOf24 rfl rfl (by intro u hu;simp only [Value.cells,aO,bG,or_false] at hu;subst hu;rfl) rfl rfl ?_;intro et bt eu ai;replace ai:Zg 27 4 b3 et ap #[.string bg,.slice bh a0.length bi,.slice b1 ((aw++[a2]).length) b2,.slice b9 ((ax++[ba]).length) ca,.slice bn ay.length bo]:=ai;refine Zk<|xk b3 ?_;have an:=((dl.gr hC).kp bt).new;refine Yz ?_;replace ad:=(ad.gr hC).kp bt;replace ag:=(ag.gr hC).kp bt;replace ae:=(ae.gr hC).kp bt;replace ab:=(ab.gr hC).kp bt;replace ac:=(ac.gr hC).kp bt;replace aa:=(aa.grow hC).kp bt eu;intro ew hC;replace hC:=hC.bl b3;refine go ?_;refine Yx ⟨_,_,rfl⟩ ?_;replace ab:=ab.gr hC;refine lW ((ab.atN).nth (q:=4) rfl)<|X4 rfl ?_;obtain ⟨b4,b5,hm⟩:=bZ hm;replace aa:=aa.grow hC;refine lI b5 ((bz.ks aa).addr b5) ?_;obtain ⟨_,ey,ez⟩:=(bz.ks aa).atN b5;obtain ⟨⟨gv,gw,rfl,gx⟩,_⟩:=ey;refine lW ez.one<|go ?_;obtain ⟨d1,hm⟩:=Z9 hm;refine Zw4 (col:=b3) (w:=ew) (r:=(Za.pair (Za.pair Za.bool (Za.row 95 rU)) (Za.row 95 rU))) (n:=b4.length) 10 rfl underlying114 Z6x rfl rfl rfl d1.1 d1.2 ?_;intro gy gz g0 bj e0;refine go ?_;refine Yx ⟨_,_,rfl⟩ ?_;replace ab:=ab.gr bj;refine lW ((ab.atN).nth (q:=4) rfl)<|X4 rfl ?_;replace aa:=aa.grow bj;refine lI b5 ((bz.ks aa).addr b5) ?_;obtain ⟨_,e1,e2⟩:=(bz.ks aa).atN b5;obtain ⟨⟨e3,e4,rfl,ar⟩,_⟩:=e1;refine lW e2.one<|go ?_;replace ad:=(ad.gr hC).gr bj;replace ag:=(ag.gr hC).gr bj
   replace an:=(an.gr hC).gr bj;replace ae:=(ae.gr hC).gr bj;replace ac:=(ac.gr hC).gr bj;replace ai:=(ai.gr hC).gr bj;refine Zv [1,16,17,2,3,53,54,1000000] (fun n f az=>∃ aq cb cc bd cd ce,n=ce.length∧b4.drop cd=ce∧Zdk N cv bg a0 aw ax ay (Zb6 N af bp) a2 ba ce bd=some r∧St w0 (Zj col) aq az∧Zg 27 1 aq az cp #[.string af.1,.slice bx af.2.1.length bw,.slice cj af.2.2.1.length cg,.slice ck af.2.2.2.1.length ch,.slice cl af.2.2.2.2.length ci]∧Zg 27 2 aq az dt #[.string (⟨#[]⟩),.slice none (([]:List ByteArray).length) 0,.slice none (([]:List R3).length) 0,.slice none (([]:List R2).length) 0,(.slice none (([]:List R4).length) 0)]∧Zb Za.str 9 3 aq az bh bi a0∧Zb (Za.row 9 Za.str) 22 5 aq az b1 b2 (aw++[a2])∧Zb (Za.row 3 rI) 33 6 aq az b9 ca (ax++[ba])∧Zb (Za.row 39 (Za.pair (Za.pair Za.bool (Za.row 95 rU)) (Za.row 95 rU))) 114 7 aq az bn bo ay∧Zg 27 4 aq az ap #[.string bg,.slice bh a0.length bi,.slice b1 ((aw++[a2]).length) b2,.slice b9 ((ax++[ba]).length) ca,.slice bn ay.length bo]∧Zb (Za.pair (Za.pair Za.bool (Za.row 95 rU)) (Za.row 95 rU)) 39 10 aq az cb cc bd∧Sl (Za.pair (Za.pair Za.bool (Za.slice rU)) (Za.slice rU)) aq az e3 e4 b4∧[55,5].map f=[.int .i64 cd,.slice cb bd.length cc]) b4.length ⟨_,_,_,_,0,_,rfl,rfl,hm,aa,ab,ac,ad,ag,an,ae,ai,e0,ar,rfl⟩ ?_;clear hm;intro n f az hI;obtain ⟨aq,cb,cc,bd,cd,ce,hn,hl,hm,aa,ab,ac,ad,ag,an,ae,ai,bk,ar,hs⟩:=hI;subst hn;refine .lL [55,5] hs ?_
   cases ce with
   | nil=>
    have hk:¬ ((cd:Int)<(b4.length:Int)):=by have:=aG.1 hl;omega
    have hkb:=decide_eq_false hk;rw [Zdk.eq_1] at hm;refine go ?_;refine X0 (congrArg Value.bool hkb)<|go ?_;refine Xl ai<|Y2 rfl<|V9 (col:=aq) (r:=(Za.row 39 (Za.pair (Za.pair Za.bool (Za.row 95 rU)) (Za.row 95 rU)))) (xs:=[bd]) [.slice cb bd.length cc] 10 (Wg.cons1 (cs:=[.slice cb bd.length cc]) bk.has Rows.nil0) ?_;intro g1 e5 e6 bm e7;obtain ⟨d2,hm⟩:=Z9 hm;replace ae:=ae.gr bm;refine Sb (col:=e6) (w:=e5) (r:=(Za.row 39 (Za.pair (Za.pair Za.bool (Za.row 95 rU)) (Za.row 95 rU)))) (c:=7) (c2:=10) (ae.ex) (e7.srcC (by decide)) rfl underlying25 Z6o rfl rfl rfl d2.1 d2.2 (by decide) ?_;intro d3 d4 g2 e8 bu dm;refine Yx ⟨_,_,rfl⟩ ?_;replace ai:=(ai.gr bm).kpp bu;refine Tt (off:=4) (v:=(.slice d3 ((ay++[bd]).length) d4)) ai sizeOf25 rfl rfl (by intro u hu;simp only [Value.cells,aO,bG,or_false] at hu;subst hu;rfl) rfl rfl ?_;intro e9 bv fa dn;replace dn:Zg 27 4 e8 e9 ap #[.string bg,.slice bh a0.length bi,.slice b1 ((aw++[a2]).length) b2,.slice b9 ((ax++[ba]).length) ca,.slice d3 ((ay++[bd]).length) d4]:=dn;have fb:=(dm.kp bv).new;refine go ?_;replace ad:=((ad.gr bm).kpp bu).kp bv;replace ag:=((ag.gr bm).kpp bu).kp bv;replace an:=((an.gr bm).kpp bu).kp bv;replace ab:=((ab.gr bm).kpp bu).kp bv;replace ac:=((ac.gr bm).kpp bu).kp bv;replace aa:=((aa.grow bm).kpp bu).kp bv fa;exact ⟨bp,by omega,rfl,⟨_,_,_,_,_,_,_,_,_,_,_,_,_,_,_,_,rfl,hm,aa,ab,ac,ad,ag,an,fb,dn,rfl⟩⟩
   | cons dp fc=>
    obtain ⟨dq,fd,fe⟩:=Yf hl;have hk:(cd:Int)<(b4.length:Int):=by omega
    have hkb:=decide_eq_true hk;rw [Zdk.eq_2] at hm;refine go ?_;refine X1 (congrArg Value.bool hkb)<|go ?_;refine lI dq (ar.addr dq) ?_;obtain ⟨_,ff,fg⟩:=ar.atN dq;obtain ⟨_,_,rfl,fh,fi⟩:=Vr ff;obtain ⟨_,_,rfl,fj,fk⟩:=Vr fh;obtain ⟨rfl,_⟩:=fj;obtain ⟨⟨fl,fm,rfl,dr⟩,_⟩:=fk;obtain ⟨⟨fn,fp,rfl,ds⟩,_⟩:=fi;refine lV (.agg #[.bool dp.1.1,.slice fl dp.1.2.length fm,.slice fn dp.2.length fp]) (Y9 isAgg39 sizeOf39 rfl rfl fg)<|Xk (col:=aq) #[.bool false,(nI),(nI)] 11 zeroValue39 ?_;intro g3 g4 g5 au fq;refine Zy fq ?_;intro g6 av fr ft;refine go ?_;refine lV _ (Z8 isAgg39 sizeOf39 ft)<|lV (.agg #[.bool false,(nI),(nI)]) (Wq (l:=[_,_]) (qs:=[(0,2),(2,1)]) underlying39 zeroValue39 ⟨rfl,sizeOf37,rfl,sizeOf35,trivial⟩ rfl) ?_;obtain ⟨a4,fu,hm⟩:=bZ hm;refine Zi (Zgw 12 13 fu ((dr.gr au).kp av) ((ds.gr au).kp av) Sl.nil Sl.nil) ?_;rintro _ g7 ⟨fv,d5,d6,d7,d8,rfl,a5,fw,fx⟩;refine ⟨_,rfl,?_⟩;have fy:=Yk.join (Yk.joinL (Zai a4.1.1) fw.has) fx.has (by decide) (by decide);replace ad:=((ad.gr au).kp av).gr a5;replace ad:=ad.recol 13 12;replace ag:=((ag.gr au).kp av).gr a5;replace ag:=ag.recol 13 12;replace an:=((an.gr au).kp av).gr a5;replace an:=an.recol 13 12;replace ae:=((ae.gr au).kp av).gr a5;replace ae:=ae.recol 13 12;replace ar:=((ar.gr au).kp av).gr a5;replace ar:=ar.recol 13 12;replace bk:=((bk.gr au).kp av).gr a5;replace bk:=bk.recol 13 12;replace ab:=((ab.gr au).kp av).gr a5;replace ab:=ab.recol 13 12;replace ac:=((ac.gr au).kp av).gr a5;replace ac:=ac.recol 13 12;replace ai:=((ai.gr au).kp av).gr a5;replace ai:=ai.recol 13 12;replace aa:=((aa.grow au).kp av fr).grow a5;replace aa:=aa.recol 13 12 (by decide) (by decide)
    refine V9 (col:=(Xu 13 12 fv)) (r:=(Za.pair (Za.pair Za.bool (Za.row 95 rU)) (Za.row 95 rU))) (xs:=[((a4.1.1,a4.1.2),a4.2)]) [(.agg #[.bool a4.1.1,.slice d5 a4.1.2.length d6,.slice d7 a4.2.length d8])] 12 (Wg.cons1 (cs:=[.bool a4.1.1,.slice d5 a4.1.2.length d6,.slice d7 a4.2.length d8]) fy Rows.nil0) ?_;intro g8 g9 ha a6 fz;obtain ⟨f0,hm⟩:=Z9 hm;refine Vy (c:=10) (c2:=12) (bk.gr a6) (fz.srcC (by decide)) f0 ?_;intro hc hd he hf be f1;refine go ?_;replace ad:=(ad.gr a6).kpp be;replace ae:=(ae.gr a6).kpp be;replace ar:=(ar.gr a6).kpp be;replace ac:=(ac.gr a6).kpp be;replace aa:=(aa.grow a6).kpp be;exact ⟨fc.length,by simp,rfl,⟨_,_,_,_,_,_,rfl,fd,hm,aa,(ab.gr a6).kpp be,ac,ad,(ag.gr a6).kpp be,(an.gr a6).kpp be,ae,(ai.gr a6).kpp be,f1,ar,(Yl (congrArg (Value.int .i64) (Yi (aE fe ar.1.1))) rfl)⟩⟩
  refine lV _ (Z8 isAgg27 sizeOf27 aj)<|Zy ac ?_;intro hg cf f2 f3;refine go ?_;cases hm;replace aa:=aa.kp cf f2;exact ⟨rfl,_,ra f3.atN,_,_,_,_,_,_,_,_,_,rfl,aa.fin (cm [(3,c1),(5,c2),(6,c3),(7,c4)]),aa.fo (ad.kp cf),aa.fo (a1.kp cf),aa.fo (ah.kp cf),aa.fo (ae.kp cf)⟩
section
variable {N W K:Nat} {n:Zq} (hf:X7 N n) (hs:Ww n W) (hr:Z5 N (8 * K+40)) (hWK:1025 * (W+2)+4≤K) (hN:2000000<N)
include hf hs hr hWK hN
omit hf hs hN in
theorem Zw9 (v:Int) (m1:ByteArray) (m2:List ByteArray) (m3:List R3) (m4:List R2) (m5:List (List QV)) (h5:m5.length≤1048576) (kk:Int→ByteArray→List ByteArray→List R3→List R2→List (List QV)→Option Zq) (r1:List ByteArray) (r2:List Int):∀ (l out:List QV),(∀ x ∈ l,Vf x∧max x.1.2.length x.2.length≤W)→out.length+l.length≤1048576→
  Zdk N v m1 m2 m3 m4 m5 kk r1 r2 l out=kk (i64.wrap (v+1)) m1 m2 (m3++[r1]) (m4++[r2]) (m5++[out++l.map Wy])
 | [],out,_,a=>by
  rw [Zdk.eq_1,Xf (by simp only [aQ,maxLen];omega),bW,eG]
 | x :: l,out,b,a=>by
  obtain ⟨c,f⟩:=b x aC
  have g:RV 0 ((false,([]:List Int)),([]:List Int)):=⟨by simp [Zn],by simp [Zn],by simp,by simp⟩
  have d:Zr ((false,([]:List Int)),([]:List Int))=0:=by rw [Zr];simp [Zu,Zc]
  have i:Sr N ((x.1.1,x.1.2),x.2) ((false,([]:List Int)),([]:List Int))=some (Wy x):=by
   have:=Zm9 ((Zed c.1 c.2).mono f) g (hr.mono (by omega))
   rwa [d,gL] at this
  rw [nC] at a
  rw [Zdk.eq_2,i,oB,Xf (by simp only [aQ,maxLen];omega)]
  have e:=Zw9 v m1 m2 m3 m4 m5 h5 kk r1 r2 l (out++[Wy x]) (fun y j=>b y (aB _ j)) (by rw [nA,aQ];omega)
  rw [bO] at e
  exact e
omit hN in
theorem Zw8:∀ (f v:Nat),v≤n.2.1.length→n.2.1.length<f+v→Zb6 N n f (v:Int) n.1 n.2.1 (n.2.2.1.take v) (n.2.2.2.1.take v) ((n.2.2.2.2.take v).map (List.map Wy))=some (Ws n)
 | 0,v,g,i=>by omega
 | f+1,v,g,i=>by
  have q:=hf.ev.v;have s:=hf.ev.p;have u:=hf.ev.t;have o:=hf.le
  rw [Zb6.eq_2]
  by_cases hk:v<n.2.1.length
  ·have b:v<n.2.2.1.length:=by omega
   have c:v<n.2.2.2.1.length:=by omega
   have a:v<n.2.2.2.2.length:=by omega
   have j:Zcs n.2.2.1[v]=some n.2.2.1[v]:=by
    have:=hs.vl _ (aH b)
    rw [Zcs,Xf (by simp only [nN,maxLen];omega),bN]
   have k:Sz n.2.2.2.1[v]=some n.2.2.2.1[v]:=Zm4 (by have:=hs.pn.ls _ (aH c);omega)
   have d:=fun x l=>Zj5 hf hs hk x (by rw [Xn a];exact l)
   have m:=Zw9 hr hWK (v:Int) n.1 n.2.1 (n.2.2.1.take v) (n.2.2.2.1.take v) ((n.2.2.2.2.take v).map (List.map Wy)) (by rw [aN,nK];omega) (Zb6 N n f) n.2.2.1[v] n.2.2.2.1[v] n.2.2.2.2[v] [] d (by have:=hs.tl _ (aH a);simpa using this)
   have e:=Zw8 f (v+1) (by omega) (by omega)
   rw [bH b,bH c,bH a,eF,List.map_singleton] at e
   rw [if_pos (dT (by omega)),Z0 b,oB,j,oB,Xf (by simp only [nK,aQ,maxLen];omega),Z0 c,oB,k,oB,Xf (by simp only [nK,aQ,maxLen];omega),Z0 a,oB,Xf (by have:=hs.tl _ (aH a);simp only [maxLen];omega),m,wS (by omega),bN]
   exact e
  ·rw [if_neg (dF (by omega)),bF (by omega),bF (by omega),bF (by omega)];rfl
theorem Z72:Zhv N n=some (Ws n):=by
 have a:=hf.le
 have h:=Zw8 hf hs hr hWK N 0 (bK _) (by omega)
 rw [fL,fL,fL,bW] at h
 rw [Zhv,Zcs,Xf (by simp only [nN,maxLen];omega),oB,bN]
 exact h
end
theorem Zsa {b:Nat}:∀ l:List QV,(∀ x ∈ l,RV b x)→Xx l≤(b+2) * l.length
 | [],_=>by rw [Xx];omega
 | x :: l,h=>by
  have a:=h x aC
  have d:=a.lm;have e:=a.ld
  have f:=Zsa l fun y c=>h y (aB _ c)
  rw [Xx,nC,dP,eN];omega
def W1 (M:Rat) (c:List Int):List QV:=c.map fun x:Int=>Zp ((x:Rat)+M)
abbrev Zpt:=ByteArray×List ByteArray×List R3×List R2×List (List QV)
structure Zjt (n:Zpt):Prop where
 nm:n.2.1.length≤1048576
 vn:n.2.2.1.length≤1048576
 vl:∀ l ∈ n.2.2.1,l.length≤1048576
 pn:n.2.2.2.1.length≤1048576
 pl:∀ l ∈ n.2.2.2.1,l.length≤1048576
 tn:n.2.2.2.2.length≤1048576
 tl:∀ t ∈ n.2.2.2.2,t.length≤1048576
 tm:∀ t ∈ n.2.2.2.2,∀ x ∈ t,x.1.2.length≤1048576∧x.2.length≤1048576
/-! fractions that are the same -/
theorem Zge (a:QV) (l:List QV):Yn (a :: l)=Zr a+Yn l:=by rw [Yn,aS,eY,Yn]
def Zbp (s:Int) (l:List Int):List QV:=l.map fun w:Int=>Zp ((w:Rat) / (s:Rat))
theorem Z00 (s:Int):∀ l:List Int,(∀ x ∈ l,0≤x)→Yn (Zbp s l)=((Xv l:Nat):Rat) / (s:Rat)
 | [],_=>by rw [Xv,bT];show (0:Rat)=0 * _;rw [cT]
 | x :: l,h=>by
  have c:=h x aC
  have a:=Z00 s l fun y b=>h y (aB _ b)
  obtain ⟨d,rfl⟩:∃ d:Nat,x=(d:Int):=⟨x.toNat,by omega⟩
  rw [Zbp] at a
  rw [Zbp,aS,Zge,Wo,a,Xv,aD,gO,bT,bT,bT,gX]
  rfl
theorem Zs6:∀ a b:List Int,Xv (a++b)=Xv a+Xv b
 | [],b=>by rw [bN,Xv,cR]
 | x :: a,b=>by rw [bX,Xv,Xv,Zs6 a b,dS]
theorem Z1y:∀ {l:List Int} {x:Int},x ∈ l→x.toNat≤Xv l
 | y :: l,x,h=>by
  rw [Xv]
  rcases aO.1 h with rfl | h
  ·omega
  ·have:=Z1y h;omega
def Zrw (c:List Int):List Int:=c.map (· +1)
theorem Xa9:∀ c:List Int,(∀ x ∈ c,0≤x)→Xv (Zrw c)=Xv c+c.length
 | [],_=>rfl
 | x :: c,h=>by
  have d:=h x aC
  have a:=Xa9 c fun y b=>h y (aB _ b)
  rw [Zrw] at a
  rw [Zrw,aS,Xv,Xv,a,nC];omega
theorem Zzm:∀ l:List Int,(∀ x ∈ l,0≤x)→Yn (l.map fun y:Int=>Zp (y:Rat))=((Xv l:Nat):Rat)
 | [],_=>rfl
 | x :: l,h=>by
  have c:=h x aC
  have a:=Zzm l fun y b=>h y (aB _ b)
  obtain ⟨d,rfl⟩:∃ d:Nat,x=(d:Int):=⟨x.toNat,by omega⟩
  rw [aS,Zge,Wo,a,Xv,aD,gO];rfl
theorem Zru (M:Rat) (c:List Int) (k:Nat):(W1 M c).take k=W1 M (c.take k):=by rw [W1,W1,List.map_take]
theorem Zrt (M:Rat) (c:List Int) (k:Nat):(W1 M c).drop k=W1 M (c.drop k):=by rw [W1,W1,List.map_drop]
def Wj:List Rat→Rat
 | []=>1
 | x :: l=>x * Wj l
def Xt:List Rat→Rat
 | []=>0
 | x :: l=>x+Xt l
theorem Zy7 {l r:List Rat} (h:l.Perm r):Wj l=Wj r:=by
 induction h with
 | nil=>rfl
 | cons x _ c=>rw [Wj,Wj,c]
 | swap x y l=>simp only [Wj];grind
 | trans _ _ a b=>exact a.trans b
theorem Z12 {l r:List Rat} (h:l.Perm r):Xt l=Xt r:=by
 induction h with
 | nil=>rfl
 | cons x _ c=>rw [Xt,Xt,c]
 | swap x y l=>simp only [Xt];grind
 | trans _ _ a b=>exact a.trans b
theorem Zy6:∀ l:List Rat,(∀ x ∈ l,0≤x)→0≤Wj l
 | [],_=>by rw [Wj];decide
 | x :: l,h=>bS (h x aC) (Zy6 l fun y a=>h y (aB _ a))
theorem Zg0 (n:Nat):((n+1:Nat):Rat)=(n:Rat)+1:=by rw [gO];rfl
theorem Ztw:∀ l:List Rat,(∀ x ∈ l,1<x)→(l.length:Rat)≤Xt l
 | [],_=>by simp only [Xt,nN];decide
 | x :: l,h=>by
  have b:=h x aC
  have c:=Ztw l fun y a=>h y (aB _ a)
  rw [nC,Zg0,Xt]
  grind
theorem Ztx:∀ l:List Rat,(∀ x ∈ l,x<1)→Xt l≤(l.length:Rat)
 | [],_=>by simp only [Xt,nN];decide
 | x :: l,h=>by
  have b:=h x aC
  have c:=Ztx l fun y a=>h y (aB _ a)
  rw [nC,Zg0,Xt]
  grind
theorem Zty:∀ (n:Nat) (l:List Rat),l.length=n→(∀ x ∈ l,0≤x)→Xt l=(n:Rat)→Wj l≤1
 | 0,[],_,_,_=>by rw [Wj];exact cN
 | 1,[x],_,_,b=>by
  have:x=1:=by
   simp only [Xt] at b
   rw [gL] at b
   exact b
  rw [this,Wj,Wj,bQ];exact cN
 | n+2,l,m,r,b=>by
  -- one of at most 1
  have o:∃ x ∈ l,x≤1:=by
   by_cases h:∃ x ∈ l,x≤1
   ·exact h
   ·exfalso
    have c:∀ x ∈ l,1<x:=fun x o=>iD.1 fun d=>h ⟨x,o,d⟩
    cases l with
    | nil=>simp at m
    | cons y t=>
     have J:=c y aC
     have p:=Ztw t fun z a=>c z (aB _ a)
     rw [nC] at m
     have f:t.length=n+1:=by omega
     rw [f] at p
     rw [Xt,show ((n+2:Nat):Rat)=((n+1:Nat):Rat)+1 from Zg0 (n+1)] at b
     grind
  obtain ⟨x,g,L⟩:=o
  have s:=jS g
  have i:(l.erase x).length=n+1:=by rw [jA g,m];rfl
  have v:=Z12 s
  have M:=r x g
  have w:∀ z ∈ l.erase x,0≤z:=fun z a=>r z (jM a)
  have A:=Zy7 s
  rw [A,Wj]
  rw [v,Xt,show ((n+2:Nat):Rat)=((n+1:Nat):Rat)+1 from Zg0 (n+1)] at b
  generalize l.erase x=t at *
  -- one of at least 1
  have q:∃ y ∈ t,1≤y:=by
   by_cases h:∃ y ∈ t,1≤y
   ·exact h
   ·exfalso
    have c:∀ y ∈ t,y<1:=fun y q=>iD.1 fun d=>h ⟨y,q,d⟩
    cases t with
    | nil=>simp at i
    | cons y t=>
     have J:=c y aC
     have p:=Ztx t fun z a=>c z (aB _ a)
     rw [nC] at i
     have f:t.length=n:=by omega
     rw [f] at p
     rw [Xt,Zg0] at b
     grind
  obtain ⟨y,j,N⟩:=q
  have B:=jS j
  have C:(t.erase y).length=n:=by rw [jA j,i];rfl
  have D:=Z12 B
  have E:=Zy7 B
  have k:∀ z ∈ t.erase y,0≤z:=fun z a=>w z (jM a)
  rw [E,Wj]
  rw [D,Xt] at b
  generalize t.erase y=u at *
  have F:0≤x+y - 1:=by grind
  have G:=Zty (n+1) ((x+y - 1) :: u) (by rw [nC,C]) (fun z a=>by
   rcases aO.1 a with rfl | a
   ·exact F
   ·exact k z a) (by rw [Xt];grind)
  rw [Wj] at G
  have K:=Zy6 u k
  have O:0≤(1 - x) * (y - 1):=bS (by grind) (by grind)
  have H:x * y≤x+y - 1:=by grind
  have I:=cB H K
  have e:x * (y * Wj u)=x * y * Wj u:=(bJ _ _ _).symm
  rw [e]
  exact eI I G
theorem Zq1 {a:Rat} (h:0≤a):0≤a⁻¹:=by
 by_cases h0:a=0
 ·rw [h0,lR];exact cN
 ·by_cases hn:a⁻¹<0
  ·exfalso
   have b:=eZ (fM hn) h
   rw [cM _ h0,eO] at b
   exact absurd b (by decide)
  ·exact Rat.not_lt.1 hn
/-! powers -/
def Zx (q:Rat):Nat→Rat
 | 0=>1
 | n+1=>Zx q n * q
theorem Qs {q:Rat} (h:0≤q):∀ n,0≤Zx q n
 | 0=>by rw [Zx];decide
 | n+1=>bS (Qs h n) h
theorem Zlz {q:Rat} (h:0<q):∀ n,0<Zx q n
 | 0=>by rw [Zx];decide
 | n+1=>gG (Zlz h n) h
theorem Zag (a b:Rat):∀ n,Zx (a * b) n=Zx a n * Zx b n
 | 0=>by rw [Zx,Zx,Zx,bQ]
 | n+1=>by rw [Zx,Zx,Zx,Zag a b n];grind
theorem Zly:∀ n,Zx 1 n=1
 | 0=>rfl
 | n+1=>by rw [Zx,Zly n,bQ]
theorem Zr3 (q:Rat) (m:Nat):∀ n,Zx q (m+n)=Zx q m * Zx q n
 | 0=>by rw [Zx,bU,bQ]
 | n+1=>by rw [← dS,Zx,Zr3 q m n,Zx,bJ]
theorem Zr4 {a b:Rat} (ha:0≤a) (h:a≤b):∀ n,Zx a n≤Zx b n
 | 0=>cN
 | n+1=>by
  rw [Zx,Zx]
  exact eI (cB (Zr4 ha h n) ha) (eZ h (Qs (eI ha h) n))
theorem Zy5 (k:Rat):∀ l:List Rat,Wj (l.map (· * k))=Wj l * Zx k l.length
 | []=>by rw [bW,Wj,nN,Zx,bQ]
 | x :: l=>by rw [aS,Wj,Zy5 k l,Wj,nC,Zx];grind
theorem Z11 (k:Rat):∀ l:List Rat,Xt (l.map (· * k))=Xt l * k
 | []=>by rw [bW,Xt,cT]
 | x :: l=>by rw [aS,Xt,Z11 k l,Xt,gX]
theorem Zs9:∀ l:List Rat,(∀ x ∈ l,0≤x)→0≤Xt l
 | [],_=>by rw [Xt];decide
 | x :: l,h=>iU (h x aC) (Zs9 l fun y a=>h y (aB _ a))
theorem Z14:∀ l:List Rat,(∀ x ∈ l,0≤x)→Xt l=0→∀ x ∈ l,x=0
 | y :: l,h,hs,x,a=>by
  have c:=h y aC
  have d:=Zs9 l fun z b=>h z (aB _ b)
  rw [Xt] at hs
  rcases aO.1 a with rfl | a
  ·grind
  ·exact Z14 l (fun z b=>h z (aB _ b)) (by grind) x a
theorem amgm (l:List Rat) (h:∀ x ∈ l,0≤x):Wj l * Zx (l.length:Rat) l.length≤Zx (Xt l) l.length:=by
 by_cases hs:Xt l=0
 ·cases l with
  | nil=>simp only [Wj,nN,Zx,bQ];exact cN
  | cons x t=>
   have b:=Z14 _ h hs x aC
   rw [Wj,hs,b,cT,cT]
   exact Qs (cN (a:=0)) _
 ·have c:=Zs9 l h
  have i:0<Xt l:=by
   rcases Rat.le_iff_lt_or_eq.1 c with h | h
   ·exact h
   ·exact absurd h.symm hs
  have d:0≤(Xt l)⁻¹:=Zq1 c
  have e:(0:Rat)≤(l.length:Rat):=by
   have:((0:Nat):Rat)≤(l.length:Rat):=eP.2 (bK _)
   exact this
  have j:0≤(l.length:Rat) * (Xt l)⁻¹:=bS e d
  have f:=Zty l.length (l.map (· * ((l.length:Rat) * (Xt l)⁻¹))) (aN ..) (fun z k=>by
   obtain ⟨x,b,rfl⟩:=cA.1 k
   exact bS (h x b) j) (by
   rw [Z11,iJ (l.length:Rat),← bJ,cM _ hs,cX])
  rw [Zy5,Zag,← bJ] at f
  have g:=cB f (Qs c l.length)
  rw [cX,bJ,← Zag,fH _ hs,Zly,bQ] at g
  exact g
/-! weights -/
def Wi:List (Nat×Rat)→Nat
 | []=>0
 | p :: l=>p.1+Wi l
def Tb:List (Nat×Rat)→Rat
 | []=>0
 | p :: l=>(p.1:Rat) * p.2+Tb l
def W9:List (Nat×Rat)→Rat
 | []=>1
 | p :: l=>Zx p.2 p.1 * W9 l
def Zav:List (Nat×Rat)→List Rat
 | []=>[]
 | p :: l=>aM p.1 p.2++Zav l
theorem Zwe:∀ l,(Zav l).length=Wi l
 | []=>rfl
 | p :: l=>by rw [Zav,Wi,nA,bI,Zwe l]
theorem Zy4:∀ a b:List Rat,Wj (a++b)=Wj a * Wj b
 | [],b=>by rw [bN,Wj,cX]
 | x :: a,b=>by rw [bX,Wj,Wj,Zy4 a b,bJ]
theorem Zs8:∀ a b:List Rat,Xt (a++b)=Xt a+Xt b
 | [],b=>by rw [bN,Xt,lS]
 | x :: a,b=>by rw [bX,Xt,Xt,Zs8 a b,lH]
theorem Zy8 (x:Rat):∀ n,Wj (aM n x)=Zx x n
 | 0=>rfl
 | n+1=>by rw [jU,Wj,Zy8 x n,Zx,iJ]
theorem Z13 (x:Rat):∀ n:Nat,Xt (aM n x)=(n:Rat) * x
 | 0=>by rw [List.replicate_zero,Xt];exact (cT x).symm
 | n+1=>by rw [jU,Xt,Z13 x n,Zg0,gX,cX,Rat.add_comm]
theorem Zwg:∀ l,Wj (Zav l)=W9 l
 | []=>rfl
 | p :: l=>by rw [Zav,W9,Zy4,Zy8,Zwg l]
theorem Zwh:∀ l,Xt (Zav l)=Tb l
 | []=>rfl
 | p :: l=>by rw [Zav,Tb,Zs8,Z13,Zwh l]
theorem Zwf:∀ l:List (Nat×Rat),(∀ p ∈ l,0≤p.2)→∀ x ∈ Zav l,0≤x
 | p :: l,h,x,a=>by
  rw [Zav,bE] at a
  rcases a with a | a
  ·rw [(List.mem_replicate.1 a).2];exact h p aC
  ·exact Zwf l (fun q b=>h q (aB _ b)) x a
theorem Ztz (l:List (Nat×Rat)) (h:∀ p ∈ l,0≤p.2):W9 l * Zx (Wi l:Rat) (Wi l)≤Zx (Tb l) (Wi l):=by
 have:=amgm (Zav l) (Zwf l h)
 rwa [Zwe,Zwg,Zwh] at this
/-! shares -/
def Zaf:List (Nat×Rat)→Rat
 | []=>1
 | p :: l=>Zx (p.1:Rat) p.1 * Zaf l
def Zgj:List (Nat×Rat)→Rat
 | []=>0
 | p :: l=>p.2+Zgj l
theorem Z9b {c:Nat} (x:Rat):Zx (x / (c:Rat)) c * Zx (c:Rat) c=Zx x c:=by
 rw [← Zag]
 by_cases h:c=0
 ·subst h;rfl
 ·have a:((c:Nat):Rat)≠0:=fun e=>h (by
   have:((c:Nat):Rat)=((0:Nat):Rat):=e
   exact eB.1 this)
  rw [bT,bJ,fH _ a,bQ]
theorem Zy9:∀ l:List (Nat×Rat),W9 (l.map fun p=>(p.1,p.2 / (p.1:Rat))) * Zaf l=W9 l
 | []=>by rw [bW,W9,Zaf,bQ]
 | p :: l=>by
  have a:=Zy9 l
  have h:=Z9b (c:=p.1) p.2
  rw [aS,W9,Zaf,W9,← a,← h]
  generalize Zx (p.2 / (p.1:Rat)) p.1=A
  generalize Zx (p.1:Rat) p.1=B
  generalize W9 (l.map fun p=>(p.1,p.2 / (p.1:Rat)))=C
  generalize Zaf l=D
  grind
theorem Z16:∀ l:List (Nat×Rat),(∀ p ∈ l,0≤p.2)→Tb (l.map fun p=>(p.1,p.2 / (p.1:Rat)))≤Zgj l∧0≤Tb (l.map fun p=>(p.1,p.2 / (p.1:Rat)))
 | [],_=>by rw [bW,Tb,Zgj];exact ⟨cN,cN⟩
 | p :: l,h=>by
  obtain ⟨g,a⟩:=Z16 l fun q d=>h q (aB _ d)
  have b:=h p aC
  have f:(p.1:Rat) * (p.2 / (p.1:Rat))≤p.2∧0≤(p.1:Rat) * (p.2 / (p.1:Rat)):=by
   by_cases hc:p.1=0
   ·have e:((p.1:Nat):Rat)=0:=by rw [hc];rfl
    rw [e,cT];exact ⟨b,cN⟩
   ·have c:((p.1:Nat):Rat)≠0:=fun e=>hc (by
     have:((p.1:Nat):Rat)=((0:Nat):Rat):=e
     exact eB.1 this)
    have e:(p.1:Rat) * (p.2 / (p.1:Rat))=p.2:=by rw [bT,iJ p.2,← bJ,cM _ c,cX]
    rw [e];exact ⟨cN,b⟩
  rw [aS,Tb,Zgj]
  exact ⟨by grind,iU f.2 a⟩
theorem Z2p:∀ l:List (Nat×Rat),Wi (l.map fun p=>(p.1,p.2 / (p.1:Rat)))=Wi l
 | []=>rfl
 | p :: l=>by rw [aS,Wi,Wi,Z2p l]
theorem Zyr (n:Rat) (hn:n≠0):∀ l:List (Nat×Rat),W9 (l.map fun p=>(p.1,(p.1:Rat) / n)) * Zx n (Wi l)=Zaf l
 | []=>by rw [bW,W9,Wi,Zx,Zaf,bQ]
 | p :: l=>by
  have a:=Zyr n hn l
  have h:Zx ((p.1:Rat) / n) p.1 * Zx n p.1=Zx (p.1:Rat) p.1:=by
   rw [← Zag,bT,bJ,fH _ hn,bQ]
  rw [aS,W9,Wi,Zr3,Zaf,← a,← h]
  generalize Zx ((p.1:Rat) / n) p.1=A
  generalize Zx n p.1=B
  generalize W9 (l.map fun p=>(p.1,(p.1:Rat) / n))=C
  generalize Zx n (Wi l)=D
  grind
theorem Z7o (l:List (Nat×Rat)) (h:∀ p ∈ l,0≤p.2) (hs:Zgj l≤1) (hn:Wi l≠0):W9 l≤W9 (l.map fun p=>(p.1,(p.1:Rat) / (Wi l:Rat))):=by
 have a:((Wi l:Nat):Rat)≠0:=fun e=>hn (by
  have:((Wi l:Nat):Rat)=((0:Nat):Rat):=e
  exact eB.1 this)
 have b:(0:Rat)<(Wi l:Rat):=by
  have:((0:Nat):Rat)<((Wi l:Nat):Rat):=jN.2 (by omega)
  exact this
 have d:∀ p ∈ l.map (fun p=>(p.1,p.2 / (p.1:Rat))),0≤p.2:=fun p f=>by
  obtain ⟨q,g,rfl⟩:=cA.1 f
  have i:=h q g
  have j:(0:Rat)≤((q.1:Nat):Rat):=by
   have:((0:Nat):Rat)≤(q.1:Rat):=eP.2 (bK _)
   exact this
  show 0≤q.2 / (q.1:Rat)
  rw [bT]
  exact bS i (Zq1 j)
 have c:=Ztz _ d
 rw [Z2p] at c
 obtain ⟨k,m⟩:=Z16 l h
 have n:Zx (Tb (l.map fun p=>(p.1,p.2 / (p.1:Rat)))) (Wi l)≤1:=by
  have:=Zr4 m (eI k hs) (Wi l)
  rwa [Zly] at this
 have hC:=eI c n
 have o:=Zy9 l
 have r:=Zyr (Wi l:Rat) a l
 have s:=Zlz b (Wi l)
 have t:∀ l:List (Nat×Rat),0≤Zaf l:=fun l=>by
  induction l with
  | nil=>rw [Zaf];decide
  | cons p l u=>
   refine bS (Qs ?_ _) u
   have:((0:Nat):Rat)≤(p.1:Rat):=eP.2 (bK _)
   exact this
 have v:=cB hC (t l)
 rw [cX] at v
 generalize W9 (l.map fun p=>(p.1,p.2 / (p.1:Rat)))=A at *
 generalize W9 (l.map fun p=>(p.1,(p.1:Rat) / (Wi l:Rat)))=B at *
 generalize Zx (Wi l:Rat) (Wi l)=Pn at *
 generalize Zaf l=w at *
 rw [← o]
 have x:A * w * Pn≤B * Pn:=by rw [r];grind
 exact iV x s
def Wd:List QV→List Int→Rat
 | [],_=>1
 | _ :: _,[]=>1
 | x :: t,c :: cs=>Zx (Zr x) c.toNat * Wd t cs
def Tn:List QV→List Int→List (Nat×Rat)
 | [],_=>[]
 | _ :: _,[]=>[]
 | x :: t,c :: cs=>(c.toNat,Zr x) :: Tn t cs
theorem Ztc:∀ (t:List QV) (c:List Int),Wd t c=W9 (Tn t c)
 | [],_=>rfl
 | _ :: _,[]=>rfl
 | x :: t,c :: a=>by rw [Wd,Tn,W9,Ztc t a]
theorem Ztf:∀ (t:List QV) (c:List Int),t.length=c.length→Wi (Tn t c)=Xv c
 | [],[],_=>rfl
 | x :: t,c :: a,h=>by rw [Tn,Wi,Xv,Ztf t a (by simpa using h)]
theorem Z15:∀ (t:List QV) (c:List Int),t.length=c.length→Zgj (Tn t c)=Yn t
 | [],[],_=>rfl
 | x :: t,c :: a,h=>by rw [Tn,Zgj,Zge,Z15 t a (by simpa using h)]
theorem Z3a (S:Rat):∀ (t:List QV) (c:List Int),t.length=c.length→(∀ x ∈ c,0≤x)→Tn (c.map fun x:Int=>Zp ((x:Rat) / S)) c=(Tn t c).map fun p=>(p.1,(p.1:Rat) / S)
 | [],[],_,_=>rfl
 | x :: t,c :: b,h,a=>by
  have f:=a c aC
  obtain ⟨d,rfl⟩:∃ d:Nat,c=(d:Int):=⟨c.toNat,by omega⟩
  rw [aS,Tn,Tn,aS,Z3a S t b (by simpa using h) fun y e=>a y (aB _ e),Wo,aD]
  rfl
theorem Z29:∀ (t:List QV) (c:List Int),(∀ x ∈ t,0≤Zr x)→∀ p ∈ Tn t c,0≤p.2
 | [],_,_,p,a=>by rw [Tn] at a;cases a
 | _ :: _,[],_,p,a=>by rw [Tn] at a;cases a
 | x :: t,c :: b,h,p,a=>by
  rw [Tn] at a
  rcases aO.1 a with rfl | a
  ·exact h x aC
  ·exact Z29 t b (fun y d=>h y (aB _ d)) p a
theorem Zpf:∀ (t:List QV) (c:List Int),(∀ x ∈ t,0≤Zr x)→0≤Wd t c
 | [],_,_=>by rw [Wd];decide
 | _ :: _,[],_=>by rw [Wd];decide
 | x :: t,c :: a,h=>by
  rw [Wd]
  exact bS (Qs (h x aC) _) (Zpf t a fun y b=>h y (aB _ b))
theorem Zpe:∀ (t:List QV) (c:List Int),(∀ x ∈ c,x.toNat=0)→Wd t c=1
 | [],_,_=>rfl
 | _ :: _,[],_=>rfl
 | x :: t,c :: a,h=>by
  rw [Wd,h c aC,Zx,cX,Zpe t a fun y b=>h y (aB _ b)]
theorem Ztb:∀ (a b:List QV) (c d:List Int),a.length=c.length→Wd (a++b) (c++d)=Wd a c * Wd b d
 | [],b,[],d,_=>by rw [bN,bN,Wd,cX]
 | x :: a,b,c :: e,d,h=>by
  rw [bX,bX,Wd,Wd,Ztb a b e d (by simpa using h),bJ]
theorem Zs7:∀ {c:List Int},Xv c=0→∀ x ∈ c,x.toNat=0
 | y :: c,h,x,a=>by
  rw [Xv] at h
  rcases aO.1 a with rfl | a
  ·omega
  ·exact Zs7 (c:=c) (by omega) x a
theorem Z8w (c:List Int):W1 0 c=c.map fun y:Int=>Zp (y:Rat):=by
 rw [W1]
 refine iC fun x _=>?_
 rw [gL]
theorem Zs1 {t:List QV} {c:List Int} (h0:∀ x ∈ c,0≤x):T4 t (W1 0 c)=if Xv c=0 then t else Zbp ((Xv c:Nat):Int) c:=by
 have e:=Zzm c h0
 rw [T4,Z8w,e]
 by_cases h:Xv c=0
 ·rw [if_pos h,if_pos (by rw [h];rfl)]
 ·have a:¬ ((Xv c:Nat):Rat)=0:=fun b=>h (eB.1 b)
  rw [if_neg h,if_neg a,Zbp,List.map_map]
  refine iC fun x _=>?_
  show Zp (Zr (Zp (x:Rat)) / _)=_
  rw [Wo];rfl
theorem Xaf {t t':List QV} {c:List Int} (h0:∀ x ∈ c,0≤x) (hl:t'.length=c.length) (hn:∀ x ∈ t',0≤Zr x) (hs:Yn t'=1):Wd t' c≤Wd (T4 t (W1 0 c)) c:=by
 rw [Zs1 h0]
 by_cases h:Xv c=0
 ·rw [if_pos h,Zpe _ _ (Zs7 h),Zpe _ _ (Zs7 h)];exact cN
 ·have g:=Z7o (Tn t' c) (Z29 t' c hn) (by rw [Z15 _ _ hl,hs];exact cN) (by rw [Ztf _ _ hl];exact h)
  rw [if_neg h,Ztc,Ztc,Zbp,Z3a _ t' c hl h0]
  rw [Ztf _ _ hl] at g
  exact g
theorem Zro {a b c d:Rat} (ha:0≤a) (hab:a≤b) (hc:0≤c) (hcd:c≤d):a * c≤b * d:=
 eI (cB hab hc) (eZ hcd (eI ha hab))
theorem Xbg (k:Nat) (t:List QV) (c:List Int) (h:t.length=c.length):Wd t c=Wd (t.take k) (c.take k) * Wd (t.drop k) (c.drop k):=by
 have:=Ztb (t.take k) (t.drop k) (c.take k) (c.drop k) (by rw [nK,nK,h])
 rw [dK,dK] at this
 exact this
theorem Z2c {k:Nat}:∀ (m:Nat) (t t':List QV) (c:List Int),t.length=m * k→t'.length=m * k→c.length=m * k→(∀ x ∈ c,0≤x)→(∀ x ∈ t',0≤Zr x)→(∀ j,j<m→Yn ((t'.drop (j * k)).take k)=1)→Wd t' c≤Wd (Vl k m t (W1 0 c)) c
 | 0,t,t',c,b,d,f,_,_,_=>by
  rw [dD] at d b
  rw [Vl,gI.1 d,gI.1 b];exact cN
 | m+1,t,t',c,b,d,f,g,i,hs=>by
  rw [aV,aX] at b d f
  have y:(W1 0 c).length=c.length:=by rw [W1,aN]
  have q:(T4 (t.take k) ((W1 0 c).take k)).length=k:=by rw [Xal (by rw [nK,nK];omega),nK];omega
  have s:∀ x ∈ c.take k,0≤x:=fun x a=>g x (dB a)
  have u:∀ x ∈ c.drop k,0≤x:=fun x a=>g x (dC a)
  have l:∀ x ∈ t'.take k,0≤Zr x:=fun x a=>i x (dB a)
  have o:∀ x ∈ t'.drop k,0≤Zr x:=fun x a=>i x (dC a)
  have p:=hs 0 (by omega)
  rw [dD,aP] at p
  have v:=Xaf (t:=t.take k) s (by rw [nK,nK];omega) l p
  have w:=Z2c (k:=k) m (t.drop k) (t'.drop k) (c.drop k) (by rw [bP];omega) (by rw [bP];omega) (by rw [bP];omega) u o fun j A=>by
   have:=hs (j+1) (by omega)
   rw [show (j+1) * k=k+j * k by rw [aV,aX,eM],← dR] at this
   exact this
  have e:Wd (Vl k (m+1) t (W1 0 c)) c=Wd (T4 (t.take k) (W1 0 (c.take k))) (c.take k) * Wd (Vl k m (t.drop k) (W1 0 (c.drop k))) (c.drop k):=by
   have:=Ztb (T4 (t.take k) ((W1 0 c).take k)) (Vl k m (t.drop k) ((W1 0 c).drop k)) (c.take k) (c.drop k) (by rw [q,nK];omega)
   rw [dK] at this
   rw [Vl,this,Zru,Zrt]
  rw [e,Xbg k t' c (by omega)]
  exact Zro (Zpf _ _ l) v (Zpf _ _ o) w
def Z2 (n:Zq) (w:List Int):Nat→Nat→Rat
 | 0,_=>1
 | m+1,k=>ent n w k * Z2 n w m (k+1)
theorem Zot (n:Zq) (w:List Int):∀ m k q,Ux n w m k q=q * Z2 n w m k
 | 0,k,q=>by rw [Ux,Z2,bQ]
 | m+1,k,q=>by rw [Ux,Zot n w m,Z2,bJ]
structure Zei (b k m:Nat) (l:List QV):Prop where
 len:l.length=m * k
 ent:∀ x ∈ l,0≤Zr x∧Zr x≤1∧RV b x
 row:∀ j,j<m→Yn ((l.drop (j * k)).take k)=1
theorem Zei.cons {b k m:Nat} {R l:List QV} (hR:∀ x ∈ R,0≤Zr x∧Zr x≤1∧RV b x) (hs:Yn R=1) (hl:R.length=k) (h:Zei b k m l):Zei b k (m+1) (R++l) where
 len:=by rw [nA,hl,h.len,aV,aX,eM]
 ent:=fun x hx=>(bE.1 hx).elim (hR x) (h.ent x)
 row:=fun j hj=>by
  cases j with
  | zero=>rw [dD,aP,List.take_append_of_le_length (by omega),bF (by omega)];exact hs
  | succ j=>
   have:=h.row j (by omega)
   rw [show (j+1) * k=k+j * k by rw [aV,aX,eM],← dR,List.drop_left' hl]
   exact this
theorem Zzl:∀ l:List QV,Yn (l.map Wy)=Yn l
 | []=>rfl
 | x :: l=>by rw [aS,Zge,Zge,Zvg,Zzl l]
section
variable {N W:Nat} {n:Zq} (hf:X7 N n) (hs:Ww n W) {r:List R2} (hl:r.length≤12)
include hf hs hl
omit hl in
theorem Zv0 {v:Nat} (hv:v<n.2.1.length):∀ x ∈ n.2.2.2.2.getD v [],qs (Zr x)≤Xx (n.2.2.2.2.getD v [])+1:=fun x a=>by
 have b:=(Zj5 hf hs hv x a).1
 have c:=Zsh (Zed b.1 b.2)
 have d:=Zsd a
 omega
end
/-! other tables:what is learnt is as likely -/
/-! assignments with weights -/
def wP (n:Zq):List R8→Rat
 | []=>1
 | p :: l=>Zx (Z2 n p.2 n.2.1.length 0) p.1 * wP n l
def Tj (n:Zq) (v:Nat) (c:List Int) (p:Nat×List Int):List Int:=c.set (Y4 n v p.2) (c.getD (Y4 n v p.2) 0+(p.1:Int))
def Wr (n:Zq) (v:Nat) (L:List R8):List Int:=L.foldl (Tj n v) (aM (n.2.2.2.2.getD v []).length 0)
theorem Zve (n:Zq) (v:Nat) (L:List R8) (p:Nat×List Int):Wr n v (L++[p])=Tj n v (Wr n v L) p:=by
 rw [Wr,List.foldl_append];rfl
theorem Z9d (n:Zq) (v:Nat) (c:List Int) (p:Nat×List Int):(Tj n v c p).length=c.length:=by rw [Tj,nS]
theorem Zwl (n:Zq) (v:Nat):∀ (L:List R8) (c:List Int),(L.foldl (Tj n v) c).length=c.length
 | [],c=>rfl
 | p :: L,c=>by rw [fE,Zwl n v L,Z9d]
theorem Zg1 (n:Zq) (v:Nat) (L:List R8):(Wr n v L).length=(n.2.2.2.2.getD v []).length:=by rw [Wr,Zwl,bI]
theorem Zqw (n:Zq) (v:Nat):∀ (L:List R8) (c:List Int),(∀ x ∈ c,0≤x)→∀ x ∈ L.foldl (Tj n v) c,0≤x
 | [],c,h=>h
 | p :: L,c,h=>by
  rw [fE]
  refine Zqw n v L _ fun x d=>?_
  rw [Tj] at d
  rcases List.mem_or_eq_of_mem_set d with e | rfl
  ·exact h x e
  ·have:0≤c.getD (Y4 n v p.2) 0:=by
    rcases Nat.lt_or_ge (Y4 n v p.2) c.length with b | b
    ·rw [Xn b];exact h _ (aH b)
    ·rw [aF,List.getElem?_eq_none b];exact Int.le_refl _
   omega
theorem Zj2 (n:Zq) (v:Nat) (L:List R8):∀ x ∈ Wr n v L,0≤x:=
 Zqw n v L _ fun x b=>by rw [eJ b];exact Int.le_refl _
theorem Z2b:∀ (t:List QV) (c:List Int) (i:Nat) (x:QV) (k:Int) (a:Nat),t[i]?=some x→c[i]?=some k→0≤k→Wd t (c.set i (k+(a:Int)))=Wd t c * Zx (Zr x) a
 | [],_,i,x,k,a,h,_,_=>by simp at h
 | _ :: _,[],i,x,k,a,_,h,_=>by simp at h
 | y :: t,d :: c,0,x,k,a,b,e,f=>by
  simp only [List.getElem?_cons_zero,Option.some.injEq] at b e
  subst b e
  rw [List.set_cons_zero,Wd,Wd,show (d+(a:Int)).toNat=d.toNat+a by omega,Zr3]
  generalize Zx (Zr y) d.toNat=A
  generalize Zx (Zr y) a=E
  generalize Wd t c=B
  grind
 | y :: t,d :: c,i+1,x,k,a,b,e,f=>by
  rw [List.set_cons_succ,Wd,Wd,Z2b t c i x k a (by simpa using b) (by simpa using e) f,bJ]
def Ue (T:List (List QV)) (C:Nat→List Int):Nat→Nat→Rat
 | 0,_=>1
 | m+1,v=>Wd (T.getD v []) (C v) * Ue T C m (v+1)
theorem Z2x {T T':List (List QV)} {C:Nat→List Int} {s:Nat} (hn:∀ v,v<s→∀ x ∈ T.getD v [],0≤Zr x) (hle:∀ v,v<s→Wd (T.getD v []) (C v)≤Wd (T'.getD v []) (C v)):∀ m v,v+m≤s→0≤Ue T C m v∧Ue T C m v≤Ue T' C m v
 | 0,v,_=>by rw [Ue,Ue];exact ⟨by decide,cN⟩
 | m+1,v,d=>by
  obtain ⟨b,c⟩:=Z2x hn hle m (v+1) (by omega)
  have a:=Zpf (T.getD v []) (C v) (hn v (by omega))
  rw [Ue,Ue]
  exact ⟨bS a b,Zro a (hle v (by omega)) b c⟩
section
variable {N:Nat} {n:Zq} (hf:X7 N n) {T:List (List QV)} (h:Zaq n T)
include hf h
theorem Z2y {p:Nat×List Int} (hw:X9 n p.2) (L:List R8):∀ m v,v+m≤n.2.1.length→Ue T (fun v=>Wr n v (L++[p])) m v=Ue T (fun v=>Wr n v L) m v * Zx (Z2 (Xz n T) p.2 m v) p.1
 | 0,v,_=>by rw [Ue,Ue,Z2,Zly,bQ]
 | m+1,v,i=>by
  have d:(p.2.getD v 0).toNat<cnt n v:=by
   have:=hw.ok v (by rw [hw.len];omega)
   omega
  have hp:=Zje hf (v:=v) (by omega) hw
  have f:=h.sz v (by omega)
  have e:ent (Xz n T) p.2 v=Zr ((T.getD v []).getD (Y4 n v p.2) ((false,[]),[])):=Zz9 (T:=T) d
  have c:Y4 n v p.2<(T.getD v []).length:=by rw [f];exact hp
  have b:Y4 n v p.2<(Wr n v L).length:=by rw [Zg1];exact hp
  have g:=Zj2 n v L _ (aH b)
  rw [Ue,Ue,Z2,Z2y hw L m (v+1) (by omega),Zve,Tj,Xn b,Z2b _ _ _ _ _ _ (aL (l:=T.getD v []) c) (aL b) g,e,Xn c,Zag]
  generalize Wd (T.getD v []) (Wr n v L)=A
  generalize Ue T (fun v=>Wr n v L) m (v+1)=B
  generalize Zx (Z2 (Xz n T) p.2 m (v+1)) p.1=C
  generalize Zx (Zr (T.getD v [])[Y4 n v p.2]) p.1=D
  grind
omit hf h in
theorem Z2z:∀ m v,Ue T (fun v=>Wr n v []) m v=1
 | 0,v=>rfl
 | m+1,v=>by
  rw [Ue,Z2z m (v+1),bQ]
  exact Zpe _ _ fun x b=>by rw [Wr,List.foldl_nil] at b;rw [eJ b];rfl
theorem Z20:∀ (l pre:List R8),(∀ p ∈ l,X9 n p.2)→Ue T (fun v=>Wr n v pre) n.2.1.length 0 * wP (Xz n T) l=Ue T (fun v=>Wr n v (pre++l)) n.2.1.length 0
 | [],pre,_=>by rw [wP,bQ,eG]
 | p :: l,pre,b=>by
  have d:=Z2y hf h (b p aC) pre n.2.1.length 0 (by omega)
  have c:=Z20 l (pre++[p]) fun x e=>b x (aB _ e)
  rw [bO,List.singleton_append,d] at c
  rw [wP,← c,bJ];rfl
theorem Z21 {l:List R8} (hl:∀ p ∈ l,X9 n p.2):wP (Xz n T) l=Ue T (fun v=>Wr n v l) n.2.1.length 0:=by
 have:=Z20 hf h l [] hl
 rwa [Z2z,cX,bN] at this
end
def X6 (n:Zq) (L:List R8):List (List QV):=(List.range n.2.1.length).map fun v=>Vl (cnt n v) (Tl n v) ((n.2.2.2.2.getD v []).map Wy) (W1 0 (Wr n v L))
theorem Zs4 {n:Zq} {L:List R8} {v:Nat} (hv:v<n.2.1.length):(X6 n L).getD v []=Vl (cnt n v) (Tl n v) ((n.2.2.2.2.getD v []).map Wy) (W1 0 (Wr n v L)):=by
 rw [Xn (by rw [X6,aN,List.length_range];exact hv)]
 simp only [X6,cZ,List.getElem_range]
theorem Xa0 {N:Nat} {n:Zq} (hf:X7 N n) {L:List R8} {T:List (List QV)} (h:Zaq n T) (h0:Zaq n (X6 n L)) (hL:∀ p ∈ L,X9 n p.2):wP (Xz n T) L≤wP (Xz n (X6 n L)) L:=by
 rw [Z21 hf h hL,Z21 hf h0 hL]
 refine (Z2x (s:=n.2.1.length) (fun v b x c=>(h.ent v b x c).1) (fun v b=>?_) n.2.1.length 0 (by omega)).2
 have d:=(hf.rows b).1
 rw [Zs4 b]
 exact Z2c _ _ _ _ (by rw [aN];exact d.symm) ((h.sz v b).trans d.symm) (by rw [Zg1];exact d.symm) (Zj2 n v L) (fun x c=>(h.ent v b x c).1) (h.row v b)
/-! one observation:its assignments -/
def Z6 (n:Zq) (C:List R2):Rat:=Xt (C.map fun x=>Z2 n x n.2.1.length 0)
def aW (D:Nat) (n:Zq) (p:Rat) (x:List Int):Nat:=((D:Rat) * Z2 n x n.2.1.length 0 / p).num.toNat
def Sj (D:Nat) (n:Zq) (C:List R2):List R8:=C.map fun x=>(aW D n (Z6 n C) x,x)
theorem Zgb {n:Nat} (h:n≠0):(n:Rat)≠0:=fun e=>h (by
 have:((n:Nat):Rat)=((0:Nat):Rat):=e
 exact eB.1 this)
theorem natCast_pos {n:Nat} (h:n≠0):(0:Rat)<(n:Rat):=by
 have:((0:Nat):Rat)<((n:Nat):Rat):=jN.2 (by omega)
 exact this
theorem Zof (n:Nat):(0:Rat)≤(n:Rat):=by
 have:((0:Nat):Rat)≤(n:Rat):=eP.2 (bK _)
 exact this
theorem Q1 {a b:Rat} (h:b≠0):a / b * b=a:=by rw [bT,bJ,fH _ h,bQ]
section
variable {D:Nat} {p:Rat} (hp:0<p) (a:List Int→Nat)
variable (P P':List Int→Rat)
theorem Zqq:∀ C:List R2,(∀ x ∈ C,(a x:Rat) * p=(D:Rat) * P x)→((Wi (C.map fun x=>(a x,P' x / P x)):Nat):Rat) * p=(D:Rat) * Xt (C.map P)
 | [],_=>by rw [bW,Wi,bW,Xt,eO];exact cT p
 | x :: C,h=>by
  rw [aS,Wi,aS,Xt,gO,gX,Zqq C fun y b=>h y (aB _ b),h x aC,Rat.mul_add]
theorem Zvz:∀ C:List R2,(∀ x ∈ C,(a x:Rat) * p=(D:Rat) * P x)→(∀ x ∈ C,0≤P' x)→Tb (C.map fun x=>(a x,P' x / P x)) * p≤(D:Rat) * Xt (C.map P')
 | [],_,_=>by rw [bW,Tb,bW,Xt,eO,cT];exact cN
 | x :: C,h,c=>by
  have i:=Zvz C (fun y b=>h y (aB _ b)) fun y b=>c y (aB _ b)
  have g:=h x aC
  have d:=c x aC
  have f:=Zof D
  have j:(a x:Rat) * (P' x / P x) * p≤(D:Rat) * P' x:=by
   have e:(a x:Rat) * (P' x / P x) * p=(D:Rat) * (P' x / P x * P x):=by
    have:(a x:Rat) * (P' x / P x) * p=(a x:Rat) * p * (P' x / P x):=by grind
    rw [this,g];grind
   rw [e]
   by_cases hz:P x=0
   ·rw [hz,eO,eO];exact bS f d
   ·rw [Q1 hz];exact cN
  rw [aS,Tb,aS,Xt,gX,Rat.mul_add]
  grind
include hp in
theorem Zvx {x:List Int} (h:(a x:Rat) * p=(D:Rat) * P x) (hz:P x=0):a x=0:=by
 rw [hz,eO] at h
 rcases kT.1 h with h | h
 ·exact eB.1 h
 ·rw [h] at hp;exact absurd hp dY
end
section
variable {n n':Zq} {D:Nat} (hD:D≠0)
include hD
theorem Xag {C:List R2} (hp:0<Z6 n C) (hI:∀ x ∈ C,∃ z:Nat,(D:Rat) * Z2 n x n.2.1.length 0 / Z6 n C=(z:Rat)) (h0:∀ x ∈ C,0≤Z2 n' x n'.2.1.length 0):
  wP n' (Sj D n C) * Zx (Z6 n C) D≤Zx (Z6 n' C) D * wP n (Sj D n C):=by
 have g:Z6 n C≠0:=fun e=>by rw [e] at hp;exact absurd hp dY
 have f:∀ x ∈ C,(aW D n (Z6 n C) x:Rat) * Z6 n C=(D:Rat) * Z2 n x n.2.1.length 0:=fun x b=>by
  obtain ⟨z,i⟩:=hI x b
  have:aW D n (Z6 n C) x=z:=by rw [aW,i];simp
  rw [this,← i,Q1 g]
 obtain ⟨p,j⟩:∃ p,p=Z6 n C:=⟨_,rfl⟩
 rw [← j] at hp f g
 have s:=Zqq (aW D n p) (fun x=>Z2 n x n.2.1.length 0) (fun x=>Z2 n' x n'.2.1.length 0) C f
 have F:=Zvz (aW D n p) (fun x=>Z2 n x n.2.1.length 0) (fun x=>Z2 n' x n'.2.1.length 0) C f h0
 have K:Xt (C.map fun x=>Z2 n x n.2.1.length 0)=p:=j.symm
 rw [K] at s
 have L:Wi (C.map fun x=>(aW D n p x,Z2 n' x n'.2.1.length 0 / Z2 n x n.2.1.length 0))=D:=by
  have c:=congrArg (· * p⁻¹) s
  simp only [bJ,cM _ g,bQ] at c
  exact eB.1 c
 have M:∀ q ∈ C.map fun x=>(aW D n p x,Z2 n' x n'.2.1.length 0 / Z2 n x n.2.1.length 0),0≤q.2∨q.1=0:=fun q r=>by
  obtain ⟨x,b,rfl⟩:=cA.1 r
  by_cases H:0≤Z2 n x n.2.1.length 0
  ·exact .inl (by rw [bT];exact bS (h0 x b) (Zq1 H))
  ·exfalso
   have c:=f x b
   have d:=bS (Zof (aW D n p x)) (fM hp)
   rw [c] at d
   have m:(D:Rat) * Z2 n x n.2.1.length 0<0:=by
    have o:=natCast_pos hD
    have O:0<(D:Rat) * (-Z2 n x n.2.1.length 0):=gG o (by grind)
    grind
   exact absurd d (iD.2 m)
 have t:∀ q ∈ C.map fun x=>(aW D n p x,Z2 n' x n'.2.1.length 0 / Z2 n x n.2.1.length 0),0≤q.2:=fun q r=>by
  obtain ⟨x,b,rfl⟩:=cA.1 r
  rcases M _ r with h | h
  ·exact h
  ·have c:=f x b
   rw [show aW D n p x=0 from h] at c
   have d:Z2 n x n.2.1.length 0=0:=by
    have m:(D:Rat) * Z2 n x n.2.1.length 0=0:=by rw [← c];exact cT p
    rcases kT.1 m with o | o
    ·exact absurd o (Zgb hD)
    ·exact o
   show 0≤Z2 n' x n'.2.1.length 0 / Z2 n x n.2.1.length 0
   rw [d,bT,lR,eO];exact cN
 have I:=Ztz _ t
 rw [L] at I
 -- the sum of the weighted shares
 have Q:0≤Tb (C.map fun x=>(aW D n p x,Z2 n' x n'.2.1.length 0 / Z2 n x n.2.1.length 0)):=by
  have:∀ l:List (Nat×Rat),(∀ q ∈ l,0≤q.2)→0≤Tb l:=fun l=>by
   induction l with
   | nil=>intro _;rw [Tb];exact cN
   | cons q l v=>intro h;rw [Tb];exact iU (bS (Zof _) (h q aC)) (v fun y w=>h y (aB _ w))
  exact this _ t
 have R:Xt (C.map fun x=>Z2 n' x n'.2.1.length 0)=Z6 n' C:=rfl
 rw [R] at F
 -- powers
 have S:Zx (Tb (C.map fun x=>(aW D n p x,Z2 n' x n'.2.1.length 0 / Z2 n x n.2.1.length 0))) D * Zx p D≤Zx (D:Rat) D * Zx (Z6 n' C) D:=by
  rw [← Zag,← Zag]
  exact Zr4 (bS Q (fM hp)) F D
 have U:=cB I (Qs (fM hp) D)
 have k3:=eI U S
 have V:=Zlz (natCast_pos hD) D
 have W:W9 (C.map fun x=>(aW D n p x,Z2 n' x n'.2.1.length 0 / Z2 n x n.2.1.length 0)) * Zx p D≤Zx (Z6 n' C) D:=by
  refine iV ?_ V
  generalize W9 (C.map fun x=>(aW D n p x,Z2 n' x n'.2.1.length 0 / Z2 n x n.2.1.length 0))=A at *
  generalize Zx (D:Rat) D=B at *
  generalize Zx p D=E at *
  generalize Zx (Z6 n' C) D=G at *
  grind
 -- back to the products
 have split:∀ l:List R2,(∀ x ∈ l,x ∈ C)→wP n' (l.map fun x=>(aW D n p x,x))=W9 (l.map fun x=>(aW D n p x,Z2 n' x n'.2.1.length 0 / Z2 n x n.2.1.length 0)) * wP n (l.map fun x=>(aW D n p x,x))∧0≤wP n (l.map fun x=>(aW D n p x,x)):=fun l=>by
  induction l with
  | nil=>intro _;rw [bW,bW,wP,W9,wP,bQ];exact ⟨rfl,by decide⟩
  | cons x l v=>
   intro J
   obtain ⟨X,Y⟩:=v fun y w=>J y (aB _ w)
   have b:=J x aC
   have u:=f x b
   have k:Zx (Z2 n' x n'.2.1.length 0) (aW D n p x)=Zx (Z2 n' x n'.2.1.length 0 / Z2 n x n.2.1.length 0) (aW D n p x) * Zx (Z2 n x n.2.1.length 0) (aW D n p x)∧0≤Zx (Z2 n x n.2.1.length 0) (aW D n p x):=by
    by_cases i:Z2 n x n.2.1.length 0=0
    ·have:aW D n p x=0:=Zvx hp (aW D n p) (fun x=>Z2 n x n.2.1.length 0) u i
     rw [this,Zx,Zx,Zx,bQ];exact ⟨rfl,by decide⟩
    ·refine ⟨by rw [← Zag,Q1 i],Qs ?_ _⟩
     refine Classical.byContradiction fun H=>?_
     have d:=bS (Zof (aW D n p x)) (fM hp)
     rw [u] at d
     have O:0<(D:Rat) * (-Z2 n x n.2.1.length 0):=gG (natCast_pos hD) (by grind)
     have m:(D:Rat) * Z2 n x n.2.1.length 0<0:=by grind
     exact absurd d (iD.2 m)
   rw [aS,aS,wP,W9,wP,X]
   refine ⟨?_,bS k.2 Y⟩
   show Zx (Z2 n' x n'.2.1.length 0) (aW D n p x) * _=Zx (Z2 n' x n'.2.1.length 0 / Z2 n x n.2.1.length 0) (aW D n p x) * _ * (Zx (Z2 n x n.2.1.length 0) (aW D n p x) * _)
   rw [k.1]
   generalize Zx (Z2 n' x n'.2.1.length 0 / Z2 n x n.2.1.length 0) (aW D n p x)=A1
   generalize Zx (Z2 n x n.2.1.length 0) (aW D n p x)=A2
   generalize W9 (l.map fun x=>(aW D n p x,Z2 n' x n'.2.1.length 0 / Z2 n x n.2.1.length 0))=A3
   generalize wP n (l.map fun x=>(aW D n p x,x))=A4
   grind
 obtain ⟨Z,f2⟩:=split C fun _ h=>h
 rw [Sj,← j,Z]
 have:=cB W f2
 generalize W9 (C.map fun x=>(aW D n p x,Z2 n' x n'.2.1.length 0 / Z2 n x n.2.1.length 0))=A at *
 generalize wP n (C.map fun x=>(aW D n p x,x))=B at *
 generalize Zx p D=E at *
 generalize Zx (Z6 n' C) D=G at *
 grind
end
def Zdd (N:Nat) (rc:(R0→R2→Int→Option Rd)) (aa:R0) (ab:Int) (ag:List ByteArray):Nat→R2→Int→Bool→R2→R2→Option Rd
  | 0,_,_,_,_,_=>none
  | ak+1,ac,ae,ah,ai,aj=>if (decide (ae<(ag.length:Int)))=true then ((Zl ac ab).bind fun an=>(some (ac.set (aA ab) ae)).bind fun al=>(rc (aa.1,aa.2.1,aa.2.2.1,aa.2.2.2.1,aa.2.2.2.2) al (i64.wrap (ab+1))).bind fun ad=>(Sr N ((ah,ai),aj) ((ad.1.1.1,ad.1.1.2),ad.1.2)).bind fun af=>(Zdd N rc aa ab ag ak) ad.2 (i64.wrap (ae+1)) af.1.1 af.1.2 af.2) else ((Zl ac ab).bind fun ao=>(some (ac.set (aA ab) (-1))).bind fun am=>some (((ah,ai),aj),am))
termination_by structural x=>x
def Zdc (N:Nat) (rc:(R0→R2→Int→Option Rd)) (aa:R0):Nat→R2→Bool→R2→R2→Int→Option Rd
  | 0,_,_,_,_,_=>none
  | af+1,ab,ag,ah,ai,ac=>if (decide (ac<(ab.length:Int)))=true then ((Zl ab ac).bind fun aj=>if (decide (0≤aj))=true then ((Zdc N rc aa af) ab ag ah ai (i64.wrap (ac+1))) else ((Zb2 N ([]:List R1)).bind fun ad=>(Zl aa.2.2.1 ac).bind fun ak=>Zdd N rc aa ac ak N ab 0 ad.1.1 ad.1.2 ad.2)) else ((Su N (aa.1,aa.2.1,aa.2.2.1,aa.2.2.2.1,aa.2.2.2.2) ab).bind fun ae=>some (((ae.1.1.1,ae.1.1.2),ae.1.2),ab))
termination_by structural x=>x
def Zno (N:Nat) (rc:(R0→R2→Int→Option Rd)) (aa:R0) (ab:List Int) (ac:Int):Option Rd:=
  Zdc N rc aa N ab false ([]:List Int) ([]:List Int) ac
theorem Z36 (N:Nat) (rc:(R0→R2→Int→Option Rd)) (IH:∀ (c1:Nat) (c2:Nat) (col:Zd) (w0:World) (qc1:Nat) (hd:U4 [qc1]=true) (ay:Option Addr) (az:Nat) (a0:Option Addr) (a2:Nat) (a3:Option Addr) (a4:Nat) (a5:Option Addr) (a6:Nat) (ab:R0) (a1:Option Addr) (ag:Nat) (ai:List Int) (br:Int) (bs:Sl Za.str col w0 ay az ab.2.1) (bg:Sl (Za.slice Za.str) col w0 a0 a2 ab.2.2.1) (bt:Sl (Za.slice rI) col w0 a3 a4 ab.2.2.2.1) (bu:Sl (Za.slice (Za.pair (Za.pair Za.bool (Za.slice rU)) (Za.slice rU))) col w0 a5 a6 ab.2.2.2.2) (h1:Zb rI 3 qc1 col w0 a1 ag ai) (r:Rd) (hm:rc ab ai br=some r),Calls prog 108 #[(.agg #[.string ab.1,.slice ay ab.2.1.length az,.slice a0 ab.2.2.1.length a2,.slice a3 ab.2.2.2.1.length a4,.slice a5 ab.2.2.2.2.length a6]),.slice a1 ai.length ag,.int .i64 br] w0 (fun e w'=>∃ (col':Zd) (ra1:Option Addr) (rc2:Nat) (ra4:Option Addr) (rc5:Nat),e= .returned ((.agg #[.bool r.1.1.1,.slice ra1 r.1.1.2.length rc2,.slice ra4 r.1.2.length rc5]))∧Zt (pS [qc1]) col w0 col' w'∧Zb rU 95 c1 col' w' ra1 rc2 r.1.1.2∧Zb rU 95 c2 col' w' ra4 rc5 r.1.2∧Zb rI 3 qc1 col' w' a1 ag r.2∧r.2.length=ai.length)) (c1:Nat) (c2:Nat) (col:Zd) (w0:World) (qc1:Nat) (hd:U4 [qc1]=true) (ay:Option Addr) (az:Nat) (a0:Option Addr) (a2:Nat) (a3:Option Addr) (a4:Nat) (a5:Option Addr) (a6:Nat) (ab:R0) (a1:Option Addr) (ag:Nat) (ai:List Int) (br:Int) (bs:Sl Za.str col w0 ay az ab.2.1) (bg:Sl (Za.slice Za.str) col w0 a0 a2 ab.2.2.1) (bt:Sl (Za.slice rI) col w0 a3 a4 ab.2.2.2.1) (bu:Sl (Za.slice (Za.pair (Za.pair Za.bool (Za.slice rU)) (Za.slice rU))) col w0 a5 a6 ab.2.2.2.2) (h1:Zb rI 3 qc1 col w0 a1 ag ai) (r:Rd) (hm:Zno N rc ab ai br=some r):
    Calls prog 108 #[(.agg #[.string ab.1,.slice ay ab.2.1.length az,.slice a0 ab.2.2.1.length a2,.slice a3 ab.2.2.2.1.length a4,.slice a5 ab.2.2.2.2.length a6]),.slice a1 ai.length ag,.int .i64 br] w0 (fun e w'=>∃ (col':Zd) (ra1:Option Addr) (rc2:Nat) (ra4:Option Addr) (rc5:Nat),e= .returned ((.agg #[.bool r.1.1.1,.slice ra1 r.1.1.2.length rc2,.slice ra4 r.1.2.length rc5]))∧Zt (pS [qc1]) col w0 col' w'∧Zb rU 95 c1 col' w' ra1 rc2 r.1.1.2∧Zb rU 95 c2 col' w' ra4 rc5 r.1.2∧Zb rI 3 qc1 col' w' a1 ag r.2∧r.2.length=ai.length):=by
 refine Y5 (m:=57) func108 rfl rfl rfl ?_;rw [Zno.eq_1] at hm;have aa:=St.startL (l:=[qc1]) rfl col w0;replace bs:=bs.keep (Xw.startL [qc1] col w0);replace bg:=bg.keep (Xw.startL [qc1] col w0);replace bt:=bt.keep (Xw.startL [qc1] col w0);replace bu:=bu.keep (Xw.startL [qc1] col w0);replace h1:=h1.startL (T7 hd 0 rfl) (T6 hd 0 rfl);refine go ?_;refine Xi (col:=(Xh [qc1] col)) 1 rfl ?_;intro c3 ed dg c4 ac;refine Xk (col:=dg) #[.bool false,(nI),(nI)] 2 zeroValue39 ?_;intro c5 ee ef cl ad;refine go ?_;replace aa:=(aa.grow c4).grow cl;replace ac:=ac.gr cl;refine Zv [3,6,1000000] (fun n f a9=>∃ al bj b9 bv bw bk bx bz bm aq bn,bn=n∧Zdc N rc ab bn bj b9 bk bm aq=some r∧St w0 (Xh [qc1] col) al a9∧Zb rI 3 440 al a9 a1 ag bj∧bj.length=ai.length∧Zg 27 1 al a9 c3 #[.string ab.1,.slice ay ab.2.1.length az,.slice a0 ab.2.2.1.length a2,.slice a3 ab.2.2.2.1.length a4,.slice a5 ab.2.2.2.2.length a6]∧Zb rU 95 3 al a9 bv bw bk∧Zb rU 95 4 al a9 bx bz bm∧Zg 39 2 al a9 c5 #[.bool b9,.slice bv bk.length bw,.slice bx bm.length bz]∧bj.length=ai.length∧[1,7].map f=[.slice a1 bj.length ag,.int .i64 aq]) N ⟨_,_,_,none,0,_,none,0,_,_,_,rfl,hm,aa,(h1.gr c4).gr cl,rfl,ac,Zb.nil,Zb.nil,ad,rfl,rfl⟩ ?_;clear hm;intro n f a9 hI;obtain ⟨al,bj,b9,bv,bw,bk,bx,bz,bm,aq,bn,hn,hm,aa,ar,c6,ac,ae,af,ad,cn,hs⟩:=hI;subst hn;refine .lL [1,7] hs ?_
 cases bn with
 | zero=>rw [Zdc.eq_1] at hm;cases hm
 | succ bn=>
  rw [Zdc.eq_2] at hm;refine go ?_;refine Zo hm (fun hb hm=>go ?_) fun hb hm=>go ?_
  ·obtain ⟨eg,co,hm⟩:=bZ hm;refine lI co (ar.addr co)<|lW (ar.atInt co) ?_;refine go ?_;refine Zo hm (fun hb hm=>go ?_) fun hb hm=>go ?_
   ·exact ⟨bn,by omega,rfl,⟨_,_,_,_,_,_,_,_,_,_,_,rfl,hm,aa,ar,c6,ac,ae,af,ad,cn,rfl⟩⟩
   obtain ⟨eh,dh,hm⟩:=bZ hm;refine Zi (Zms (col:=al) 5 6 dh Sl.nil) ?_;rintro _ ei ⟨di,ej,ek,el,em,rfl,bo,cp,cq⟩;refine ⟨_,rfl,?_⟩;refine Xk (col:=di) #[.bool false,(nI),(nI)] 7 zeroValue39 ?_;intro dj en eo ba dl;refine Zy dl ?_;intro ep bb dm ah;refine go ?_;refine Yx ⟨_,_,rfl⟩ ?_;replace ac:=((ac.gr bo).gr ba).kp bb;refine lW ((ac.atN).nth (q:=2) rfl)<|X4 rfl ?_;obtain ⟨dn,cr,hm⟩:=bZ hm;replace aa:=((aa.grow bo).grow ba).kp bb dm;refine lI cr ((bg.ks aa).addr cr) ?_;obtain ⟨_,dp,dq⟩:=(bg.ks aa).atN cr;obtain ⟨⟨eq,er,rfl,es⟩,_⟩:=dp;refine lW dq.one<|go ?_;replace ar:=((ar.gr bo).gr ba).kp bb;replace ae:=((ae.gr bo).gr ba).kp bb;replace af:=((af.gr bo).gr ba).kp bb;replace ad:=((ad.gr bo).gr ba).kp bb;refine Zv [3,30,6,7,8,1000000] (fun n f au=>∃ aj am b0 ca cb cc b1 cd ce b2 bp,bp=n∧Zdd N rc ab aq dn bp am b0 ca b1 b2=some r∧St w0 (Xh [qc1] col) aj au∧Zb rI 3 440 aj au a1 ag am∧am.length=ai.length∧Zg 27 1 aj au c3 #[.string ab.1,.slice ay ab.2.1.length az,.slice a0 ab.2.2.1.length a2,.slice a3 ab.2.2.2.1.length a4,.slice a5 ab.2.2.2.2.length a6]∧Zb rU 95 3 aj au bv bw bk∧Zb rU 95 4 aj au bx bz bm∧Zg 39 2 aj au c5 #[.bool b9,.slice bv bk.length bw,.slice bx bm.length bz]∧Zb rU 95 5 aj au cb cc b1∧Zb rU 95 6 aj au cd ce b2∧Zg 39 7 aj au dj #[.bool ca,.slice cb b1.length cc,.slice cd b2.length ce]∧am.length=ai.length∧[1,31].map f=[.slice a1 am.length ag,.int .i64 b0]) N ⟨_,_,0,_,_,_,_,_,_,_,_,rfl,hm,aa,ar,c6,ac,ae,af,ad,(cp.gr ba).kp bb,(cq.gr ba).kp bb,ah,cn,rfl⟩ ?_;clear hm;intro n f au hI;obtain ⟨aj,am,b0,ca,cb,cc,b1,cd,ce,b2,bp,hn,hm,aa,cf,dr,ac,ae,af,ad,av,aw,ah,ds,hs⟩:=hI;subst hn;refine .lL [1,31] hs ?_
   cases bp with
   | zero=>rw [Zdd.eq_1] at hm;cases hm
   | succ bp=>
    rw [Zdd.eq_2] at hm;refine go ?_;refine Zo hm (fun hb hm=>go ?_) fun hb hm=>go ?_
    ·obtain ⟨et,cs,hm⟩:=bZ hm;refine lI cs (cf.addr cs) ?_;obtain ⟨a7,b3,hm⟩:=bZ hm;have b3:a7=am.set (aA aq) b0:=(Option.some.inj b3).symm;refine Wl (x1:=b0) cf cs ?_;intro dt bc du cg;rw [← b3] at cg;have dv:a7.length=ai.length:=(show am.length=a7.length by rw [b3,nS]).symm.trans dr;refine .ld (d:=1) (v:=(.slice a1 a7.length ag)) (congrArg (fun n=>Value.slice a1 n ag) (show am.length=a7.length by rw [b3,nS])) ?_;refine Zk<|Z22 (col:=aj) (pS [440]) [(0,5),(1,0),(2,1),(3,1),(4,1),(5,4),(6,3),(7,2)] (by kernel_rfl) (by kernel_rfl) ?_;replace ah:=ah.kp bc;refine xsD (v:=(.agg #[.bool ca,.slice cb b1.length cc,.slice cd b2.length ce])) rfl rfl (fun _ hC=>Y9 isAgg39 sizeOf39 rfl rfl (ah.dk hC rfl rfl).atN) ?_;replace ac:=ac.kp bc;refine xvD (v:=(.agg #[.string ab.1,.slice ay ab.2.1.length az,.slice a0 ab.2.2.1.length a2,.slice a3 ab.2.2.2.1.length a4,.slice a5 ab.2.2.2.2.length a6])) rfl rfl (fun _ hC=>Y9 isAgg27 sizeOf27 rfl rfl (ac.atN.gr (hC.bl aj))) ?_;refine Zpo (v:=(.slice a1 a7.length ag)) rfl rfl (fun _=>U9 rfl) ?_;refine Zpo (v:=(.int .i64 aq)) rfl rfl (fun _=>U9 rfl) ?_;refine Zpo (v:=(.int .i64 (i64.wrap (aq+1)))) rfl rfl (fun _=>Qt aq 1 rfl rfl) ?_;refine Zgn rfl rfl ?_;intro dw hC0;have hC:=hC0.bl aj;replace ae:=(ae.kp bc).gr hC;replace af:=(af.kp bc).gr hC;replace av:=(av.kp bc).gr hC;replace aw:=(aw.kp bc).gr hC;replace ad:=(ad.kp bc).gr hC;replace aa:=(aa.kp bc du).grow hC;replace ac:=ac.gr hC;replace ah:=ah.gr hC;have ct:Zt (pS [440]) aj dt aj dw:=hC.toP;obtain ⟨bq,dx,hm⟩:=bZ hm;refine lc rfl rfl (Zzo call108 rfl rfl rfl) (IH 8 9 aj _ 440 rfl ay az a0 a2 a3 a4 a5 a6 (ab.1,ab.2.1,ab.2.2.1,ab.2.2.2.1,ab.2.2.2.2) a1 ag a7 (i64.wrap (aq+1)) (bs.ks aa) (bg.ks aa) (bt.ks aa) (bu.ks aa) (cg.gr hC) bq dx) ?_;rintro _ cu ⟨ax,eu,ew,ey,ez,rfl,a8,cv,cw,an,cx⟩;refine ⟨_,rfl,?_⟩;replace ae:=ae.kpp a8;replace af:=af.kpp a8;replace av:=av.kpp a8;replace aw:=aw.kpp a8;replace ac:=ac.kpp a8;replace ad:=ad.kpp a8;replace ah:=ah.kpp a8;replace ct:=ct.trans (a8.mono (by first | exact pS_p2 rfl | exact pS_p1 rfl | exact Zyu rfl));have c7:bq.2.length=ai.length:=cx.trans dv
     refine .ld (d:=1) (v:=(.slice a1 bq.2.length ag)) (congrArg (fun n=>Value.slice a1 n ag) (show a7.length=bq.2.length from cx.symm)) ?_;refine .ld (d:=40) (v:=(.slice a1 bq.2.length ag)) (congrArg (fun n=>Value.slice a1 n ag) (show a7.length=bq.2.length from cx.symm)) ?_;refine Zk ?_;refine ⟨fun w'=>Zf ax cu ax w',fun w'=>∃ c',Zt (pS [440]) ax cu c' w',Zf.refl _ _,fun _ h=>⟨_,h.toP⟩,fun h=>absurd h (by decide),fun _ _ ⟨c9,h⟩=>⟨c9,ct.trans h⟩,?_⟩;refine Zgn rfl rfl ?_;intro c8 hC0;have hC:=hC0.bl ax;replace aa:=(aa.kpp a8).grow hC;replace an:=an.gr hC;replace ae:=ae.gr hC;replace af:=af.gr hC;replace av:=av.gr hC;replace aw:=aw.gr hC;replace ac:=ac.gr hC;replace ad:=ad.gr hC;replace ah:=ah.gr hC;have cy:Zt (pS [440]) ax cu ax c8:=hC.toP;obtain ⟨e0,dy,hm⟩:=bZ hm;refine Zi (Zgw 10 11 dy ((((av.toSlF (Zh.int .u32)).froz 6).froz 8).froz 9) ((((aw.froz 5).toSlF (Zh.int .u32)).froz 8).froz 9) (((((cv.gr hC).froz 5).froz 6).toSlF (Zh.int .u32)).froz 9) (((((cw.gr hC).froz 5).froz 6).froz 8).toSlF (Zh.int .u32))) ?_;rintro _ da ⟨dz,e1,e2,e3,e4,rfl,ak,ao,ap⟩;refine ⟨_,rfl,?_⟩;replace ao:=ao.thaw (Z1 .u32) ak (((((Fz.refl (col:=ax)).froz 5).froz 6).froz 8).froz 9) (by decide);replace ap:=ap.thaw (Z1 .u32) ak (((((Fz.refl (col:=ax)).froz 5).froz 6).froz 8).froz 9) (by decide);replace ak:=ak.thawR (col:=ax);generalize Xc c8.heap.size ax dz=bd at *;refine Zk ?_;refine ⟨fun w'=>Zf bd da bd w',fun w'=>∃ c',Zt (pS [440]) bd da c' w',Zf.refl _ _,fun _ h=>⟨_,h.toP⟩,fun _ _ h=>Ur hC0 ak h,fun _ _ ⟨c9,h⟩=>⟨c9,(cy.gr ak).trans h⟩,?_⟩;refine Zgn rfl rfl ?_;intro e5 hC0;have hC:=hC0.bl bd;replace ah:=(ah.gr ak).gr hC;refine Zy ah ?_;intro db be d0 bh;refine Zk ?_;refine ⟨fun w'=>Zf bd db bd w',fun w'=>∃ c',Zt (pS [440]) bd db c' w',Zf.refl _ _,fun _ h=>⟨_,h.toP⟩,fun h=>absurd h (by decide),fun h=>absurd h (by decide),?_⟩;refine Z27 ?_;replace an:=((an.gr ak).gr hC).kp be;replace ae:=((ae.gr ak).gr hC).kp be;replace af:=((af.gr ak).gr hC).kp be;replace ac:=((ac.gr ak).gr hC).kp be;replace ad:=((ad.gr ak).gr hC).kp be;replace aa:=((aa.grow ak).grow hC).kp be d0
     replace ao:=(ao.gr hC).kp be;replace ap:=(ap.gr hC).kp be;intro e6 hC;replace hC:=hC.bl bd;refine go ?_;replace an:=an.gr hC;replace an:=an.recol 10 5;replace ae:=ae.gr hC;replace ae:=ae.recol 10 5;replace af:=af.gr hC;replace af:=af.recol 10 5;replace ao:=ao.gr hC;replace ao:=ao.recolSelf 5 (by decide);replace ap:=ap.gr hC;replace ap:=ap.recol 10 5;replace ac:=ac.gr hC;replace ac:=ac.recol 10 5;replace ad:=ad.gr hC;replace ad:=ad.recol 10 5;replace bh:=bh.gr hC;replace bh:=bh.recol 10 5;replace aa:=aa.grow hC;replace aa:=aa.recol 10 5 (by decide) (by decide);replace ap:=ap.recolSelf 6 (by decide);replace ac:=ac.recol 11 6;replace ad:=ad.recol 11 6;replace aa:=aa.recol 11 6 (by decide) (by decide);exact ⟨bp,by omega,rfl,⟨_,_,_,_,_,_,_,_,_,_,_,rfl,hm,aa,an.recol 11 6,c7,ac,ae.recol 11 6,af.recol 11 6,ad,ao.recol 11 6,ap,bh.recol 11 6,c7,rfl⟩⟩
    obtain ⟨e7,cz,hm⟩:=bZ hm;refine lI cz (cf.addr cz) ?_;obtain ⟨c0,ch,hm⟩:=bZ hm;have ch:c0=am.set (aA aq) (-1):=(Option.some.inj ch).symm;refine Wl (x1:=(-1)) cf cz ?_;intro e8 b4 d1 ci;rw [← ch] at ci;have d2:c0.length=ai.length:=(show am.length=c0.length by rw [ch,nS]).symm.trans ds;refine go ?_;refine lV _ (Z8 isAgg39 sizeOf39 (ah.kp b4)) ?_;replace ad:=ad.kp b4;refine Zy ad ?_;intro e9 cj d3 d4;refine go ?_;cases hm;replace aa:=(aa.kp b4 d1).kp cj d3;exact ⟨rfl,_,ra d4.atN,_,_,_,_,_,rfl,aa.finL rfl (cm [(5,c1),(6,c2),(440,qc1)]),aa.foL ((av.kp b4).kp cj),aa.foL ((aw.kp b4).kp cj),aa.foL (ci.kp cj),d2⟩
  refine lV _ (Z8 isAgg27 sizeOf27 ac)<|Y2 rfl ?_;obtain ⟨bf,d5,hm⟩:=bZ hm;refine Zi (Zuh 12 13 d5 ((bs.ks aa).froz 440) ((bg.ks aa).froz 440) ((bt.ks aa).froz 440) ((bu.ks aa).froz 440) (ar.toSlF (Zh.int .i64))) ?_;rintro _ fa ⟨d6,dc,dd,de,df,rfl,bi,b5,b6⟩;refine ⟨_,rfl,?_⟩;replace b5:=b5.thaw (Z1 .u32) bi ((Fz.refl (col:=al)).froz 440);replace b6:=b6.thaw (Z1 .u32) bi ((Fz.refl (col:=al)).froz 440);replace bi:=bi.thawR (col:=al);generalize Xc a9.heap.size al d6=d7 at *;refine lM (.tuple #[(.agg #[.bool bf.1.1.1,.slice dc bf.1.1.2.length dd,.slice de bf.1.2.length df]),.int .i64 bf.2])<|lV (.agg #[.bool bf.1.1.1,.slice dc bf.1.1.2.length dd,.slice de bf.1.2.length df]) (Xo rfl rfl)<|lV (.int .i64 bf.2) (Xo rfl rfl)<|Xk (col:=d7) #[.bool false,(nI),(nI)] 14 zeroValue39 ?_;intro fb fc fd b7 d8;refine Zy d8 ?_;intro fe b8 d9 ea;refine go ?_;refine lV _ (Z8 isAgg39 sizeOf39 ea) ?_;refine Zy (((ad.gr bi).gr b7).kp b8) ?_;intro ff ck eb ec;refine go ?_;cases hm;replace aa:=(((aa.grow bi).grow b7).kp b8 d9).kp ck eb;exact ⟨rfl,_,ra ec.atN,_,_,_,_,_,rfl,aa.finL rfl (cm [(12,c1),(13,c2),(440,qc1)]),aa.foL (((b5.gr b7).kp b8).kp ck),aa.foL (((b6.gr b7).kp b8).kp ck),aa.foL ((((ar.gr bi).gr b7).kp b8).kp ck),cn⟩
def Za7 (N:Nat):Nat→R0→R2→Int→Option Rd
  | 0,_,_,_=>none
  | n+1,aa,ab,ac=>Zno N (Za7 N n) aa ab ac
theorem Z37 (N:Nat):∀ (n:Nat) (c1:Nat) (c2:Nat) (col:Zd) (w0:World) (qc1:Nat) (hd:U4 [qc1]=true) (ad:Option Addr) (ae:Nat) (af:Option Addr) (ag:Nat) (ah:Option Addr) (ai:Nat) (aj:Option Addr) (ak:Nat) (aa:R0) (a1:Option Addr) (ac:Nat) (ab:List Int) (al:Int) (am:Sl Za.str col w0 ad ae aa.2.1) (an:Sl (Za.slice Za.str) col w0 af ag aa.2.2.1) (ao:Sl (Za.slice rI) col w0 ah ai aa.2.2.2.1) (ap:Sl (Za.slice (Za.pair (Za.pair Za.bool (Za.slice rU)) (Za.slice rU))) col w0 aj ak aa.2.2.2.2) (h1:Zb rI 3 qc1 col w0 a1 ac ab) (r:Rd) (hm:Za7 N n aa ab al=some r),Calls prog 108 #[(.agg #[.string aa.1,.slice ad aa.2.1.length ae,.slice af aa.2.2.1.length ag,.slice ah aa.2.2.2.1.length ai,.slice aj aa.2.2.2.2.length ak]),.slice a1 ab.length ac,.int .i64 al] w0 (fun e w'=>∃ (col':Zd) (ra1:Option Addr) (rc2:Nat) (ra4:Option Addr) (rc5:Nat),e= .returned ((.agg #[.bool r.1.1.1,.slice ra1 r.1.1.2.length rc2,.slice ra4 r.1.2.length rc5]))∧Zt (pS [qc1]) col w0 col' w'∧Zb rU 95 c1 col' w' ra1 rc2 r.1.1.2∧Zb rU 95 c2 col' w' ra4 rc5 r.1.2∧Zb rI 3 qc1 col' w' a1 ac r.2∧r.2.length=ab.length):=by
 intro n;induction n with
 | zero=>intro c1 c2 col w0 qc1 hd ad ae af ag ah ai aj ak aa a1 ac ab al am an ao ap h1 r hm;rw [Za7.eq_1] at hm;cases hm;| succ n ih=>intro c1 c2 col w0 qc1 hd ad ae af ag ah ai aj ak aa a1 ac ab al am an ao ap h1 r hm;rw [Za7.eq_2] at hm;exact Z36 N (Za7 N n) ih c1 c2 col w0 qc1 hd ad ae af ag ah ai aj ak aa a1 ac ab al am an ao ap h1 r hm
def Zki (N:Nat) (aa:R0) (ab:List Int) (ac:Int):Option Rd:=Za7 N N aa ab ac
theorem Z35 (N:Nat) (c1:Nat) (c2:Nat) (col:Zd) (w0:World) (qc1:Nat) (hd:U4 [qc1]=true) (ad:Option Addr) (ae:Nat) (af:Option Addr) (ag:Nat) (ah:Option Addr) (ai:Nat) (aj:Option Addr) (ak:Nat) (aa:R0) (a1:Option Addr) (ac:Nat) (ab:List Int) (al:Int) (am:Sl Za.str col w0 ad ae aa.2.1) (an:Sl (Za.slice Za.str) col w0 af ag aa.2.2.1) (ao:Sl (Za.slice rI) col w0 ah ai aa.2.2.2.1) (ap:Sl (Za.slice (Za.pair (Za.pair Za.bool (Za.slice rU)) (Za.slice rU))) col w0 aj ak aa.2.2.2.2) (h1:Zb rI 3 qc1 col w0 a1 ac ab) (r:Rd) (hm:Zki N aa ab al=some r):
    Calls prog 108 #[(.agg #[.string aa.1,.slice ad aa.2.1.length ae,.slice af aa.2.2.1.length ag,.slice ah aa.2.2.2.1.length ai,.slice aj aa.2.2.2.2.length ak]),.slice a1 ab.length ac,.int .i64 al] w0 (fun e w'=>∃ (col':Zd) (ra1:Option Addr) (rc2:Nat) (ra4:Option Addr) (rc5:Nat),e= .returned ((.agg #[.bool r.1.1.1,.slice ra1 r.1.1.2.length rc2,.slice ra4 r.1.2.length rc5]))∧Zt (pS [qc1]) col w0 col' w'∧Zb rU 95 c1 col' w' ra1 rc2 r.1.1.2∧Zb rU 95 c2 col' w' ra4 rc5 r.1.2∧Zb rI 3 qc1 col' w' a1 ac r.2∧r.2.length=ab.length):=Z37 N N c1 c2 col w0 qc1 hd ad ae af ag ah ai aj ak aa a1 ac ab al am an ao ap h1 r hm
def Zho (aa:Nat) (kk_L1:(Nat→Int→Option Int)) (ab:Int):Option Int:=
  kk_L1 (aa+1) ab
def Za6 (ac:R0):List Int→Nat→Int→Option Int
  | [],ab,aa=>some aa
  | af :: ad,ab,aa=>if (decide (af<0))=true then ((Zl ac.2.2.1 (ab:Int)).bind fun ae=>Zho ab (Za6 ac ad) (if 65537<(i64.wrap (aa * (ae.length:Int))) then 65537 else (i64.wrap (aa * (ae.length:Int))))) else (Zho ab (Za6 ac ad) aa)
termination_by structural x=>x
def Znn (aa:R0) (ab:List Int):Option Int:=
  Za6 aa ab 0 1
theorem Z34 {ah ai aj ak a0:Nat} {al am an ao a1:Option Addr} {col:Zd} {w0:World} {aa:R0} {ac:R2} {r:Int} (hm:Znn aa ac=some r) (a9:Sl Za.str col w0 al ah aa.2.1) (ap:Sl (Za.slice Za.str) col w0 am ai aa.2.2.1) (ba:Sl (Za.slice rI) col w0 an aj aa.2.2.2.1) (bb:Sl (Za.slice (Za.pair (Za.pair Za.bool (Za.slice rU)) (Za.slice rU))) col w0 ao ak aa.2.2.2.2) (h1:Sl rI col w0 a1 a0 ac):
    Calls prog 107 #[(.agg #[.string aa.1,.slice al aa.2.1.length ah,.slice am aa.2.2.1.length ai,.slice an aa.2.2.2.1.length aj,.slice ao aa.2.2.2.2.length ak]),.slice a1 ac.length a0] w0 (fun e w'=>e= .returned ((.int .i64 r))∧Below w0.heap.size w0 w'):=by
 refine Xe 4 (m:=28) func107 rfl rfl rfl rfl rfl ?_;rw [Znn.eq_1] at hm;have ab:=St.start col w0;refine go ?_;refine Xi (col:=(Zj col)) 1 rfl ?_;intro a2 bc bd a4 ad;refine go ?_;replace ab:=ab.grow a4;refine Zv [2,8,9,1000000] (fun n f aq=>∃ ar ae af ag,n=ag.length∧ac.drop ae=ag∧Za6 aa ag ae af=some r∧St w0 (Zj col) ar aq∧Zg 27 1 ar aq a2 #[.string aa.1,.slice al aa.2.1.length ah,.slice am aa.2.2.1.length ai,.slice an aa.2.2.2.1.length aj,.slice ao aa.2.2.2.2.length ak]∧[10,5].map f=[.int .i64 ae,.int .i64 af]) ac.length ⟨_,0,1,_,rfl,rfl,hm,ab,ad,rfl⟩ ?_;clear hm;intro n f aq hI;obtain ⟨ar,ae,af,ag,hn,hl,hm,ab,ad,hs⟩:=hI;subst hn;refine .lL [10,5] hs ?_;replace ap:=ap.k0;replace h1:=h1.k0
 cases ag with
 | nil=>
  have hk:¬ ((ae:Int)<(ac.length:Int)):=by have:=aG.1 hl;omega
  have hkb:=decide_eq_false hk;rw [Za6.eq_1] at hm;refine go ?_;refine X0 (congrArg Value.bool hkb)<|go ?_;cases hm;exact ⟨rfl,rfl,ab.below⟩
 | cons be a3=>
  obtain ⟨au,a5,a6⟩:=Yf hl;have hk:(ae:Int)<(ac.length:Int):=by omega
  have hkb:=decide_eq_true hk;rw [Za6.eq_2] at hm;refine go ?_;refine X1 (congrArg Value.bool hkb)<|Yj<|Zz ?_;refine Wp.cutK [10,2,8,9,1000000] (fun f av=>∃ aw ax,Zho ae (Za6 aa a3) ax=some r∧St w0 (Zj col) aw av∧Zg 27 1 aw av a2 #[.string aa.1,.slice al aa.2.1.length ah,.slice am aa.2.2.1.length ai,.slice an aa.2.2.2.1.length aj,.slice ao aa.2.2.2.2.length ak]∧[5].map f=[.int .i64 ax]) ?_ ?_
  ·intro f av hJ;obtain ⟨aw,ax,hm,ab,ad,hs⟩:=hJ;rw [Zho.eq_1] at hm;refine .lL [5] hs<|go ?_;exact ⟨a3.length,by simp,rfl,⟨_,_,_,_,rfl,a5,hm,ab,ad,(Yl (congrArg (Value.int .i64) (Yi (aE a6 (h1.ks ab).1.1))) rfl)⟩⟩
  refine go ?_;refine lI au ((h1.ks ab).addr au)<|lW ((h1.ks ab).atInt au) ?_;refine go ?_;refine Zo hm (fun hb hm=>go ?_) fun hb hm=>?_
  ·refine Xl ad<|X4 rfl ?_;obtain ⟨ay,az,hm⟩:=bZ hm;refine lI az ((ap.ks ab).addr az) ?_;obtain ⟨_,a7,a8⟩:=(ap.ks ab).atN az;obtain ⟨⟨bf,bg,rfl,bh⟩,_⟩:=a7;refine lW a8.one<|go ?_;refine lV (.int .i64 (if 65537<(i64.wrap (af * (ay.length:Int))) then 65537 else (i64.wrap (af * (ay.length:Int))))) (Zsn (i64.wrap (af * (ay.length:Int))) 65537 rfl rfl)<|go ?_;exact ⟨rfl,_,_,hm,ab,ad,rfl⟩
  refine Yj ?_;exact ⟨rfl,_,_,hm,ab,ad,rfl⟩
def Ze4 (N:Nat) (aa:R0):List R2→Bool→R2→R2→Option (R1×Int)
  | [],ab,ac,ad=>some (((ab,ac),ad),0)
  | ag :: ah,ab,ac,ad=>(Sz ag).bind fun ai=>(Zki N (aa.1,aa.2.1,aa.2.2.1,aa.2.2.2.1,aa.2.2.2.2) ai 0).bind fun ae=>(Q5 N ((ab,ac),ad) ((ae.1.1.1,ae.1.1.2),ae.1.2)).bind fun af=>(Ze4 N aa ah) af.1.1 af.1.2 af.2
termination_by structural x=>x
def Zdb (N:Nat) (aa:R0) (ac:R7):List R2→Bool→R2→R2→Option (R1×Int)
  | [],ad,ae,af=>(Zde N 1 1).bind fun ab=>Ze4 N aa ac ab.1.1.1 ab.1.1.2 ab.1.2
  | ag :: ah,ad,ae,af=>(Znn (aa.1,aa.2.1,aa.2.2.1,aa.2.2.2.1,aa.2.2.2.2) ag).bind fun ai=>if (decide (65536<ai))=true then (some (((false,([]:List Int)),([]:List Int)),4)) else ((Zdb N aa ac ah) ad ae af)
termination_by structural x=>x
def Tx (N:Nat) (aa:R0) (ab:R7):Option (R1×Int):=
  (Zkj N (aa.1,aa.2.1,aa.2.2.1,aa.2.2.2.1,aa.2.2.2.2) ab).bind fun ac=>if (!decide (ac=0))=true then (some (((false,([]:List Int)),([]:List Int)),ac)) else (Zdb N aa ab ab false ([]:List Int) ([]:List Int))
theorem Zmq {N a6 a7 a8 a9 cj:Nat} {ba bb bc bd a1:Option Addr} {col:Zd} {w0:World} {ac:R0} {ai:R7} {r:(R1×Int)} (c1 c2:Nat) (hm:Tx N ac ai=some r) (bg:Sl Za.str col w0 ba a6 ac.2.1) (bh:Sl (Za.slice Za.str) col w0 bb a7 ac.2.2.1) (bi:Sl (Za.slice rI) col w0 bc a8 ac.2.2.2.1) (bj:Sl (Za.slice (Za.pair (Za.pair Za.bool (Za.slice rU)) (Za.slice rU))) col w0 bd a9 ac.2.2.2.2) (h1:Sl (Za.slice rI) col w0 a1 cj ai):
    Calls prog 30 #[(.agg #[.string ac.1,.slice ba ac.2.1.length a6,.slice bb ac.2.2.1.length a7,.slice bc ac.2.2.2.1.length a8,.slice bd ac.2.2.2.2.length a9]),.slice a1 ai.length cj] w0 (fun e w'=>∃ (col':Zd) (ra1:Option Addr) (rc2:Nat) (ra4:Option Addr) (rc5:Nat),e= .returned (.tuple #[(.agg #[.bool r.1.1.1,.slice ra1 r.1.1.2.length rc2,.slice ra4 r.1.2.length rc5]),.int .i64 r.2])∧Zf col w0 col' w'∧Zb rU 95 c1 col' w' ra1 rc2 r.1.1.2∧Zb rU 95 c2 col' w' ra4 rc5 r.1.2):=by
 refine Y5 (m:=50) func30 rfl rfl rfl ?_;rw [Tx.eq_1] at hm;have aa:=St.start col w0;refine go ?_;refine Xi (col:=(Zj col)) 1 rfl ?_;intro ck d8 cx cy ab;refine Xk (col:=cx) #[.bool false,(nI),(nI)] 2 zeroValue39 ?_;intro cl cz cn co ad;refine go ?_;replace ab:=ab.gr co;refine lV _ (Z8 isAgg27 sizeOf27 ab)<|Y2 rfl ?_;obtain ⟨d9,c0,hm⟩:=bZ hm;replace bg:=bg.k0;replace bh:=bh.k0;replace bi:=bi.k0;replace bj:=bj.k0;replace h1:=h1.k0;replace aa:=(aa.grow cy).grow co;refine Zi (Z38 c0 (bg.ks aa) (bh.ks aa) (bi.ks aa) (bj.ks aa) (h1.ks aa)) ?_;rintro _ c3 ⟨rfl,bk⟩;refine ⟨_,rfl,?_⟩;replace bk:Zf cn cz cn c3:=.of_below bk;refine go ?_;replace ab:=ab.gr bk;replace ad:=ad.gr bk;replace aa:=aa.grow bk;refine Zo hm (fun hb hm=>go ?_) fun hb hm=>go ?_
 ·refine lV (.agg #[.bool false,(nI),(nI)]) (Wq (l:=[_,_]) (qs:=[(0,2),(2,1)]) underlying39 zeroValue39 ⟨rfl,sizeOf37,rfl,sizeOf35,trivial⟩ rfl)<|X4 rfl<|Zy ad ?_;intro ea c4 c5 c6;refine go ?_;cases hm;replace aa:=aa.kp c4 c5;exact ⟨rfl,_,V3 c6.atN,_,none,0,none,0,rfl,aa.fin (cm []),Zb.nil,Zb.nil⟩
 refine Zv [1,2,20,21,4,1000000] (fun n f ax=>∃ ar bm bx bn bo be bp bq bf br,n=br.length∧ai.drop bm=br∧Zdb N ac ai br bx be bf=some r∧St w0 (Zj col) ar ax∧Zg 27 1 ar ax ck #[.string ac.1,.slice ba ac.2.1.length a6,.slice bb ac.2.2.1.length a7,.slice bc ac.2.2.2.1.length a8,.slice bd ac.2.2.2.2.length a9]∧Zb rU 95 3 ar ax bn bo be∧Zb rU 95 4 ar ax bp bq bf∧Zg 39 2 ar ax cl #[.bool bx,.slice bn be.length bo,.slice bp bf.length bq]∧[22].map f=[.int .i64 bm]) ai.length ⟨_,0,_,none,0,_,none,0,_,_,rfl,rfl,hm,aa,ab,Zb.nil,Zb.nil,ad,rfl⟩ ?_;clear hm;intro n f ax hI;obtain ⟨ar,bm,bx,bn,bo,be,bp,bq,bf,br,hn,hl,hm,aa,ab,ae,af,ad,hs⟩:=hI;subst hn;refine .lL [22] hs ?_
 cases br with
 | nil=>
  have hk:¬ ((bm:Int)<(ai.length:Int)):=by have:=aG.1 hl;omega
  have hkb:=decide_eq_false hk;rw [Zdb.eq_1] at hm;refine go ?_;refine X0 (congrArg Value.bool hkb)<|go ?_;obtain ⟨av,c7,hm⟩:=bZ hm;refine Zi (Zp4 (col:=ar) 5 6 c7) ?_;rintro _ eb ⟨c8,cp,cq,cr,cs,rfl,bs,b4,b5⟩;refine ⟨_,rfl,?_⟩;refine lM (.tuple #[(.agg #[.bool av.1.1.1,.slice cp av.1.1.2.length cq,.slice cr av.1.2.length cs]),.int .i64 av.2])<|lV (.agg #[.bool av.1.1.1,.slice cp av.1.1.2.length cq,.slice cr av.1.2.length cs]) (Xo rfl rfl)<|lV (.int .i64 av.2) (Xo rfl rfl)<|Xk (col:=c8) #[.bool false,(nI),(nI)] 7 zeroValue39 ?_;intro da ec ed ay db;refine Zy db ?_;intro ee az dc ag;refine go ?_;replace ae:=((ae.gr bs).gr ay).kp az;replace af:=((af.gr bs).gr ay).kp az;replace ab:=((ab.gr bs).gr ay).kp az;replace ad:=((ad.gr bs).gr ay).kp az;replace aa:=((aa.grow bs).grow ay).kp az dc;refine Zv [2,36,37,4,9,1000000] (fun n f ao=>∃ ah bt bz b0 b1 bu b2 b3 bv bw,n=bw.length∧ai.drop bt=bw∧Ze4 N ac bw bz bu bv=some r∧St w0 (Zj col) ah ao∧Zg 27 1 ah ao ck #[.string ac.1,.slice ba ac.2.1.length a6,.slice bb ac.2.2.1.length a7,.slice bc ac.2.2.2.1.length a8,.slice bd ac.2.2.2.2.length a9]∧Zb rU 95 3 ah ao bn bo be∧Zb rU 95 4 ah ao bp bq bf∧Zg 39 2 ah ao cl #[.bool bx,.slice bn be.length bo,.slice bp bf.length bq]∧Zb rU 95 5 ah ao b0 b1 bu∧Zb rU 95 6 ah ao b2 b3 bv∧Zg 39 7 ah ao da #[.bool bz,.slice b0 bu.length b1,.slice b2 bv.length b3]∧[38].map f=[.int .i64 bt]) ai.length ⟨_,0,_,_,_,_,_,_,_,_,rfl,rfl,hm,aa,ab,ae,af,ad,(b4.gr ay).kp az,(b5.gr ay).kp az,ag,rfl⟩ ?_;clear hm;intro n f ao hI;obtain ⟨ah,bt,bz,b0,b1,bu,b2,b3,bv,bw,hn,hl,hm,aa,ab,ae,af,ad,aj,ak,ag,hs⟩:=hI;subst hn;refine .lL [38] hs ?_
  cases bw with
  | nil=>
   have hk:¬ ((bt:Int)<(ai.length:Int)):=by have:=aG.1 hl;omega
   have hkb:=decide_eq_false hk;rw [Ze4.eq_1] at hm;refine go ?_;refine X0 (congrArg Value.bool hkb)<|go ?_;refine lV _ (Z8 isAgg39 sizeOf39 ag)<|Zy ad ?_;intro ef b6 dd de;refine go ?_;cases hm;replace aj:=aj.kp b6;replace ak:=ak.kp b6;replace aa:=aa.kp b6 dd;exact ⟨rfl,_,V3 de.atN,_,_,_,_,_,rfl,aa.fin (cm [(5,c1),(6,c2)]),aa.fo aj,aa.fo ak⟩
  | cons df dg=>
   obtain ⟨a0,dh,di⟩:=Yf hl;have hk:(bt:Int)<(ai.length:Int):=by omega
   have hkb:=decide_eq_true hk;rw [Ze4.eq_2] at hm;refine go ?_;refine X1 (congrArg Value.bool hkb)<|go ?_;refine lI a0 ((h1.ks aa).addr a0) ?_;obtain ⟨_,dj,dl⟩:=(h1.ks aa).atN a0;obtain ⟨⟨dm,dn,rfl,b7⟩,_⟩:=dj;refine lW dl.one<|go ?_;refine Z22 (col:=ah) (pS [8]) [(0,5),(1,0),(2,1),(3,3),(4,4),(5,3),(6,2)] (by kernel_rfl) (by kernel_rfl)<|xsD (v:=(.agg #[.bool bz,.slice b0 bu.length b1,.slice b2 bv.length b3])) rfl rfl (fun _ hC=>Y9 isAgg39 sizeOf39 rfl rfl (ag.dk hC rfl rfl).atN) ?_;refine xvD (v:=(.agg #[.string ac.1,.slice ba ac.2.1.length a6,.slice bb ac.2.2.1.length a7,.slice bc ac.2.2.2.1.length a8,.slice bd ac.2.2.2.2.length a9])) rfl rfl (fun _ hC=>Y9 isAgg27 sizeOf27 rfl rfl (ab.atN.gr (hC.bl ah))) ?_;refine Zpo (v:=(.slice dm df.length dn)) rfl rfl (fun _=>U9 rfl) ?_;refine Zgn rfl rfl ?_;intro dp hC0;have hC:=hC0.bl ah;replace ae:=ae.gr hC;replace af:=af.gr hC;replace aj:=aj.gr hC;replace ak:=ak.gr hC;replace ab:=ab.gr hC;replace ad:=ad.gr hC;replace ag:=ag.gr hC;replace aa:=aa.grow hC;have b8:Zt (pS [8]) ah ao ah dp:=hC.toP;obtain ⟨ct,dq,hm⟩:=bZ hm;refine Zi (Zgz 8 dq (b7.gr hC)) ?_;rintro _ b9 ⟨a2,ca,cb,rfl,ap,cc⟩;refine ⟨_,rfl,?_⟩;refine Zk ?_;refine ⟨fun w'=>Zf a2 b9 a2 w',fun w'=>∃ c',Zt (pS [8]) a2 b9 c' w',Zf.refl _ _,fun _ h=>⟨_,h.toP⟩,fun _ _ h=>Ur hC0 ap h,fun _ _ ⟨c9,h⟩=>⟨c9,(b8.gr ap).trans h⟩,?_⟩;refine Zgn rfl rfl ?_;intro dr hC0;have hC:=hC0.bl a2;replace ae:=(ae.gr ap).gr hC;replace af:=(af.gr ap).gr hC;replace aj:=(aj.gr ap).gr hC;replace ak:=(ak.gr ap).gr hC;replace ab:=(ab.gr ap).gr hC;replace ad:=(ad.gr ap).gr hC;replace ag:=(ag.gr ap).gr hC;replace aa:=(aa.grow ap).grow hC;have cd:Zt (pS [8]) a2 b9 a2 dr:=hC.toP;obtain ⟨ce,ds,hm⟩:=bZ hm;refine Zi (Z35 N 9 10 a2 _ 8 rfl ba a6 bb a7 bc a8 bd a9 (ac.1,ac.2.1,ac.2.2.1,ac.2.2.2.1,ac.2.2.2.2) ca cb ct 0 (bg.ks aa) (bh.ks aa) (bi.ks aa) (bj.ks aa) (cc.gr hC) ce ds) ?_;rintro _ cf ⟨aq,eg,eh,ei,ej,rfl,au,cg,ch,ek,dt⟩;refine ⟨_,rfl,?_⟩;replace ae:=ae.kpp au;replace af:=af.kpp au;replace aj:=aj.kpp au;replace ak:=ak.kpp au;replace ab:=ab.kpp au;replace ad:=ad.kpp au;replace ag:=ag.kpp au
   replace cd:=cd.trans (au.mono (by first | exact pS_p2 rfl | exact pS_p1 rfl | exact Zyu rfl));refine .ld (d:=45) (v:=(.slice ca ce.2.length cb)) (congrArg (fun n=>Value.slice ca n cb) (show ct.length=ce.2.length from dt.symm)) ?_;refine Zk ?_;refine ⟨fun w'=>Zf aq cf aq w',fun w'=>∃ c',Zt (pS [8]) aq cf c' w',Zf.refl _ _,fun _ h=>⟨_,h.toP⟩,fun h=>absurd h (by decide),fun _ _ ⟨c9,h⟩=>⟨c9,cd.trans h⟩,?_⟩;refine Zgn rfl rfl ?_;intro cu hC0;have hC:=hC0.bl aq;replace aa:=(aa.kpp au).grow hC;replace ae:=ae.gr hC;replace af:=af.gr hC;replace ab:=ab.gr hC;replace ad:=ad.gr hC;replace ag:=ag.gr hC;have ci:Zt (pS [8]) aq cf aq cu:=hC.toP;obtain ⟨el,du,hm⟩:=bZ hm;refine Zi (Zp3 11 12 du (((((aj.gr hC).toSlF (Zh.int .u32)).froz 6).froz 9).froz 10) (((((ak.gr hC).froz 5).toSlF (Zh.int .u32)).froz 9).froz 10) (((((cg.gr hC).froz 5).froz 6).toSlF (Zh.int .u32)).froz 10) (((((ch.gr hC).froz 5).froz 6).froz 9).toSlF (Zh.int .u32))) ?_;rintro _ cv ⟨dv,em,en,eo,ep,rfl,al,am,an⟩;refine ⟨_,rfl,?_⟩;replace am:=am.thaw (Z1 .u32) al (((((Fz.refl (col:=aq)).froz 5).froz 6).froz 9).froz 10) (by decide);replace an:=an.thaw (Z1 .u32) al (((((Fz.refl (col:=aq)).froz 5).froz 6).froz 9).froz 10) (by decide);replace al:=al.thawR (col:=aq);generalize Xc cu.heap.size aq dv=aw at *;refine Zk ?_;refine ⟨fun w'=>Zf aw cv aw w',fun w'=>∃ c',Zt (pS [8]) aw cv c' w',Zf.refl _ _,fun _ h=>⟨_,h.toP⟩,fun _ _ h=>Ur hC0 al h,fun _ _ ⟨c9,h⟩=>⟨c9,(ci.gr al).trans h⟩,?_⟩;refine Zgn rfl rfl ?_;intro eq hC0;have hC:=hC0.bl aw;refine Zy ((ag.gr al).gr hC) ?_;intro cw a3 dw a4;refine Zk ?_;refine ⟨fun w'=>Zf aw cw aw w',fun w'=>∃ c',Zt (pS [8]) aw cw c' w',Zf.refl _ _,fun _ h=>⟨_,h.toP⟩,fun h=>absurd h (by decide),fun h=>absurd h (by decide),?_⟩;refine Z27 ?_;replace ae:=((ae.gr al).gr hC).kp a3;replace af:=((af.gr al).gr hC).kp a3;replace ab:=((ab.gr al).gr hC).kp a3;replace ad:=((ad.gr al).gr hC).kp a3;replace aa:=((aa.grow al).grow hC).kp a3 dw;replace am:=(am.gr hC).kp a3;replace an:=(an.gr hC).kp a3;intro er hC
   replace hC:=hC.bl aw;refine go ?_;replace ae:=ae.gr hC;replace ae:=ae.recol 11 5;replace af:=af.gr hC;replace af:=af.recol 11 5;replace am:=am.gr hC;replace am:=am.recolSelf 5 (by decide);replace an:=an.gr hC;replace an:=an.recol 11 5;replace ab:=ab.gr hC;replace ab:=ab.recol 11 5;replace ad:=ad.gr hC;replace ad:=ad.recol 11 5;replace a4:=a4.gr hC;replace a4:=a4.recol 11 5;replace aa:=aa.grow hC;replace aa:=aa.recol 11 5 (by decide) (by decide);replace ae:=ae.recol 12 6;replace af:=af.recol 12 6;replace an:=an.recolSelf 6 (by decide);replace ab:=ab.recol 12 6;replace ad:=ad.recol 12 6;replace aa:=aa.recol 12 6 (by decide) (by decide);exact ⟨dg.length,by simp,rfl,⟨_,_,_,_,_,_,_,_,_,_,rfl,dh,hm,aa,ab,ae,af,ad,am.recol 12 6,an,a4.recol 12 6,(Yl (congrArg (Value.int .i64) (Yi (aE di (h1.ks aa).1.1))) rfl)⟩⟩
 | cons es dx=>
  obtain ⟨a0,dy,dz⟩:=Yf hl;have hk:(bm:Int)<(ai.length:Int):=by omega
  have hkb:=decide_eq_true hk;rw [Zdb.eq_2] at hm;refine go ?_;refine X1 (congrArg Value.bool hkb)<|go ?_;refine lI a0 ((h1.ks aa).addr a0) ?_;obtain ⟨_,d0,d1⟩:=(h1.ks aa).atN a0;obtain ⟨⟨et,eu,rfl,d2⟩,_⟩:=d0;refine lW d1.one<|go ?_;refine lV _ (Z8 isAgg27 sizeOf27 ab)<|Y2 rfl ?_;obtain ⟨ew,d3,hm⟩:=bZ hm;refine Zi (Z34 d3 (bg.ks aa) (bh.ks aa) (bi.ks aa) (bj.ks aa) d2) ?_;rintro _ d4 ⟨rfl,a5⟩;refine ⟨_,rfl,?_⟩;replace a5:Zf ar ax ar d4:=.of_below a5;refine go ?_;replace ad:=ad.gr a5;replace aa:=aa.grow a5;refine Zo hm (fun hb hm=>go ?_) fun hb hm=>go ?_
  ·refine lV (.agg #[.bool false,(nI),(nI)]) (Wq (l:=[_,_]) (qs:=[(0,2),(2,1)]) underlying39 zeroValue39 ⟨rfl,sizeOf37,rfl,sizeOf35,trivial⟩ rfl)<|Zy ad ?_;intro ey d5 d6 d7;refine go ?_;cases hm;replace aa:=aa.kp d5 d6;exact ⟨rfl,_,V3 d7.atN,_,none,0,none,0,rfl,aa.fin (cm []),Zb.nil,Zb.nil⟩
  exact ⟨dx.length,by simp,rfl,⟨_,_,_,_,_,_,_,_,_,_,rfl,dy,hm,aa,ab.gr a5,ae.gr a5,af.gr a5,ad,(Yl (congrArg (Value.int .i64) (Yi (aE dz (h1.ks aa).1.1))) rfl)⟩⟩
/-! how long products are:bounds variable by variable -/
def W2 (B:Nat→Nat):Nat→Nat→Nat
 | 0,_=>0
 | m+1,k=>B k+W2 B m (k+1)
theorem Z1v {α:Type} (f:List α→Nat) (T:List (List α)):∀ m k,k+m=T.length→W2 (fun v=>f (T.getD v [])) m k=((T.drop k).map f).sum
 | 0,k,h=>by rw [W2,cH (by omega)];rfl
 | m+1,k,h=>by
  rw [W2,Z1v f T m (k+1) (by omega),aJ (i:=k) (by omega),aS,eY,Xn (by omega)]
theorem Z1w (B:Nat→Nat):∀ m k,W2 (fun v=>B v+1) m k=W2 B m k+m
 | 0,k=>rfl
 | m+1,k=>by rw [W2,W2,Z1w B m (k+1)];omega
def Zao (n:Zq) (B:Nat→Nat):Prop:=∀ v,v<n.2.1.length→∀ x ∈ n.2.2.2.2.getD v [],qs (Zr x)≤B v
theorem Zqr {N:Nat} {n:Zq} {B:Nat→Nat} (hf:X7 N n) (hB:Zao n B) {w:List Int} (hw:X9 n w) {k:Nat} (hk:k<n.2.1.length):qs (ent n w k)≤B k:=by
 have b:=hw.ok k (by rw [hw.len];exact hk)
 have a:(w.getD k 0).toNat<(Uz n w k).length:=by rw [hf.rowT_len hw hk];omega
 rw [ent,Xn a]
 exact hB k hk _ (Zlt (aH a))
theorem Zr6 {N:Nat} {n:Zq} {B:Nat→Nat} (hf:X7 N n) (hB:Zao n B) {w:List Int} (hw:X9 n w):∀ (m k:Nat) (q:Rat),k+m≤n.2.1.length→qs (Ux n w m k q)≤qs q+W2 B m k
 | 0,k,q,h=>by rw [Ux,W2];omega
 | m+1,k,q,h=>by
  have a:=Zqr hf hB hw (k:=k) (by omega)
  have b:=Zl0 q (ent n w k)
  have c:=Zr6 hf hB hw m (k+1) (q * ent n w k) (by omega)
  rw [Ux,W2];omega
section
variable {N W K:Nat} {n:Zq} (hf:X7 N n) (hs:Ww n W) (hr:Z5 N (8 * K+40)) (hWK:1025 * (W+2)+4≤K) (hN:2000000<N) (hC:Vj N n=some 0)
include hf hs hr hWK hN hC
theorem Z87 {w:List Int} (hw:X9 n w):Su N n w=some (Zp (Ux n w n.2.1.length 0 1),0):=by
 obtain ⟨p,e,a,b⟩:=Z52 hf hs hr hWK hN hC w
 have c:=Zww hw
 rcases b with ⟨_,h⟩ | ⟨rfl,_,rfl⟩
 ·rw [c] at h;cases h
 ·exact a
variable {B:Nat→Nat} {S:Nat} (hB:Zao n B) (hS:W2 B n.2.1.length 0+1≤S) (hSK:12 * S+10≤K)
include hB hS hSK
end
structure PV (n:Zq) (w:List Int):Prop where
 len:w.length=n.2.1.length
 ok:∀ i,i<w.length→ -1≤w.getD i 0∧w.getD i 0<(cnt n i:Int)
theorem Zo9 {n:Zq} {r:List R2} (h:Ud n r=true):∀ row ∈ r,PV n row:=fun row c=>by
 have a:=cV.1 h row c
 rw [Bool.and_eq_true,decide_eq_true_eq] at a
 refine ⟨a.1,fun i b=>⟨?_,?_⟩⟩
 ·rw [Xn b];exact Z0r a.2 _ (aH b)
 ·have:=Z0s a.2 i b
  rwa [cR] at this
theorem Z0t {n:Zq}:∀ (l:List Int) (k:Nat),(∀ i,i<l.length→ -1≤l.getD i 0∧l.getD i 0<(cnt n (k+i):Int))→V4 n l k=true
 | [],k,_=>rfl
 | x :: l,k,h=>by
  have a:=h 0 (by simp)
  have b:=Z0t (n:=n) l (k+1) fun i c=>by
   have:=h (i+1) (by rw [nC];omega)
   rw [show k+(i+1)=k+1+i by omega] at this
   exact this
  rw [bU] at a
  rw [V4,b,Bool.and_true,decide_eq_true (show -1≤x from a.1),Bool.true_and]
  exact decide_eq_true a.2
theorem Z3b {n:Zq} {o:List R2} (h:∀ q ∈ o,PV n q):Ud n o=true:=by
 rw [Ud,cV]
 intro q b
 have a:=h q b
 rw [decide_eq_true a.len,Bool.true_and]
 refine Z0t q 0 fun i c=>?_
 have:=a.ok i c
 rw [cR];omega
theorem PV.set {n:Zq} {w:List Int} (h:PV n w) {v:Nat} {k:Int} (hk:-1≤k∧k<(cnt n v:Int)):PV n (w.set v k):=by
 refine ⟨by rw [nS];exact h.len,fun i a=>?_⟩
 rw [nS] at a
 by_cases hv:v<w.length
 ·rw [V1 w 0 v i k hv]
  split
  ·rename_i e;rw [e];exact hk
  ·exact h.ok i a
 ·rw [List.set_eq_of_length_le (by omega)];exact h.ok i a
def Z7 (n:Zq):Nat→Nat→List Int→List R2
 | 0,_,w=>[w]
 | m+1,k,w=>if 0≤w.getD k 0 then Z7 n m (k+1) w else (cI 0 (cnt n k)).flatMap fun x:Nat=>Z7 n m (k+1) (w.set k (x:Int))
def Xq (n:Zq) (w:List Int):Nat→Nat→Nat
 | 0,_=>1
 | m+1,k=>(if 0≤w.getD k 0 then 1 else cnt n k) * Xq n w m (k+1)
theorem Zop {n:Zq} {w:List Int} {v:Nat} {x:Int}:∀ m k,v<k→Xq n (w.set v x) m k=Xq n w m k
 | 0,k,_=>rfl
 | m+1,k,h=>by
  have e:(w.set v x).getD k 0=w.getD k 0:=by
   rw [aF,aF,List.getElem?_set_ne (by omega)]
  rw [Xq,Xq,e,Zop m (k+1) (by omega)]
theorem Zqu {α:Type} (f:Nat→List α) (c:Nat):∀ m j,(∀ x,(f x).length=c)→((cI j m).flatMap f).length=m * c
 | 0,j,_=>by simp
 | m+1,j,h=>by
  rw [eX,dM,nA,Zqu f c m (j+1) h,h,aV,aX,eM]
theorem Zen (n:Zq):∀ m k w,(Z7 n m k w).length=Xq n w m k
 | 0,k,w=>rfl
 | m+1,k,w=>by
  rw [Z7,Xq]
  split
  ·rw [Zen n m,aX]
  ·rw [Zqu _ (Xq n w m (k+1)) _ _ fun x=>by rw [Zen n m,Zop _ _ (by omega)]]
theorem Zg2 {n:Zq}:∀ m k w,PV n w→k+m=n.2.1.length→(∀ i,i<k→0≤w.getD i 0)→∀ x ∈ Z7 n m k w,X9 n x
 | 0,k,w,a,j,c,x,b=>by
  rw [Z7,List.mem_singleton] at b
  subst b
  exact ⟨a.len,fun i d=>⟨c i (by have:=a.len;omega),(a.ok i d).2⟩⟩
 | m+1,k,w,a,j,c,x,b=>by
  rw [Z7] at b
  have f:k<w.length:=by rw [a.len];omega
  split at b
  ·rename_i l
   refine Zg2 m (k+1) w a (by omega) (fun i d=>?_) x b
   by_cases e:i=k
   ·subst e;exact l
   ·exact c i (by omega)
  ·obtain ⟨y,o,g⟩:=List.mem_flatMap.1 b
   have p:=List.mem_range'_1.1 o
   refine Zg2 m (k+1) _ (a.set (v:=k) (k:=(y:Int)) (by omega)) (by omega) (fun i d=>?_) x g
   rw [V1 w 0 k i _ f]
   split
   ·omega
   ·exact c i (by omega)
theorem Zoo {n:Zq} (he:V6 n) (w:List Int):∀ m k,k+m≤n.2.1.length→1≤Xq n w m k
 | 0,k,_=>Nat.le_refl _
 | m+1,k,h=>by
  have a:=Zoo he w m (k+1) (by omega)
  have b:=Qa he (v:=k) (by omega)
  rw [Xq]
  split
  ·omega
  ·exact Nat.mul_pos b a
theorem Zyl {n:Zq} (he:V6 n) (w:List Int):∀ m k,k+m=n.2.1.length→Xq n w m k≤X5 ((W3 n).drop k)
 | 0,k,h=>by
  rw [Xq,cH (by rw [W3,aN,he.v];omega),X5];exact Nat.le_refl _
 | m+1,k,h=>by
  have b:k<(W3 n).length:=by rw [W3,aN,he.v];omega
  have a:=Zyl he w m (k+1) (by omega)
  have e:(W3 n)[k]=cnt n k:=by
   have:k<n.2.2.1.length:=by rw [he.v];omega
   simp only [W3,cZ,cnt,Xn this]
  have c:=Qa he (v:=k) (by omega)
  rw [Xq,aJ b,X5,e]
  split
  ·rw [aX];exact aU a (eQ _ c)
  ·exact aT _ a
theorem Xa6 (n:Zq) (a b:List R2):Z6 n (a++b)=Z6 n a+Z6 n b:=by rw [Z6,eF,Zs8,Z6,Z6]
theorem Xa7 (n:Zq) (x:List Int):Z6 n [x]=Z2 n x n.2.1.length 0:=by rw [Z6,aS,bW,Xt,Xt,gL]
theorem set_set {w:List Int} {k:Nat} {a b:Int}:(w.set k a).set k b=w.set k b:=by rw [List.set_set]
theorem Z1m {w:List Int} {k:Nat} (hk:k<w.length) {a:Int} (h:w.getD k 0=a):w.set k a=w:=by
 rw [Xn hk] at h
 rw [← h,List.set_getElem_self]
/-! the program -/
section
variable {N W K:Nat} {n:Zq} (hf:X7 N n) (hN:2000000<N) {Q:Nat}
variable (hch:∀ w,X9 n w→Su N n w=some (Zp (Ux n w n.2.1.length 0 1),0)) (hQ:∀ w,X9 n w→qs (Z2 n w n.2.1.length 0)≤Q)
include hf hN hch hQ
omit hN hch hQ in
theorem Zwt {m k:Nat} (hkm:k+(m+1)=n.2.1.length) {w:List Int} (hw:PV n w) (h0:∀ i,i<k→0≤w.getD i 0) (hk0:w.getD k 0= -1) (rc:Zq→List Int→Int→Option (QV×List Int))
  (hrc:∀ u,PV n u→(∀ i,i<k+1→0≤u.getD i 0)→Xq n u m (k+1)=Xq n w m (k+1)→rc n u ((k+1:Nat):Int)=some (Zp (Z6 n (Z7 n m (k+1) u)),u)∧qs (Z6 n (Z7 n m (k+1) u))≤(Z7 n m (k+1) u).length * (Q+2 * m))
  (hr:Z5 N (2 * (Xq n w (m+1) k * (Q+2 * (m+1))+(Q+2 * m) * Xq n w m (k+1)+10))):
  ∀ (j x f:Nat) (acc:Rat),x+j=cnt n k→j<f→qs acc≤1+x * Xq n w m (k+1) * (Q+2 * m+1)→
  Zdd N rc n (k:Int) (n.2.2.1.getD k []) f (w.set k ((x:Int) - 1)) (x:Int) (Zp acc).1.1 (Zp acc).1.2 (Zp acc).2=some (Zp (acc+Z6 n ((cI x j).flatMap fun y:Nat=>Z7 n m (k+1) (w.set k (y:Int)))),w)∧
   qs (acc+Z6 n ((cI x j).flatMap fun y:Nat=>Z7 n m (k+1) (w.set k (y:Int))))≤1+cnt n k * Xq n w m (k+1) * (Q+2 * m+1)
 | j,x,0,acc,_,h,_=>by omega
 | 0,x,f+1,acc,F,_,c=>by
  have p:=hf.le
  have a:k<w.length:=by rw [hw.len];omega
  have q:(n.2.2.1.getD k []).length=cnt n k:=rfl
  have d:k<(w.set k ((x:Int) - 1)).length:=by rw [nS];exact a
  obtain rfl:x=cnt n k:=by omega
  rw [Zdd.eq_2,if_neg (dF (by omega)),Z0 d,oB,oB,aD,set_set,Z1m a hk0]
  have e:Z6 n ((cI (cnt n k) 0).flatMap fun y:Nat=>Z7 n m (k+1) (w.set k (y:Int)))=0:=rfl
  rw [e,gL]
  exact ⟨rfl,c⟩
 | j+1,x,f+1,acc,F,J,c=>by
  have p:=hf.le
  have a:k<w.length:=by rw [hw.len];omega
  have q:(n.2.2.1.getD k []).length=cnt n k:=rfl
  have L:cnt n k≤65536:=by
   have r:k<n.2.1.length:=by omega
   obtain ⟨P,R,S⟩:=hf.rows r
   have s:0<Tl n k:=Zl5 hf.ev (n.2.2.2.1.getD k []) 1 (hf.pars r) (by omega)
   have:=eQ (cnt n k) s
   rw [Tl] at this;omega
  have d:k<(w.set k ((x:Int) - 1)).length:=by rw [nS];exact a
  have G:PV n (w.set k (x:Int)):=hw.set (by omega)
  have o:Xq n (w.set k (x:Int)) m (k+1)=Xq n w m (k+1):=Zop _ _ (by omega)
  obtain ⟨H,l⟩:=hrc (w.set k (x:Int)) G (fun i T=>by
   rw [V1 w 0 k i _ a]
   split
   ·omega
   ·exact h0 i (by omega)) o
  rw [Zen,o] at l
  have t:Xq n w (m+1) k=cnt n k * Xq n w m (k+1):=by rw [Xq,if_neg (by rw [hk0];decide)]
  rw [t] at hr
  obtain ⟨O,b⟩:∃ O,O=Xq n w m (k+1):=⟨_,rfl⟩
  have M:1≤O:=by rw [b];exact Zoo hf.ev w m (k+1) (by omega)
  rw [← b] at hr l c ⊢
  obtain ⟨B,g⟩:∃ B,B=Q+2 * m:=⟨_,rfl⟩
  rw [show Q+2 * (m+1)=B+2 by omega,← g] at hr
  rw [← g] at l c ⊢
  -- sizes
  have U:(x+1) * O * (B+1)≤cnt n k * O * (B+1):=bC _ (bC _ (by omega))
  have V:(x+1) * O * (B+1)=x * O * (B+1)+O * (B+1):=by rw [aV,aX,aV]
  have X:O * (B+1)=O * B+O:=by rw [dP,eN]
  have v:cnt n k * O * (B+2)=cnt n k * O * (B+1)+cnt n k * O:=by rw [show B+2=(B+1)+1 by omega,dP _ (B+1) 1,eN]
  have A:B * O=O * B:=bY _ _
  rw [v,A] at hr
  have I:Sr N (((Zp acc).1.1,(Zp acc).1.2),(Zp acc).2) (((Zp (Z6 n (Z7 n m (k+1) (w.set k (x:Int))))).1.1,(Zp (Z6 n (Z7 n m (k+1) (w.set k (x:Int))))).1.2),(Zp (Z6 n (Z7 n m (k+1) (w.set k (x:Int))))).2)=some (Zp (acc+Z6 n (Z7 n m (k+1) (w.set k (x:Int))))):=by
   have:=Zm9 (N:=N) (V5 c) (V5 l) (hr.mono (by omega))
   rwa [Wo,Wo] at this
  have Y:=Zsf acc (Z6 n (Z7 n m (k+1) (w.set k (x:Int))))
  obtain ⟨C,D⟩:=Zwt hkm hw h0 hk0 rc hrc (by rw [t,← b,show Q+2 * (m+1)=B+2 by omega,← g,v,A];exact hr) j (x+1) f (acc+Z6 n (Z7 n m (k+1) (w.set k (x:Int)))) (by omega) (by omega) (by rw [← b,← g];omega)
  rw [← b,← g] at D
  have E:rc (n.1,n.2.1,n.2.2.1,n.2.2.2.1,n.2.2.2.2) (w.set k (x:Int)) ((k:Int)+1)=some (Zp (Z6 n (Z7 n m (k+1) (w.set k (x:Int)))),w.set k (x:Int)):=H
  rw [Zdd.eq_2,if_pos (dT (by omega)),Z0 d,oB,oB,aD,set_set,Zw (x:=(k:Int)+1) (by omega),E,oB,I,oB,wS (by omega),eX,dM,Xa6,← lH]
  rw [show (((x+1:Nat):Int) - 1)=(x:Int) by omega] at C
  exact ⟨C,D⟩
theorem Zwu:∀ (F m k:Nat) (w:List Int),m<F→k+m=n.2.1.length→PV n w→(∀ i,i<k→0≤w.getD i 0)→Z5 N (4 * (Xq n w m k * (Q+2 * m)+10))→
  Za7 N F n w (k:Int)=some (Zp (Z6 n (Z7 n m k w)),w)∧qs (Z6 n (Z7 n m k w))≤(Z7 n m k w).length * (Q+2 * m)
 | 0,m,k,w,h,_,_,_,_=>by omega
 | F+1,m,k,w,hF,A,p,j,d=>by
  have Z:=hf.le
  have B:=p.len
  rw [Za7,Zno]
  have P:∀ (m k f:Nat) (a:Bool) (b c:List Int),m≤F→m<f→k+m=n.2.1.length→(∀ i,i<k→0≤w.getD i 0)→Z5 N (4 * (Xq n w m k * (Q+2 * m)+10))→
    Zdc N (Za7 N F) n f w a b c (k:Int)=some (Zp (Z6 n (Z7 n m k w)),w)∧qs (Z6 n (Z7 n m k w))≤(Z7 n m k w).length * (Q+2 * m):=by
   intro m
   induction m with
   | zero=>
    intro k f a b c _ C D j _
    obtain ⟨g,rfl⟩:∃ g,f=g+1:=⟨f - 1,by omega⟩
    have q:X9 n w:=⟨B,fun i E=>⟨j i (by omega),(p.ok i E).2⟩⟩
    have R:Su N (n.1,n.2.1,n.2.2.1,n.2.2.2.1,n.2.2.2.2) w=some (Zp (Ux n w n.2.1.length 0 1),0):=hch w q
    have hq:=hQ w q
    rw [Zdc.eq_2,if_neg (dF (by omega)),R,Z7,Xa7,aQ,Zot,cX]
    exact ⟨rfl,by omega⟩
   | succ m S=>
    intro k f a b c a0 C D j d
    obtain ⟨g,rfl⟩:∃ g,f=g+1:=⟨f - 1,by omega⟩
    have o:k<w.length:=by omega
    rw [Zdc.eq_2,if_pos (dT (by omega)),Wx 0 o,oB]
    by_cases hc:0≤w.getD k 0
    ·have t:Xq n w (m+1) k=Xq n w m (k+1):=by rw [Xq,if_pos hc,aX]
     rw [t] at d
     have T:Xq n w m (k+1) * (Q+2 * m)≤Xq n w m (k+1) * (Q+2 * (m+1)):=aT _ (by omega)
     obtain ⟨U,i2⟩:=S (k+1) g a b c (by omega) (by omega) (by omega) (fun i E=>by
      by_cases e:i=k
      ·subst e;exact hc
      ·exact j i (by omega)) (d.mono (by omega))
     rw [if_pos (dT hc),wS (by omega),Z7,if_pos hc]
     have O:(Z7 n m (k+1) w).length * (Q+2 * m)≤(Z7 n m (k+1) w).length * (Q+2 * (m+1)):=aT _ (by omega)
     exact ⟨U,by omega⟩
    ·have r:w.getD k 0= -1:=by have:=(p.ok k o).1;omega
     have t:Xq n w (m+1) k=cnt n k * Xq n w m (k+1):=by rw [Xq,if_neg hc]
     have s:=Qa hf.ev (v:=k) (by omega)
     have G:=Zoo hf.ev w m (k+1) (by omega)
     have H:Xq n w m (k+1)≤Xq n w (m+1) k:=by rw [t];exact eQ _ s
     have a1:Xq n w m (k+1) * (Q+2 * m)≤Xq n w (m+1) k * (Q+2 * (m+1)):=Nat.mul_le_mul H (by omega)
     have V:Zb2 N ([]:List QV)=some (Zp 0):=by
      have:=(Znc (N:=N) (l:=[]) (fun a X=>by cases X) (d.mono (by rw [Xx];omega))).1
      rw [this];rfl
     have I:k<n.2.2.1.length:=by rw [hf.ev.v];omega
     have y:=Zwt hf D p j r (Za7 N F) (fun u Y J L=>Zwu F m (k+1) u (by omega) (by omega) Y J (by rw [L];exact d.mono (by omega))) (d.mono (by rw [bY (Q+2 * m)];omega)) (cnt n k) 0 N 0 (cR _) (by
      obtain ⟨c1,c2,c3⟩:=hf.rows (v:=k) (by omega)
      have M:0<Tl n k:=Zl5 hf.ev (n.2.2.2.1.getD k []) 1 (hf.pars (by omega)) (by omega)
      have:=eQ (cnt n k) M
      rw [Tl] at this;omega) (by rw [Zow];omega)
     rw [show w.set k (((0:Nat):Int) - 1)=w from Z1m o r,lS] at y
     rw [if_neg (dF hc),V,oB,Wx [] I,oB,Z7,if_neg hc]
     refine ⟨y.1,aU y.2 ?_⟩
     rw [Zqu _ (Xq n w m (k+1)) _ _ fun x=>by rw [Zen,Zop _ _ (by omega)]]
     have a2:1≤cnt n k * Xq n w m (k+1):=Nat.mul_pos s G
     have:cnt n k * Xq n w m (k+1) * (Q+2 * (m+1))=cnt n k * Xq n w m (k+1) * (Q+2 * m+1)+cnt n k * Xq n w m (k+1):=by
      rw [show Q+2 * (m+1)=(Q+2 * m+1)+1 by omega,dP _ (Q+2 * m+1) 1,eN]
     omega
  exact P m k N _ _ _ (by omega) (by omega) A j d
end
def Vh (n:Zq):Nat→Nat→Nat
 | 0,_=>1
 | m+1,k=>So (n.2.2.2.2.getD k []) * Vh n m (k+1)
theorem Zeo (n:Zq):∀ m k,Vh n m k≠0
 | 0,k=>by rw [Vh];decide
 | m+1,k=>eE (Zqo _) (Zeo n m (k+1))
theorem Zvr:∀ {t:List QV} {x:QV},x ∈ t→∃ E,E≠0∧So t=Yg x.2 * E
 | y :: t,x,h=>by
  rcases aO.1 h with rfl | h
  ·exact ⟨So t,Zqo t,rfl⟩
  ·obtain ⟨E,a,b⟩:=Zvr h
   exact ⟨Yg y.2 * E,eE (U5 _) a,by rw [So,b];grind⟩
section
variable {N W:Nat} {n:Zq} (hf:X7 N n) (hs:Ww n W)
include hf
theorem Z68 {w:List Int} (hw:X9 n w) {v:Nat} (hv:v<n.2.1.length):Bd (So (n.2.2.2.2.getD v [])) 1 (ent n w v)∧0≤ent n w v:=by
 have f:=hw.ok v (by rw [hw.len];exact hv)
 have b:(w.getD v 0).toNat<(Uz n w v).length:=by rw [hf.rowT_len hw hv];omega
 have c:=Zlt (aH b)
 have a:=hf.ent hv _ c
 obtain ⟨E,d,e⟩:=Zvr c
 rw [ent,Xn b,e]
 exact ⟨(Z3l a.1 a.2).lift E (U5 _) d,a.1⟩
theorem Zr5 {w:List Int} (hw:X9 n w):∀ m k,k+m≤n.2.1.length→Bd (Vh n m k) 1 (Z2 n w m k)∧0≤Z2 n w m k
 | 0,k,_=>by rw [Vh,Z2];exact ⟨Bd.one,by decide⟩
 | m+1,k,h=>by
  obtain ⟨a,b⟩:=Z68 hf hw (v:=k) (by omega)
  obtain ⟨c,d⟩:=Zr5 hw m (k+1) (by omega)
  rw [Vh,Z2]
  exact ⟨a.mul c,bS b d⟩
omit hf in
theorem Z3k {D:Nat} (hD:D≠0) {q:Rat} (h:Bd D 1 q) (h0:0≤q):∃ z:Nat,q=mkRat (z:Int) D∧z≤D:=by
 obtain ⟨z,e,b⟩:=h
 have a:¬ z<0:=fun c=>by
  have:q<0:=by rw [e,show (0:Rat)=mkRat 0 1 from rfl,Zga hD (by decide)];omega
  exact absurd h0 (iD.2 this)
 exact ⟨z.toNat,by rw [e];congr 1;omega,by omega⟩
theorem Zy1 {w:List Int} (hw:X9 n w):∃ z:Nat,Z2 n w n.2.1.length 0=mkRat (z:Int) (Vh n n.2.1.length 0)∧z≤Vh n n.2.1.length 0:=by
 obtain ⟨a,b⟩:=Zr5 hf hw n.2.1.length 0 (by omega)
 exact Z3k (Zeo _ _ _) a b
theorem Z1u:∀ C:List R2,(∀ w ∈ C,X9 n w)→∃ A:Nat,Z6 n C=mkRat (A:Int) (Vh n n.2.1.length 0)∧A≤C.length * Vh n n.2.1.length 0
 | [],_=>⟨0,by rw [Z6,bW,Xt];exact (lB _).symm,bK _⟩
 | w :: C,h=>by
  obtain ⟨z,a,d⟩:=Zy1 hf (h w aC)
  obtain ⟨A,b,f⟩:=Z1u C fun x c=>h x (aB _ c)
  have e:Z6 n (w :: C)=Z2 n w n.2.1.length 0+Z6 n C:=by rw [Z6,aS,Xt];rfl
  refine ⟨z+A,?_,?_⟩
  ·rw [e,a,b,Z8k _ _ (Zeo _ _ _),Int.natCast_add]
  ·rw [nC,aV,aX];omega
def Tr (n:Zq) (C:List R2):Nat:=(Z6 n C * (Vh n n.2.1.length 0:Rat)).num.toNat
omit hf in
theorem Zrl {A D:Nat} (hD:D≠0):mkRat (A:Int) D * (D:Rat)=(A:Rat):=by
 rw [dI]
 exact Q1 (Zgb hD)
theorem Zpv {C:List R2} (h:∀ w ∈ C,X9 n w):Z6 n C=mkRat (Tr n C:Int) (Vh n n.2.1.length 0)∧Tr n C≤C.length * Vh n n.2.1.length 0:=by
 obtain ⟨A,a,b⟩:=Z1u hf C h
 have:Tr n C=A:=by rw [Tr,a,Zrl (Zeo _ _ _)];simp
 rw [this];exact ⟨a,b⟩
theorem Z7u {C:List R2} (h:∀ w ∈ C,X9 n w) (hp:0<Z6 n C) {D E:Nat} (hD:D=Tr n C * E):∀ x ∈ C,∃ z:Nat,(D:Rat) * Z2 n x n.2.1.length 0 / Z6 n C=(z:Rat):=fun x c=>by
 obtain ⟨z,d,_⟩:=Zy1 hf (h x c)
 obtain ⟨a,_⟩:=Zpv hf h
 have f:=Zgb (Zeo n n.2.1.length 0)
 have m:((Tr n C:Nat):Rat)≠0:=fun e=>by
  have:Z6 n C=0:=by rw [a,dI];show ((Tr n C:Nat):Rat) / _=0;rw [e,bT,cT]
  rw [this] at hp;exact absurd hp dY
 have b:Z6 n C≠0:=fun e=>by rw [e] at hp;exact absurd hp dY
 refine ⟨E * z,?_⟩
 have g:Z6 n C * (Vh n n.2.1.length 0:Rat)=((Tr n C:Nat):Rat):=by rw [a];exact Zrl (Zeo _ _ _)
 have i:Z2 n x n.2.1.length 0 * (Vh n n.2.1.length 0:Rat)=((z:Nat):Rat):=by rw [d];exact Zrl (Zeo _ _ _)
 have j:(D:Rat)=((Tr n C:Nat):Rat) * (E:Rat):=by rw [hD,kU]
 have k:(D:Rat) * Z2 n x n.2.1.length 0=((E * z:Nat):Rat) * Z6 n C:=by
  have l:((D:Rat) * Z2 n x n.2.1.length 0) * (Vh n n.2.1.length 0:Rat)=((E * z:Nat):Rat) * Z6 n C * (Vh n n.2.1.length 0:Rat):=by
   rw [kU,bJ,i,bJ _ (Z6 n C),g,j]
   generalize ((Tr n C:Nat):Rat)=A
   generalize (E:Rat)=B
   generalize (z:Rat)=Z
   grind
  have:=congrArg (· * (Vh n n.2.1.length 0:Rat)⁻¹) l
  simp only [bJ,cM _ f,bQ] at this
  exact this
 rw [k,bT,bJ,cM _ b,bQ]
def S7 (n:Zq):List R2→Nat
 | []=>1
 | w :: r=>Tr n (Z7 n n.2.1.length 0 w) * S7 n r
omit hf in
theorem Zt0:∀ (r:List R2) (w:List Int),w ∈ r→∃ E,S7 n r=Tr n (Z7 n n.2.1.length 0 w) * E
 | u :: r,w,h=>by
  rcases aO.1 h with rfl | h
  ·exact ⟨S7 n r,rfl⟩
  ·obtain ⟨E,e⟩:=Zt0 r w h
   exact ⟨Tr n (Z7 n n.2.1.length 0 u) * E,by rw [S7,e];grind⟩
omit hf in
theorem Zvh (hlim:∀ v,v<n.2.1.length→∀ x ∈ n.2.2.2.2.getD v [],Vf x):∀ m k,k+m≤n.2.1.length→(Ze (Vh n m k)).length≤W2 (fun v=>Xx (n.2.2.2.2.getD v [])+1) m k+1
 | 0,k,_=>by rw [Vh,Qc,W2];simp
 | m+1,k,h=>by
  have a:=Zvq (n.2.2.2.2.getD k []) (hlim k (by omega))
  have b:=Zvh hlim m (k+1) (by omega)
  have c:=U7 (So (n.2.2.2.2.getD k [])) (Vh n m (k+1))
  rw [Vh,W2];omega
theorem Zt2:∀ r:List R2,(∀ w ∈ r,PV n w∧0<Z6 n (Z7 n n.2.1.length 0 w))→S7 n r≠0
 | [],_=>by rw [S7];decide
 | w :: r,h=>by
  obtain ⟨c,a⟩:=h w aC
  have d:=Zg2 n.2.1.length 0 w c (by omega) fun i g=>by omega
  obtain ⟨b,_⟩:=Zpv hf d
  rw [S7]
  refine eE (fun e=>?_) (Zt2 r fun x f=>h x (aB _ f))
  rw [e] at b
  rw [b] at a
  rw [show (((0:Nat):Int))=0 from rfl,lB] at a
  exact absurd a dY
theorem Zt1 {G:Nat} (hG:(Ze (Vh n n.2.1.length 0)).length+1≤G):∀ r:List R2,(∀ w ∈ r,PV n w∧Xq n w n.2.1.length 0≤65536)→(Ze (S7 n r)).length≤r.length * G+1
 | [],_=>by rw [S7,Qc];simp
 | w :: r,h=>by
  obtain ⟨b,c⟩:=h w aC
  have d:=Zg2 n.2.1.length 0 w b (by omega) fun i g=>by omega
  obtain ⟨_,a⟩:=Zpv hf d
  rw [Zen] at a
  have e:Tr n (Z7 n n.2.1.length 0 w)≤65536 * Vh n n.2.1.length 0:=aU a (bC _ c)
  have j:=Wu e
  have k:=U7 65536 (Vh n n.2.1.length 0)
  have l:(Ze 65536).length≤1:=W8.2 (by decide)
  have m:=U7 (Tr n (Z7 n n.2.1.length 0 w)) (S7 n r)
  have o:=Zt1 hG r fun x f=>h x (aB _ f)
  rw [S7,nC,aV,aX];omega
end
theorem Z60:Wa prog 3 1 8:=⟨Tryz.t3,_,rfl,rfl,rfl,rfl,rfl⟩
def Zdm (ad:R0) (ae:List Int) (ab:Int) (ac:List Int) (kk_L1:(Int→R2→Option R2)):List Int→Int→Option R2
  | [],aa=>(Zl ad.2.2.1 ab).bind fun af=>(Zl ae ab).bind fun ag=>Z4 ((ac.length+[i64.wrap ((i64.wrap (aa * (af.length:Int)))+ag)].length) * 8≤140737488355328∧ac.length+[i64.wrap ((i64.wrap (aa * (af.length:Int)))+ag)].length≤maxLen) (kk_L1 (i64.wrap (ab+1)) (ac++[i64.wrap ((i64.wrap (aa * (af.length:Int)))+ag)]))
  | ah :: ai,aa=>(Zl ad.2.2.1 ah).bind fun aj=>(Zl ae ah).bind fun ak=>(Zdm ad ae ab ac kk_L1 ai) (i64.wrap ((i64.wrap (aa * (aj.length:Int)))+ak))
termination_by structural x=>x
def Zbb (N:Nat) (aa:R0) (ac:List Int):Nat→Int→R2→Option R2
  | 0,_,_=>none
  | ae+1,ab,ad=>if (decide (ab<(aa.2.1.length:Int)))=true then ((Zl aa.2.2.2.1 ab).bind fun af=>Zdm aa ac ab ad (Zbb N aa ac ae) af 0) else (some ad)
termination_by structural x=>x
def Zkq (N:Nat) (aa:R0) (ab:List Int):Option R2:=
  Zbb N aa ab N 0 ([]:List Int)
theorem Z4l {N ao ap aq ar bg:Nat} {au av aw ax a1:Option Addr} {col:Zd} {w0:World} {ab:R0} {ah r:R2} (c1:Nat) (hm:Zkq N ab ah=some r) (b3:Sl Za.str col w0 au ao ab.2.1) (ai:Sl (Za.slice Za.str) col w0 av ap ab.2.2.1) (ay:Sl (Za.slice rI) col w0 aw aq ab.2.2.2.1) (b4:Sl (Za.slice (Za.pair (Za.pair Za.bool (Za.slice rU)) (Za.slice rU))) col w0 ax ar ab.2.2.2.2) (h1:Sl rI col w0 a1 bg ah):
    Calls prog 111 #[(.agg #[.string ab.1,.slice au ab.2.1.length ao,.slice av ab.2.2.1.length ap,.slice aw ab.2.2.2.1.length aq,.slice ax ab.2.2.2.2.length ar]),.slice a1 ah.length bg] w0 (fun e w'=>∃ (col':Zd) (ra1:Option Addr) (rc2:Nat),e= .returned ((.slice ra1 r.length rc2))∧Zf col w0 col' w'∧Zb rI 3 c1 col' w' ra1 rc2 r):=by
 refine Xe 4 (m:=58) func111 rfl rfl rfl rfl rfl ?_;rw [Zkq.eq_1] at hm;have aa:=St.start col w0;refine go ?_;refine Xi (col:=(Zj col)) 1 rfl ?_;intro bh b5 b6 bm ac;refine go ?_;refine Xl ac ?_;refine go ?_;replace aa:=aa.grow bm;refine Zv [1,12,2,1000000] (fun n f az=>∃ a0 a2 a3 a4 aj ag,ag=n∧Zbb N ab ah ag a2 aj=some r∧St w0 (Zj col) a0 az∧Zg 27 1 a0 az bh #[.string ab.1,.slice au ab.2.1.length ao,.slice av ab.2.2.1.length ap,.slice aw ab.2.2.2.1.length aq,.slice ax ab.2.2.2.2.length ar]∧Zb rI 3 2 a0 az a3 a4 aj∧[13,5].map f=[.int .i64 a2,.slice a3 aj.length a4]) N ⟨_,0,none,0,_,_,rfl,hm,aa,ac,Zb.nil,rfl⟩ ?_;clear hm;intro n f az hI;obtain ⟨a0,a2,a3,a4,aj,ag,hn,hm,aa,ac,ae,hs⟩:=hI;subst hn;refine .lL [13,5] hs ?_;replace ai:=ai.k0;replace ay:=ay.k0;replace h1:=h1.k0
 cases ag with
 | zero=>rw [Zbb.eq_1] at hm;cases hm
 | succ ag=>
  rw [Zbb.eq_2] at hm;refine go ?_;refine Zo hm (fun hb hm=>go ?_) fun hb hm=>go ?_
  ·refine Xl ac<|X4 rfl ?_;obtain ⟨ak,a9,hm⟩:=bZ hm;refine lI a9 ((ay.ks aa).addr a9) ?_;obtain ⟨_,bn,bo⟩:=(ay.ks aa).atN a9;obtain ⟨⟨bp,bq,rfl,af⟩,_⟩:=bn;refine lW bo.one<|go ?_;refine Zv [1,12,13,2,20,21,5,6,1000000] (fun n f al=>∃ ad am a5 an,n=an.length∧ak.drop am=an∧Zdm ab ah a2 aj (Zbb N ab ah ag) an a5=some r∧St w0 (Zj col) ad al∧Zg 27 1 ad al bh #[.string ab.1,.slice au ab.2.1.length ao,.slice av ab.2.2.1.length ap,.slice aw ab.2.2.2.1.length aq,.slice ax ab.2.2.2.2.length ar]∧Sl rI ad al bp bq ak∧Zb rI 3 2 ad al a3 a4 aj∧[22,7].map f=[.int .i64 am,.int .i64 a5]) ak.length ⟨_,0,0,_,rfl,rfl,hm,aa,ac,af,ae,rfl⟩ ?_;clear hm;intro n f al hI;obtain ⟨ad,am,a5,an,hn,hl,hm,aa,ac,af,ae,hs⟩:=hI;subst hn;refine .lL [22,7] hs ?_
   cases an with
   | nil=>
    have hk:¬ ((am:Int)<(ak.length:Int)):=by have:=aG.1 hl;omega
    have hkb:=decide_eq_false hk;rw [Zdm.eq_1] at hm;refine go ?_;refine X0 (congrArg Value.bool hkb)<|go ?_;refine Y8 (col:=ad) [(0,1),(1,1),(2,1),(3,0),(4,1),(5,1),(6,0),(7,1),(8,1),(9,1),(10,1),(11,1),(12,0),(13,1),(14,3),(15,2),(16,1)] (by kernel_rfl) (by kernel_rfl)<|xu rfl rfl (fun _=>Ub rfl) ?_;refine xu rfl rfl (fun _=>Yq rfl) ?_;refine xF ⟨_,_,rfl⟩ ?_;refine xW (fun _ hC=>((ac.atN).nth (q:=2) rfl).gr (hC.bl ad)) ?_;refine xu rfl rfl (fun _=>Yq rfl) ?_;obtain ⟨br,a6,hm⟩:=bZ hm;refine xu rfl rfl (fun _=>Yu underlying23 sizeOf22 rfl rfl (Xa a6).1 (Xa a6).2.1 ((ai.ks aa).addr a6)) ?_;obtain ⟨_,bs,bt⟩:=(ai.ks aa).atN a6;obtain ⟨⟨b7,b8,rfl,b9⟩,_⟩:=bs;refine xW (fun _ hC=>bt.one.gr (hC.bl ad)) ?_;refine xu rfl rfl (fun _=>Qu underlying22 rfl) ?_;refine xu rfl rfl (fun _=>Zjk _ _ rfl rfl) ?_;refine xu rfl rfl (fun _=>Ub rfl) ?_;refine xu rfl rfl (fun _=>Yq rfl) ?_;obtain ⟨bu,a7,hm⟩:=bZ hm;refine xu rfl rfl (fun _=>Yu underlying33 sizeOf3 rfl rfl (Xa a7).1 (Xa a7).2.1 ((h1.ks aa).addr a7)) ?_;refine xW (fun _ hC=>((h1.ks aa).gr (hC.bl ad)).atInt a7) ?_;refine xu rfl rfl (fun _=>Qt _ _ rfl rfl) ?_;refine xe rfl rfl ?_;intro ca hC0;have hC:=hC0.bl ad;refine Vz (col:=ad) [i64.wrap ((i64.wrap (a5 * (br.length:Int)))+bu)] 3 ?_;intro cb cc ba a8 bb;refine Zk<|Xj ba hC0 a8<|xe rfl rfl ?_;intro bv hC0;replace ae:=(ae.gr hC).gr a8;replace ac:=(ac.gr hC).gr a8;replace aa:=(aa.grow hC).grow a8;have hC:=hC0.bl ba;obtain ⟨bi,hm⟩:=Z9 hm;replace ae:=ae.gr hC;refine Sb (col:=ba) (w:=bv) (r:=rI) (c:=2) (c2:=2) (ae.ex) ((bb.gr hC).srcN (NB.int (k:=.i64))) rfl underlying33 Z60 rfl rfl rfl bi.1 bi.2 (by decide) ?_;intro cd ce cf bj bk bw;refine Zk<|xk bj<|xu rfl rfl (fun _=>Zzn rfl) ?_;have bc:=bw.new;refine Yz ?_;replace ac:=(ac.gr hC).kpp bk;replace aa:=(aa.grow hC).kpp bk;intro cg hC;replace hC:=hC.bl bj;refine go ?_;replace ac:=ac.gr hC;replace aa:=aa.grow hC;exact ⟨ag,by omega,rfl,⟨_,_,_,_,_,_,rfl,hm,aa,ac,bc.gr hC,rfl⟩⟩
   | cons ch bx=>
    obtain ⟨bd,bz,b0⟩:=Yf hl;have hk:(am:Int)<(ak.length:Int):=by omega
    have hkb:=decide_eq_true hk;rw [Zdm.eq_2] at hm;refine go ?_;refine X1 (congrArg Value.bool hkb)<|go ?_;refine lI bd (af.addr bd)<|lW (af.atInt bd) ?_;refine go ?_;refine Vs (col:=ad) (by kernel_rfl) (by kernel_rfl)<|go ?_;refine qF ⟨_,_,rfl⟩ ?_;refine qW (fun _ hC=>((ac.atN).nth (q:=2) rfl).gr (hC.bl ad)) ?_;refine go ?_;obtain ⟨ci,be,hm⟩:=bZ hm;refine qI be ((ai.ks aa).addr be) ?_;obtain ⟨_,b1,b2⟩:=(ai.ks aa).atN be;obtain ⟨⟨cj,ck,rfl,cl⟩,_⟩:=b1;refine qW (fun _ hC=>b2.one.gr (hC.bl ad)) ?_;refine go ?_;obtain ⟨cn,bf,hm⟩:=bZ hm;refine qI bf ((h1.ks aa).addr bf)<|qW (fun _ hC=>((h1.ks aa).gr (hC.bl ad)).atInt bf) ?_;refine go ?_;refine Wn ?_;intro co hC;replace hC:=hC.bl ad;refine go ?_;replace af:=af.gr hC;replace ae:=ae.gr hC;replace aa:=aa.grow hC;exact ⟨bx.length,by simp,rfl,⟨_,_,_,_,rfl,bz,hm,aa,ac.gr hC,af,ae,(Yl (congrArg (Value.int .i64) (Yi (aE b0 af.1.1))) rfl)⟩⟩
  cases hm;exact ⟨rfl,_,_,_,rfl,aa.fin (cm [(2,c1)]),aa.fo ae⟩
def Zb4 (N:Nat) (aa:(R1×Int)):List Int→Nat→R9→Option R9
  | [],ab,ac=>some ac
  | af :: ah,ab,ac=>(Zl ac (ab:Int)).bind fun ag=>(Zl ag af).bind fun ad=>(Sr N ((ad.1.1,ad.1.2),ad.2) ((aa.1.1.1,aa.1.1.2),aa.1.2)).bind fun ae=>(some (ag.set (aA af) ((ae.1.1,ae.1.2),ae.2))).bind fun ai=>(Zb4 N aa ah) (ab+1) (ac.set (aA (ab:Int)) ai)
termination_by structural x=>x
def Zdi (N:Nat) (ah:R0) (aa:R1) (ai:R9) (aj:List Int):List Int→Nat→Bool→R2→R2→Option R9
  | [],ab,ac,ad,ae=>(Zb1 N ((ac,ad),ae) ((aa.1.1,aa.1.2),aa.2)).bind fun ak=>Zb4 N ak aj 0 ai
  | al :: am,ab,ac,ad,ae=>(Zl ah.2.2.2.2 (ab:Int)).bind fun an=>(Zl an al).bind fun af=>(Q5 N ((ac,ad),ae) ((af.1.1,af.1.2),af.2)).bind fun ag=>(Zdi N ah aa ai aj am) (ab+1) ag.1.1 ag.1.2 ag.2
termination_by structural x=>x
def Zhu (N:Nat) (ad:List Int) (aa:R0) (ae:R0) (af:R1) (ag:R9):Option R9:=
  (Zkq N (aa.1,aa.2.1,aa.2.2.1,aa.2.2.2.1,aa.2.2.2.2) ad).bind fun ac=>(Zks N 1).bind fun ab=>Zdi N ae af ag ac ac 0 ab.1.1 ab.1.2 ab.2
theorem Z4i (N:Nat) (col:Zd) (w0:World) (qc0:Nat) (qc1:Nat) (qc2:Nat) (c0:Nat) (c1:Nat) (c2:Nat) (c3:Nat) (qc3:Nat) (c4:Nat) (c5:Nat) (qc4:Nat) (aj:Nat) (hd:U4 [qc4,aj]=true) (hqqc0:qc0≠0∧pS [qc4,aj] qc0=false) (hqqc1:qc1≠0∧pS [qc4,aj] qc1=false) (hqqc2:qc2≠0∧pS [qc4,aj] qc2=false) (dt:c0≠0∧pS [qc4,aj] c0=false) (du:c1≠0∧pS [qc4,aj] c1=false) (dv:c2≠0∧pS [qc4,aj] c2=false) (dw:c3≠0∧pS [qc4,aj] c3=false) (hqqc3:qc3≠0∧pS [qc4,aj] qc3=false) (dx:c4≠0∧pS [qc4,aj] c4=false) (dy:c5≠0∧pS [qc4,aj] c5=false) (a0:Option Addr) (c6:Nat) (cb:List Int) (g1:Nat) (ao:R0) (cc:Option Addr) (cd:Nat) (ce:Option Addr) (cf:Nat) (cg:Option Addr) (ch:Nat) (ci:Option Addr) (cj:Nat) (g2:Nat) (ak:R0) (bs:Option Addr) (bt:Nat) (bu:Option Addr) (bv:Nat) (bw:Option Addr) (bx:Nat) (bz:Option Addr) (b0:Nat) (g3:Nat) (az:R1) (b1:Option Addr) (b2:Nat) (b3:Option Addr) (b4:Nat) (g4:Nat) (b5:R9) (ck:Option Addr) (cl:Nat) (h0:Zb rI 3 qc0 col w0 a0 c6 cb) (c7:Sl Za.str col w0 cc cd ao.2.1) (c8:Sl (Za.slice Za.str) col w0 ce cf ao.2.2.1) (c9:Sl (Za.slice rI) col w0 cg ch ao.2.2.2.1) (da:Sl (Za.slice (Za.pair (Za.pair Za.bool (Za.slice rU)) (Za.slice rU))) col w0 ci cj ao.2.2.2.2) (hb1:Zg 27 qc1 col w0 g1 #[.string ao.1,.slice cc ao.2.1.length cd,.slice ce ao.2.2.1.length cf,.slice cg ao.2.2.2.1.length ch,.slice ci ao.2.2.2.2.length cj]) (af:Zb Za.str 9 c0 col w0 bs bt ak.2.1) (ag:Zb (Za.row 9 Za.str) 22 c1 col w0 bu bv ak.2.2.1) (ah:Zb (Za.row 3 rI) 33 c2 col w0 bw bx ak.2.2.2.1) (ac:Zb (Za.row 39 (Za.pair (Za.pair Za.bool (Za.row 95 rU)) (Za.row 95 rU))) 114 c3 col w0 bz b0 ak.2.2.2.2) (hb2:Zg 27 qc2 col w0 g2 #[.string ak.1,.slice bs ak.2.1.length bt,.slice bu ak.2.2.1.length bv,.slice bw ak.2.2.2.1.length bx,.slice bz ak.2.2.2.2.length b0]) (ad:Zb rU 95 c4 col w0 b1 b2 az.1.2) (ae:Zb rU 95 c5 col w0 b3 b4 az.2) (hb3:Zg 39 qc3 col w0 g3 #[.bool az.1.1,.slice b1 az.1.2.length b2,.slice b3 az.2.length b4]) (ap:Zb (Za.row 39 (Za.pair (Za.pair Za.bool (Za.slice rU)) (Za.slice rU))) 114 aj col w0 ck cl b5) (hb4:Zg 25 qc4 col w0 g4 #[.slice ck b5.length cl]) (r:R9) (hm:Zhu N cb ao ak az b5=some r):
    Calls prog 110 #[.slice a0 cb.length c6,.pointer (some ⟨g1,0,none⟩),.pointer (some ⟨g2,0,none⟩),.pointer (some ⟨g3,0,none⟩),.pointer (some ⟨g4,0,none⟩)] w0 (fun e w'=>∃ (col':Zd) (oa1:Option Addr) (oc2:Nat),e= .returned (.tuple #[])∧Zt (pS [qc4,aj]) col w0 col' w'∧Zb (Za.row 39 (Za.pair (Za.pair Za.bool (Za.slice rU)) (Za.slice rU))) 114 aj col' w' oa1 oc2 r∧Zg 25 qc4 col' w' g4 #[.slice oa1 r.length oc2]):=by
 refine Zel (m:=63) (args:=[.slice a0 cb.length c6,.pointer (some ⟨g1,0,none⟩),.pointer (some ⟨g2,0,none⟩),.pointer (some ⟨g3,0,none⟩),.pointer (some ⟨g4,0,none⟩)]) func110 rfl rfl rfl rfl ?_;rw [Zhu.eq_1] at hm;have ab:=St.startL (l:=[qc4,aj]) rfl col w0;replace hb1:=hb1.startB hqqc1.1 hqqc1.2;replace hb2:=hb2.startB hqqc2.1 hqqc2.2;replace af:=af.startB dt.1 dt.2;replace ag:=ag.startB du.1 du.2;replace ah:=ah.startB dv.1 dv.2;replace ac:=ac.startB dw.1 dw.2;replace hb3:=hb3.startB hqqc3.1 hqqc3.2;replace ad:=ad.startB dx.1 dx.2;replace ae:=ae.startB dy.1 dy.2;replace hb4:=hb4.startL (T7 hd 0 rfl) (T6 hd 0 rfl);replace ap:=ap.startL (T7 hd 1 rfl) (T6 hd 1 rfl);refine go ?_;refine lV _ (Z8 isAgg27 sizeOf27 hb1)<|Y2 rfl ?_;obtain ⟨bc,d6,hm⟩:=bZ hm;refine Zi (Z4l 1 d6 (((c7.keep (Xw.startL [qc4,aj] col w0)).ks ab).froz 999) (((c8.keep (Xw.startL [qc4,aj] col w0)).ks ab).froz 999) (((c9.keep (Xw.startL [qc4,aj] col w0)).ks ab).froz 999) (((da.keep (Xw.startL [qc4,aj] col w0)).ks ab).froz 999) ((h0.startB hqqc0.1 hqqc0.2).toSlF (Zh.int .i64))) ?_;rintro _ fp ⟨d7,dz,d0,rfl,a2,aa⟩;refine ⟨_,rfl,?_⟩;replace aa:=aa.thaw (Z1 .i64) a2 ((Fz.refl (col:=(Xh [qc4,aj] col))).froz 999);replace a2:=a2.thawR (col:=(Xh [qc4,aj] col));generalize Xc w0.heap.size (Xh [qc4,aj] col) d7=d8 at *;refine go ?_;obtain ⟨fq,d9,hm⟩:=bZ hm;refine Zi (Z4n (col:=d8) 2 3 d9) ?_;rintro _ fr ⟨ea,ft,fu,fv,fw,rfl,a9,db,dc⟩;refine ⟨_,rfl,?_⟩;refine Xk (col:=ea) #[.bool false,(nI),(nI)] 4 zeroValue39 ?_;intro d1 fx fy a3 eb;refine Zy eb ?_;intro fz a4 ec ba;refine go ?_;replace af:=(((af.gr a2).gr a9).gr a3).kp a4;replace ag:=(((ag.gr a2).gr a9).gr a3).kp a4;replace ah:=(((ah.gr a2).gr a9).gr a3).kp a4;replace ac:=(((ac.gr a2).gr a9).gr a3).kp a4;replace ad:=(((ad.gr a2).gr a9).gr a3).kp a4;replace ae:=(((ae.gr a2).gr a9).gr a3).kp a4;replace ap:=(((ap.gr a2).gr a9).gr a3).kp a4;replace hb1:=(((hb1.gr a2).gr a9).gr a3).kp a4;replace hb2:=(((hb2.gr a2).gr a9).gr a3).kp a4;replace hb3:=(((hb3.gr a2).gr a9).gr a3).kp a4
 replace hb4:=(((hb4.gr a2).gr a9).gr a3).kp a4;replace ab:=(((ab.grow a2).grow a9).grow a3).kp a4 ec;replace aa:=((aa.gr a9).gr a3).kp a4;refine Zv [16,17,2,3,4,6,7,1000000] (fun n f av=>∃ ai b6 dd de df cn dg dh co b8,n=b8.length∧bc.drop b6=b8∧Zdi N ak az b5 bc b8 b6 dd cn co=some r∧St w0 (Xh [qc4,aj] col) ai av∧Zb rI 3 1 ai av dz d0 bc∧Zb Za.str 9 999 ai av bs bt ak.2.1∧Zb (Za.row 9 Za.str) 22 999 ai av bu bv ak.2.2.1∧Zb (Za.row 3 rI) 33 999 ai av bw bx ak.2.2.2.1∧Zb (Za.row 39 (Za.pair (Za.pair Za.bool (Za.row 95 rU)) (Za.row 95 rU))) 114 999 ai av bz b0 ak.2.2.2.2∧Zg 27 999 ai av g2 #[.string ak.1,.slice bs ak.2.1.length bt,.slice bu ak.2.2.1.length bv,.slice bw ak.2.2.2.1.length bx,.slice bz ak.2.2.2.2.length b0]∧Zb rU 95 999 ai av b1 b2 az.1.2∧Zb rU 95 999 ai av b3 b4 az.2∧Zg 39 999 ai av g3 #[.bool az.1.1,.slice b1 az.1.2.length b2,.slice b3 az.2.length b4]∧Zb (Za.row 39 (Za.pair (Za.pair Za.bool (Za.slice rU)) (Za.slice rU))) 114 441 ai av ck cl b5∧Zg 25 440 ai av g4 #[.slice ck b5.length cl]∧Zb rU 95 2 ai av de df cn∧Zb rU 95 3 ai av dg dh co∧Zg 39 4 ai av d1 #[.bool dd,.slice de cn.length df,.slice dg co.length dh]∧Zg 27 999 ai av g1 #[.string ao.1,.slice cc ao.2.1.length cd,.slice ce ao.2.2.1.length cf,.slice cg ao.2.2.2.1.length ch,.slice ci ao.2.2.2.2.length cj]∧[18].map f=[.int .i64 b6]) bc.length ⟨_,0,_,_,_,_,_,_,_,_,rfl,rfl,hm,ab,aa,af,ag,ah,ac,hb2,ad,ae,hb3,ap,hb4,(db.gr a3).kp a4,(dc.gr a3).kp a4,ba,hb1,rfl⟩ ?_;clear hm;intro n f av hI;obtain ⟨ai,b6,dd,de,df,cn,dg,dh,co,b8,hn,hl,hm,ab,aa,af,ag,ah,ac,hb2,ad,ae,hb3,ap,hb4,cp,cq,ba,hb1,hs⟩:=hI;subst hn;refine .lL [18] hs ?_
 cases b8 with
 | nil=>
  have hk:¬ ((b6:Int)<(bc.length:Int)):=by have:=aG.1 hl;omega
  have hkb:=decide_eq_false hk;rw [Zdi.eq_1] at hm;refine go ?_;refine X0 (congrArg Value.bool hkb)<|go ?_;refine lV _ (Z8 isAgg39 sizeOf39 ba)<|lV _ (Z8 isAgg39 sizeOf39 hb3) ?_;obtain ⟨a8,ed,hm⟩:=bZ hm;refine Zi (Zue 5 6 ed (((cp.toSlF (Zh.int .u32)).froz 3).froz 999) (((cq.froz 2).toSlF (Zh.int .u32)).froz 999) (((ad.froz 2).froz 3).toSlF (Zh.int .u32)) (((ae.froz 2).froz 3).toSlF (Zh.int .u32))) ?_;rintro _ f0 ⟨ee,cr,cs,ct,cu,rfl,aw,al,am⟩;refine ⟨_,rfl,?_⟩;replace al:=al.thaw (Z1 .u32) aw ((((Fz.refl (col:=ai)).froz 2).froz 3).froz 999);replace am:=am.thaw (Z1 .u32) aw ((((Fz.refl (col:=ai)).froz 2).froz 3).froz 999);replace aw:=aw.thawR (col:=ai);generalize Xc av.heap.size ai ee=f1 at *;refine lM (.tuple #[(.agg #[.bool a8.1.1.1,.slice cr a8.1.1.2.length cs,.slice ct a8.1.2.length cu]),.int .i64 a8.2])<|lV (.agg #[.bool a8.1.1.1,.slice cr a8.1.1.2.length cs,.slice ct a8.1.2.length cu]) (Xo rfl rfl)<|lV (.int .i64 a8.2) (Xo rfl rfl) ?_;replace ba:=ba.gr aw;refine Zy ba ?_;intro f2 a5 ef aq;refine go ?_;replace ap:=(ap.gr aw).kp a5;replace aa:=(aa.gr aw).kp a5;replace ad:=(ad.gr aw).kp a5;replace ae:=(ae.gr aw).kp a5;replace af:=(af.gr aw).kp a5;replace ag:=(ag.gr aw).kp a5;replace ah:=(ah.gr aw).kp a5;replace ac:=(ac.gr aw).kp a5;replace hb2:=(hb2.gr aw).kp a5;replace hb3:=(hb3.gr aw).kp a5;replace hb4:=(hb4.gr aw).kp a5;replace hb1:=(hb1.gr aw).kp a5;replace ab:=(ab.grow aw).kp a5 ef;replace al:=al.kp a5;replace am:=am.kp a5
  refine Zv [4,40,41,7,1000000] (fun n f ax=>∃ ar bm bn bg bh b9,n=b9.length∧bc.drop bh=b9∧Zb4 N a8 b9 bh bg=some r∧St w0 (Xh [qc4,aj] col) ar ax∧Zb (Za.row 39 (Za.pair (Za.pair Za.bool (Za.slice rU)) (Za.slice rU))) 114 441 ar ax bm bn bg∧Zg 25 440 ar ax g4 #[.slice bm bg.length bn]∧Zb rI 3 1 ar ax dz d0 bc∧Zb rU 95 5 ar ax cr cs a8.1.1.2∧Zb rU 95 6 ar ax ct cu a8.1.2∧Zg 39 4 ar ax d1 #[.bool a8.1.1.1,.slice cr a8.1.1.2.length cs,.slice ct a8.1.2.length cu]∧Zb Za.str 9 999 ar ax bs bt ak.2.1∧Zb (Za.row 9 Za.str) 22 999 ar ax bu bv ak.2.2.1∧Zb (Za.row 3 rI) 33 999 ar ax bw bx ak.2.2.2.1∧Zb (Za.row 39 (Za.pair (Za.pair Za.bool (Za.row 95 rU)) (Za.row 95 rU))) 114 999 ar ax bz b0 ak.2.2.2.2∧Zg 27 999 ar ax g2 #[.string ak.1,.slice bs ak.2.1.length bt,.slice bu ak.2.2.1.length bv,.slice bw ak.2.2.2.1.length bx,.slice bz ak.2.2.2.2.length b0]∧Zb rU 95 999 ar ax b1 b2 az.1.2∧Zb rU 95 999 ar ax b3 b4 az.2∧Zg 39 999 ar ax g3 #[.bool az.1.1,.slice b1 az.1.2.length b2,.slice b3 az.2.length b4]∧Zg 27 999 ar ax g1 #[.string ao.1,.slice cc ao.2.1.length cd,.slice ce ao.2.2.1.length cf,.slice cg ao.2.2.2.1.length ch,.slice ci ao.2.2.2.2.length cj]∧[42].map f=[.int .i64 bh]) bc.length ⟨_,_,_,_,0,_,rfl,rfl,hm,ab,ap,hb4,aa,al,am,aq,af,ag,ah,ac,hb2,ad,ae,hb3,hb1,rfl⟩ ?_;clear hm;intro n f ax hI;obtain ⟨ar,bm,bn,bg,bh,b9,hn,hl,hm,ab,di,hb4,aa,al,am,aq,af,ag,ah,ac,hb2,ad,ae,hb3,hb1,hs⟩:=hI;subst hn;refine .lL [42] hs ?_
  cases b9 with
  | nil=>
   have hk:¬ ((bh:Int)<(bc.length:Int)):=by have:=aG.1 hl;omega
   have hkb:=decide_eq_false hk;rw [Zb4.eq_1] at hm;refine go ?_;refine X0 (congrArg Value.bool hkb)<|go ?_;cases hm;exact ⟨rfl,Sn w0.heap.size [qc4,aj] col ar (fun n=>bif aI n 441 then aj else bif aI n 440 then qc4 else 0),bm,bn,rfl,ab.finL rfl (fun n=>bif aI n 441 then aj else bif aI n 440 then qc4 else 0),ab.finOwnL (g:=(fun n=>bif aI n 441 then aj else bif aI n 440 then qc4 else 0)) rfl di (by decide) (by decide) rfl,ab.finBoxL (g:=(fun n=>bif aI n 441 then aj else bif aI n 440 then qc4 else 0)) hb4 (by decide) (by decide) rfl⟩
  | cons eg eh=>
   obtain ⟨bq,ei,ej⟩:=Yf hl;have hk:(bh:Int)<(bc.length:Int):=by omega
   have hkb:=decide_eq_true hk;rw [Zb4.eq_2] at hm;refine go ?_;refine X1 (congrArg Value.bool hkb)<|go ?_;refine lI bq (aa.addr bq)<|lW (aa.atInt bq) ?_;refine go ?_;refine Y8 (col:=ar) [(0,0),(1,1),(2,1),(3,0),(4,1),(5,0),(6,1),(7,1),(8,0),(9,1),(10,1),(11,0),(12,0),(13,3),(14,1),(15,2)] (by kernel_rfl) (by kernel_rfl)<|xW (fun _ hC=>hb4.at1.gr (hC.bl ar)) ?_;refine xu rfl rfl (fun _=>Yq rfl) ?_;obtain ⟨dj,b7,hm⟩:=bZ hm;refine xu rfl rfl (fun _=>Yu underlying25 sizeOf114 rfl rfl (Xa b7).1 (Xa b7).2.1 (di.addr b7)) ?_;obtain ⟨_,bd,a6,ay,ek⟩:=di.open_ 7 (by decide) b7;obtain ⟨d2,d3,rfl,bb⟩:=ek.row;replace ay:Y7 (Za.row 39 (Za.pair (Za.pair Za.bool (Za.slice rU)) (Za.slice rU))) 114 441 bd ax bm bn bg (aA (bh:Int)) [.slice d2 dj.length d3]:=ay;refine xW (fun _ hC=>ay.atN.one.gr (hC.bl bd)) ?_;refine xu rfl rfl (fun _=>Yq rfl) ?_;replace hb4:=hb4.kpp a6;refine xW (fun _ hC=>hb4.at1.gr (hC.bl bd)) ?_;refine xu rfl rfl (fun _=>Yq rfl) ?_;refine xu rfl rfl (fun _=>Yu underlying25 sizeOf114 rfl rfl (Xa b7).1 (Xa b7).2.1 (ay.addr)) ?_;refine xW (fun _ hC=>ay.atN.one.gr (hC.bl bd)) ?_;refine xu rfl rfl (fun _=>Yq rfl) ?_;obtain ⟨dl,bo,hm⟩:=bZ hm;refine xu rfl rfl (fun _=>Yu underlying114 sizeOf39 rfl rfl (Xa bo).1 (Xa bo).2.1 (bb.addr bo)) ?_;obtain ⟨_,el,em⟩:=bb.atN bo;obtain ⟨_,_,rfl,en,eo⟩:=el.parts;obtain ⟨_,_,rfl,ep,eq⟩:=en.parts;obtain rfl:=ep.bool;obtain ⟨er,es,rfl,dm⟩:=eq.slice;obtain ⟨et,eu,rfl,dn⟩:=eo.slice;refine xv (v:=(.agg #[.bool dl.1.1,.slice er dl.1.2.length es,.slice et dl.2.length eu])) rfl rfl (fun _ hC=>Y9 isAgg39 sizeOf39 rfl rfl (em.gr (hC.bl bd))) ?_;replace aq:=aq.kpp a6;refine xv rfl rfl (fun _ hC=>Z8 isAgg39 sizeOf39 (aq.gr (hC.bl bd))) ?_;refine xe rfl rfl ?_;intro ew hC0;have hC:=hC0.bl bd;obtain ⟨bi,ey,hm⟩:=bZ hm;replace al:=(al.kpp a6).gr hC;replace am:=(am.kpp a6).gr hC;refine Zi (Zgw 8 9 ey (((dm.gr hC).froz 5).froz 6) (((dn.gr hC).froz 5).froz 6) ((al.toSlF (Zh.int .u32)).froz 6) ((am.froz 5).toSlF (Zh.int .u32))) ?_;rintro _ f3 ⟨ez,e0,e1,e2,e3,rfl,an,bj,bk⟩;refine ⟨_,rfl,?_⟩
   replace bj:=bj.thaw (Z1 .u32) an (((Fz.refl (col:=bd)).froz 5).froz 6);replace bk:=bk.thaw (Z1 .u32) an (((Fz.refl (col:=bd)).froz 5).froz 6);replace an:=an.thawR (col:=bd);generalize Xc ew.heap.size bd ez=bp at *;refine Zk<|Xj bp hC0 an ?_;replace bb:=(bb.gr hC).gr an;refine xu rfl rfl (fun _=>Yu underlying114 sizeOf39 rfl rfl (Xa bo).1 (Xa bo).2.1 (bb.addr bo)) ?_;refine xe rfl rfl ?_;intro f4 hC0;replace aa:=((aa.kpp a6).gr hC).gr an;replace af:=((af.kpp a6).gr hC).gr an;replace ag:=((ag.kpp a6).gr hC).gr an;replace ah:=((ah.kpp a6).gr hC).gr an;replace ac:=((ac.kpp a6).gr hC).gr an;replace ad:=((ad.kpp a6).gr hC).gr an;replace ae:=((ae.kpp a6).gr hC).gr an;replace hb2:=((hb2.kpp a6).gr hC).gr an;replace hb3:=((hb3.kpp a6).gr hC).gr an;replace hb1:=((hb1.kpp a6).gr hC).gr an;replace ab:=((ab.kpp a6).grow hC).grow an;replace ay:=(ay.gr hC).gr an;replace hb4:=(hb4.gr hC).gr an;replace aq:=(aq.gr hC).gr an;have hC:=hC0.bl bp;replace ay:=ay.gr hC;replace ay:=ay.froz 9;replace bb:=bb.gr hC;replace bb:=bb.froz 9;replace aa:=aa.gr hC;replace aa:=aa.froz 9;replace al:=(al.gr an).gr hC;replace al:=al.froz 9;replace am:=(am.gr an).gr hC;replace am:=am.froz 9;replace bj:=bj.gr hC;replace bj:=bj.froz 9;replace bk:=bk.gr hC;replace bk:=(bk).toSlF (Zh.int .u32);replace af:=af.gr hC;replace af:=af.froz 9;replace ag:=ag.gr hC;replace ag:=ag.froz 9;replace ah:=ah.gr hC;replace ah:=ah.froz 9;replace ac:=ac.gr hC;replace ac:=ac.froz 9;replace ad:=ad.gr hC;replace ad:=ad.froz 9;replace ae:=ae.gr hC;replace ae:=ae.froz 9;replace hb4:=hb4.gr hC;replace hb4:=hb4.froz 9;replace aq:=aq.gr hC;replace aq:=aq.froz 9;replace hb2:=hb2.gr hC;replace hb2:=hb2.froz 9;replace hb3:=hb3.gr hC;replace hb3:=hb3.froz 9;replace hb1:=hb1.gr hC;replace hb1:=hb1.froz 9;replace ab:=ab.grow hC;replace ab:=ab.froz 9 (by decide) (by decide);replace ay:=ay.froz 8;replace aa:=aa.froz 8;replace al:=al.froz 8;replace am:=am.froz 8;replace af:=af.froz 8;replace ag:=ag.froz 8
   replace ah:=ah.froz 8;replace ac:=ac.froz 8;replace ad:=ad.froz 8;replace ae:=ae.froz 8;replace hb4:=hb4.froz 8;replace aq:=aq.froz 8;replace hb2:=hb2.froz 8;replace hb3:=hb3.froz 8;replace hb1:=hb1.froz 8;replace ab:=ab.froz 8 (by decide) (by decide);obtain ⟨ca,cv,hm⟩:=bZ hm;have cv:ca=dj.set (aA eg) ((bi.1.1,bi.1.2),bi.2):=(Option.some.inj cv).symm;refine Zq5 (x1:=((bi.1.1,bi.1.2),bi.2)) (v:=(.agg #[.bool bi.1.1,.slice e0 bi.1.2.length e1,.slice e2 bi.2.length e3])) (bb.froz 8) bo rfl sizeOf39 (Zgh (Zgh (Zai bi.1.1) (Zl3 ((bj).toSlF (Zh.int .u32)))) (Zl3 (bk.froz 8))) rfl rfl (by decide) ?_;intro cw a1 e4 d4;rw [← cv] at d4;replace hb4:=hb4.kp a1;replace hb4:Zg 25 440 (Xp 8 (Xp 9 bp)) cw g4 #[.slice bm bg.length bn]:=by rw [];exact hb4
   replace ay:=ay.kp a1;replace ay:Y7 (Za.row 39 (Za.pair (Za.pair Za.bool (Za.slice rU)) (Za.slice rU))) 114 441 (Xp 8 (Xp 9 bp)) cw bm bn bg (aA (bh:Int)) [.slice d2 ca.length d3]:=by rw [← (show dj.length=ca.length by rw [cv,nS])];exact ay
   refine Zk ?_;refine ⟨fun w'=>Zf (Xp 8 (Xp 9 bp)) cw (Xp 8 (Xp 9 bp)) w',Zf.refl _ _,fun h=>absurd h (by decide),?_⟩;have dp:=ay.close d4.has (by decide) (by decide);replace aa:=aa.kp a1;replace aa:=aa.recol 7 441;replace al:=al.kp a1;replace al:=al.recol 7 441;replace am:=am.kp a1;replace am:=am.recol 7 441;replace af:=af.kp a1;replace af:=af.recol 7 441;replace ag:=ag.kp a1;replace ag:=ag.recol 7 441;replace ah:=ah.kp a1;replace ah:=ah.recol 7 441;replace ac:=ac.kp a1;replace ac:=ac.recol 7 441;replace ad:=ad.kp a1;replace ad:=ad.recol 7 441;replace ae:=ae.kp a1;replace ae:=ae.recol 7 441;replace hb4:=hb4.recol 7 441;replace aq:=aq.kp a1;replace aq:=aq.recol 7 441;replace hb2:=hb2.kp a1;replace hb2:=hb2.recol 7 441;replace hb3:=hb3.kp a1;replace hb3:=hb3.recol 7 441;replace hb1:=hb1.kp a1;replace hb1:=hb1.recol 7 441;replace ab:=ab.kp a1 e4;replace ab:=ab.recol 7 441 (by decide) (by decide);replace hb4:Zg 25 440 (Xu 7 441 (Xp 8 (Xp 9 bp))) cw g4 #[(.slice bm ((bg.set (aA (bh:Int)) ca).length) bn)]:=by rw [← (show bg.length=(bg.set (aA (bh:Int)) ca).length by simp only [nS])];exact hb4
   refine Yz ?_;intro f5 hC;replace hC:=hC.bl (Xu 7 441 (Xp 8 (Xp 9 bp)));refine go ?_;replace aa:=aa.gr hC;replace af:=af.gr hC;replace ag:=ag.gr hC;replace ah:=ah.gr hC;replace ac:=ac.gr hC;replace ad:=ad.gr hC;replace ae:=ae.gr hC;replace hb4:=hb4.gr hC;replace hb2:=hb2.gr hC;replace hb3:=hb3.gr hC;replace hb1:=hb1.gr hC;replace ab:=ab.grow hC;exact ⟨eh.length,by simp,rfl,⟨_,_,_,_,_,_,rfl,ei,hm,ab,dp.gr hC,hb4,aa,al.gr hC,am.gr hC,aq.gr hC,af,ag,ah,ac,hb2,ad,ae,hb3,hb1,(Yl (congrArg (Value.int .i64) (Yi (aE ej aa.len))) rfl)⟩⟩
 | cons f6 e5=>
  obtain ⟨bq,e6,e7⟩:=Yf hl;have hk:(b6:Int)<(bc.length:Int):=by omega
  have hkb:=decide_eq_true hk;rw [Zdi.eq_2] at hm;refine go ?_;refine X1 (congrArg Value.bool hkb)<|go ?_;refine lI bq (aa.addr bq)<|lW (aa.atInt bq) ?_;refine go ?_;refine Y8 (col:=ai) [(0,0),(1,1),(2,0),(3,1),(4,1),(5,0),(6,1),(7,1),(8,0),(9,3),(10,2)] (by kernel_rfl) (by kernel_rfl)<|xv rfl rfl (fun _ hC=>Z8 isAgg39 sizeOf39 (ba.gr (hC.bl ai))) ?_;refine xF ⟨_,_,rfl⟩ ?_;refine xW (fun _ hC=>((hb2.atN).nth (q:=4) rfl).gr (hC.bl ai)) ?_;refine xu rfl rfl (fun _=>Yq rfl) ?_;obtain ⟨f7,cx,hm⟩:=bZ hm;refine xu rfl rfl (fun _=>Yu underlying25 sizeOf114 rfl rfl (Xa cx).1 (Xa cx).2.1 (ac.addr cx)) ?_;obtain ⟨_,e8,e9⟩:=ac.atN cx;obtain ⟨f8,f9,rfl,d5⟩:=e8.row;refine xW (fun _ hC=>e9.one.gr (hC.bl ai)) ?_;refine xu rfl rfl (fun _=>Yq rfl) ?_;obtain ⟨dq,cy,hm⟩:=bZ hm;refine xu rfl rfl (fun _=>Yu underlying114 sizeOf39 rfl rfl (Xa cy).1 (Xa cy).2.1 (d5.addr cy)) ?_;obtain ⟨_,fa,fb⟩:=d5.atN cy;obtain ⟨_,_,rfl,fc,fd⟩:=fa.parts;obtain ⟨_,_,rfl,fe,ff⟩:=fc.parts;obtain rfl:=fe.bool;obtain ⟨fg,fh,rfl,dr⟩:=ff.row;obtain ⟨fi,fj,rfl,ds⟩:=fd.row;refine xv (v:=(.agg #[.bool dq.1.1,.slice fg dq.1.2.length fh,.slice fi dq.2.length fj])) rfl rfl (fun _ hC=>Y9 isAgg39 sizeOf39 rfl rfl (fb.gr (hC.bl ai))) ?_;refine xe rfl rfl ?_;intro fk hC0;have hC:=hC0.bl ai;obtain ⟨ga,fl,hm⟩:=bZ hm;refine Zi (Zp3 10 11 fl ((((cp.gr hC).toSlF (Zh.int .u32)).froz 3).froz 999) ((((cq.gr hC).froz 2).toSlF (Zh.int .u32)).froz 999) ((((dr.gr hC).froz 2).froz 3).toSlF (Zh.int .u32)) ((((ds.gr hC).froz 2).froz 3).toSlF (Zh.int .u32))) ?_;rintro _ gb ⟨fm,gc,gd,ge,gf,rfl,au,be,bf⟩;refine ⟨_,rfl,?_⟩;replace be:=be.thaw (Z1 .u32) au ((((Fz.refl (col:=ai)).froz 2).froz 3).froz 999);replace bf:=bf.thaw (Z1 .u32) au ((((Fz.refl (col:=ai)).froz 2).froz 3).froz 999);replace au:=au.thawR (col:=ai);generalize Xc fk.heap.size ai fm=cz at *;refine Zk<|Xj cz hC0 au<|xe rfl rfl ?_;intro gg hC0;replace aa:=(aa.gr hC).gr au;replace af:=(af.gr hC).gr au;replace ag:=(ag.gr hC).gr au;replace ah:=(ah.gr hC).gr au
  replace ac:=(ac.gr hC).gr au;replace ad:=(ad.gr hC).gr au;replace ae:=(ae.gr hC).gr au;replace ap:=(ap.gr hC).gr au;replace hb2:=(hb2.gr hC).gr au;replace hb3:=(hb3.gr hC).gr au;replace hb4:=(hb4.gr hC).gr au;replace ba:=(ba.gr hC).gr au;replace hb1:=(hb1.gr hC).gr au;replace ab:=(ab.grow hC).grow au;have hC:=hC0.bl cz;refine Zy (ba.gr hC) ?_;intro gh a7 fn br;refine Zk<|xk cz<|Yz ?_;replace aa:=(aa.gr hC).kp a7;replace af:=(af.gr hC).kp a7;replace ag:=(ag.gr hC).kp a7;replace ah:=(ah.gr hC).kp a7;replace ac:=(ac.gr hC).kp a7;replace ad:=(ad.gr hC).kp a7;replace ae:=(ae.gr hC).kp a7;replace ap:=(ap.gr hC).kp a7;replace be:=(be.gr hC).kp a7;replace bf:=(bf.gr hC).kp a7;replace hb2:=(hb2.gr hC).kp a7;replace hb3:=(hb3.gr hC).kp a7;replace hb4:=(hb4.gr hC).kp a7;replace hb1:=(hb1.gr hC).kp a7;replace ab:=(ab.grow hC).kp a7 fn;intro gi hC;replace hC:=hC.bl cz;refine go ?_;replace aa:=aa.gr hC;replace aa:=aa.recol 10 2;replace af:=af.gr hC;replace af:=af.recol 10 2;replace ag:=ag.gr hC;replace ag:=ag.recol 10 2;replace ah:=ah.gr hC;replace ah:=ah.recol 10 2;replace ac:=ac.gr hC;replace ac:=ac.recol 10 2;replace ad:=ad.gr hC;replace ad:=ad.recol 10 2;replace ae:=ae.gr hC;replace ae:=ae.recol 10 2;replace ap:=ap.gr hC;replace ap:=ap.recol 10 2;replace be:=be.gr hC;replace be:=be.recolSelf 2 (by decide);replace bf:=bf.gr hC;replace bf:=bf.recol 10 2;replace hb2:=hb2.gr hC;replace hb2:=hb2.recol 10 2;replace hb3:=hb3.gr hC;replace hb3:=hb3.recol 10 2;replace hb4:=hb4.gr hC;replace hb4:=hb4.recol 10 2;replace br:=br.gr hC;replace br:=br.recol 10 2;replace hb1:=hb1.gr hC;replace hb1:=hb1.recol 10 2;replace ab:=ab.grow hC;replace ab:=ab.recol 10 2 (by decide) (by decide);replace aa:=aa.recol 11 3;replace bf:=bf.recolSelf 3 (by decide);replace hb1:=hb1.recol 11 3
  replace ab:=ab.recol 11 3 (by decide) (by decide);exact ⟨e5.length,by simp,rfl,⟨_,_,_,_,_,_,_,_,_,_,rfl,e6,hm,ab,aa,af.recol 11 3,ag.recol 11 3,ah.recol 11 3,ac.recol 11 3,hb2.recol 11 3,ad.recol 11 3,ae.recol 11 3,hb3.recol 11 3,ap.recol 11 3,hb4.recol 11 3,be.recol 11 3,bf,br.recol 11 3,hb1,(Yl (congrArg (Value.int .i64) (Yi (aE e7 aa.len))) rfl)⟩⟩
theorem Z6z:Wa prog 3 1 8:=⟨Tryz.t3,_,rfl,rfl,rfl,rfl,rfl⟩
def Zdl (N:Nat) (ab:ByteArray) (ac:List ByteArray) (ad:List R3) (ae:List R2) (af:List R4) (ag:ByteArray) (ah:List ByteArray) (ai:List R3) (aj:List R2) (ak:List R4) (al:Bool) (am:List Int) (an:List Int) (ap:List R4) (kk_L2:(List Int→ByteArray→R3→Rg→R7→R9→ByteArray→R3→Rg→R7→R9→Bool→R2→R2→R9→Option R9)) (aq:Int×List Int):List Int→Nat→R2→Option R9
  | [],ao,aa=>(Zhu N aa (ab,ac,ad,ae,af) (ag,ah,ai,aj,ak) ((al,am),an) ap).bind fun au=>kk_L2 aa ab ac ad ae af ag ah ai aj ak al am an au
  | ar :: av,ao,aa=>(Zl aq.2 (ao:Int)).bind fun aw=>(Zl aa ar).bind fun ay=>(some (aa.set (aA ar) aw)).bind fun ax=>(Zdl N ab ac ad ae af ag ah ai aj ak al am an ap kk_L2 aq av) (ao+1) ax
termination_by structural x=>x
def Zba (N:Nat) (ab:List Int):List R6→R2→ByteArray→R3→Rg→R7→R9→ByteArray→R3→Rg→R7→R9→Bool→R2→R2→R9→Option R9
  | [],ac,ad,ae,af,ag,ah,ai,aj,ak,al,am,an,ao,ap,aa=>some aa
  | aq :: ar,ac,ad,ae,af,ag,ah,ai,aj,ak,al,am,an,ao,ap,aa=>Zdl N ad ae af ag ah ai aj ak al am an ao ap aa (Zba N ab ar) aq ab 0 ac
termination_by structural x=>x
def Zhx (aa:Nat) (kk_L1:(Nat→R2→R2→Option R9)) (ab:List Int) (ac:List Int):Option R9:=
  kk_L1 (aa+1) ab ac
def Q7 (N:Nat) (ag:R0) (ah:List Int) (aa:R0) (ab:R0) (af:R1) (ai:R9):List Int→Nat→R2→R2→Option R9
  | [],ac,ad,ae=>(Sz ah).bind fun al=>(Zi8 N ae).bind fun am=>Zba N ad am al aa.1 aa.2.1 aa.2.2.1 aa.2.2.2.1 aa.2.2.2.2 ab.1 ab.2.1 ab.2.2.1 ab.2.2.2.1 ab.2.2.2.2 af.1.1 af.1.2 af.2 ai
  | an :: ak,ac,ad,ae=>if (decide (an<0))=true then (Z4 ((ad.length+[(ac:Int)].length) * 8≤140737488355328∧ad.length+[(ac:Int)].length≤maxLen) ((Zl ag.2.2.1 (ac:Int)).bind fun aj=>Z4 ((ae.length+[(aj.length:Int)].length) * 8≤140737488355328∧ae.length+[(aj.length:Int)].length≤maxLen) (Zhx ac (Q7 N ag ah aa ab af ai ak) (ad++[(ac:Int)]) (ae++[(aj.length:Int)])))) else (Zhx ac (Q7 N ag ah aa ab af ai ak) ad ae)
termination_by structural x=>x
def Zhw (N:Nat) (ab:R0) (aa:List Int) (ac:R0) (ad:R0) (ae:R1) (af:R9):Option R9:=
  Q7 N ab aa ac ad ae af aa 0 ([]:List Int) ([]:List Int)
theorem Z4k {N dx dy dz d0 dp g3 d1 d2 d3 d4 g4 c4 c5 c6 c7 g5 c8 c9 g6 da:Nat} {d5 d6 d7 d8 a1 d9 ea eb ec db dc dd de df dg dh:Option Addr} {col:Zd} {w0:World} {ag:R0} {b8:R2} {ah ab:R0} {aq:R1} {b9 r:R9} (qc3 qc4 er es et eu qc5 ew ey qc6 ae:Nat) (hm:Zhw N ag b8 ah ab aq b9=some r) (hd:U4 [qc6,ae]=true) (hqqc3:qc3≠0∧pS [qc6,ae] qc3=false) (hqqc4:qc4≠0∧pS [qc6,ae] qc4=false) (fk:er≠0∧pS [qc6,ae] er=false) (fl:es≠0∧pS [qc6,ae] es=false) (fm:et≠0∧pS [qc6,ae] et=false) (fn:eu≠0∧pS [qc6,ae] eu=false) (hqqc5:qc5≠0∧pS [qc6,ae] qc5=false) (fp:ew≠0∧pS [qc6,ae] ew=false) (fq:ey≠0∧pS [qc6,ae] ey=false) (ht:Sl Za.str col w0 d5 dx ag.2.1) (ej:Sl (Za.slice Za.str) col w0 d6 dy ag.2.2.1) (hv:Sl (Za.slice rI) col w0 d7 dz ag.2.2.2.1) (hw:Sl (Za.slice (Za.pair (Za.pair Za.bool (Za.slice rU)) (Za.slice rU))) col w0 d8 d0 ag.2.2.2.2) (h1:Sl rI col w0 a1 dp b8) (ez:Sl Za.str col w0 d9 d1 ah.2.1) (e0:Sl (Za.slice Za.str) col w0 ea d2 ah.2.2.1) (e1:Sl (Za.slice rI) col w0 eb d3 ah.2.2.2.1) (e2:Sl (Za.slice (Za.pair (Za.pair Za.bool (Za.slice rU)) (Za.slice rU))) col w0 ec d4 ah.2.2.2.2) (hb3:Zg 27 qc3 col w0 g3 #[.string ah.1,.slice d9 ah.2.1.length d1,.slice ea ah.2.2.1.length d2,.slice eb ah.2.2.2.1.length d3,.slice ec ah.2.2.2.2.length d4]) (bj:Zb Za.str 9 er col w0 db c4 ab.2.1) (bk:Zb (Za.row 9 Za.str) 22 es col w0 dc c5 ab.2.2.1) (bm:Zb (Za.row 3 rI) 33 et col w0 dd c6 ab.2.2.2.1) (bn:Zb (Za.row 39 (Za.pair (Za.pair Za.bool (Za.row 95 rU)) (Za.row 95 rU))) 114 eu col w0 de c7 ab.2.2.2.2) (hb4:Zg 27 qc4 col w0 g4 #[.string ab.1,.slice db ab.2.1.length c4,.slice dc ab.2.2.1.length c5,.slice dd ab.2.2.2.1.length c6,.slice de ab.2.2.2.2.length c7]) (bo:Zb rU 95 ew col w0 df c8 aq.1.2) (bp:Zb rU 95 ey col w0 dg c9 aq.2) (hb5:Zg 39 qc5 col w0 g5 #[.bool aq.1.1,.slice df aq.1.2.length c8,.slice dg aq.2.length c9]) (bq:Zb (Za.row 39 (Za.pair (Za.pair Za.bool (Za.slice rU)) (Za.slice rU))) 114 ae col w0 dh da b9) (hb6:Zg 25 qc6 col w0 g6 #[.slice dh b9.length da]):
    Calls prog 109 #[(.agg #[.string ag.1,.slice d5 ag.2.1.length dx,.slice d6 ag.2.2.1.length dy,.slice d7 ag.2.2.2.1.length dz,.slice d8 ag.2.2.2.2.length d0]),.slice a1 b8.length dp,(.func (.func 110) #[] #[.pointer (some ⟨g3,0,none⟩),.pointer (some ⟨g4,0,none⟩),.pointer (some ⟨g5,0,none⟩),.pointer (some ⟨g6,0,none⟩)])] w0 (fun e w'=>∃ (col':Zd) (oa1:Option Addr) (oc2:Nat),e= .returned (.tuple #[])∧Zt (pS [qc6,ae]) col w0 col' w'∧Zb (Za.row 39 (Za.pair (Za.pair Za.bool (Za.slice rU)) (Za.slice rU))) 114 ae col' w' oa1 oc2 r∧Zg 25 qc6 col' w' g6 #[.slice oa1 r.length oc2]):=by
 refine Zqe (mc:=499) (m:=62) (args:=[(.agg #[.string ag.1,.slice d5 ag.2.1.length dx,.slice d6 ag.2.2.1.length dy,.slice d7 ag.2.2.2.1.length dz,.slice d8 ag.2.2.2.2.length d0]),.slice a1 b8.length dp,(.func (.func 110) #[] #[.pointer (some ⟨g3,0,none⟩),.pointer (some ⟨g4,0,none⟩),.pointer (some ⟨g5,0,none⟩),.pointer (some ⟨g6,0,none⟩)])]) func109 rfl rfl rfl rfl ?_;rw [Zhw.eq_1] at hm;have aa:=St.startL (l:=[qc6,ae]) rfl col w0;replace hb3:=hb3.startB hqqc3.1 hqqc3.2;replace hb4:=hb4.startB hqqc4.1 hqqc4.2;replace bj:=bj.startB fk.1 fk.2;replace bk:=bk.startB fl.1 fl.2;replace bm:=bm.startB fm.1 fm.2;replace bn:=bn.startB fn.1 fn.2;replace hb5:=hb5.startB hqqc5.1 hqqc5.2;replace bo:=bo.startB fp.1 fp.2;replace bp:=bp.startB fq.1 fq.2;replace ej:=ej.keep (Xw.startL [qc6,ae] col w0);replace h1:=h1.keep (Xw.startL [qc6,ae] col w0);replace ez:=ez.keep (Xw.startL [qc6,ae] col w0);replace e0:=e0.keep (Xw.startL [qc6,ae] col w0);replace e1:=e1.keep (Xw.startL [qc6,ae] col w0);replace e2:=e2.keep (Xw.startL [qc6,ae] col w0);replace hb6:=hb6.startL (T7 hd 0 rfl) (T6 hd 0 rfl);replace bq:=bq.startL (T7 hd 1 rfl) (T6 hd 1 rfl);have hmk:Y0 499 (Xh [qc6,ae] col) w0 []:=.nil;refine go ?_;refine Xi (col:=(Xh [qc6,ae] col)) 1 rfl ?_;intro fr hx f5 bt bu;refine Zc4 (col:=f5) (v:=(.func (.func 110) #[] #[.pointer (some ⟨g3,0,none⟩),.pointer (some ⟨g4,0,none⟩),.pointer (some ⟨g5,0,none⟩),.pointer (some ⟨g6,0,none⟩)])) 2 rfl rfl ?_;intro ed f6 ft bs ad;replace ad:Zg 137 2 ft f6 ed #[(.func (.func 110) #[] #[.pointer (some ⟨g3,0,none⟩),.pointer (some ⟨g4,0,none⟩),.pointer (some ⟨g5,0,none⟩),.pointer (some ⟨g6,0,none⟩)])]:=ad;refine go ?_;refine Zax (col:=ft) (v:=(nI)) 3 rfl zeroValue33 ?_;intro dq f7 f8 br af;replace af:Zg 33 3 f8 f7 dq #[(nI)]:=af;refine go ?_;replace bj:=((bj.gr bt).gr bs).gr br;replace bk:=((bk.gr bt).gr bs).gr br;replace bm:=((bm.gr bt).gr bs).gr br;replace bn:=((bn.gr bt).gr bs).gr br;replace bo:=((bo.gr bt).gr bs).gr br;replace bp:=((bp.gr bt).gr bs).gr br;replace bq:=((bq.gr bt).gr bs).gr br;replace hb3:=((hb3.gr bt).gr bs).gr br;replace hb4:=((hb4.gr bt).gr bs).gr br;replace hb5:=((hb5.gr bt).gr bs).gr br;replace hb6:=((hb6.gr bt).gr bs).gr br;replace hmk:=((hmk.gr bt).gr bs).gr br;replace aa:=((aa.grow bt).grow bs).grow br
 replace bu:=(bu.gr bs).gr br;replace ad:=ad.gr br;refine Zv [1,15,16,3,5,6,1000000] (fun n f av=>∃ au ca di dj a7 e3 e4 ek ee,n=ee.length∧b8.drop ca=ee∧Q7 N ag b8 ah ab aq b9 ee ca a7 ek=some r∧St w0 (Xh [qc6,ae] col) au av∧Zg 27 1 au av fr #[.string ag.1,.slice d5 ag.2.1.length dx,.slice d6 ag.2.2.1.length dy,.slice d7 ag.2.2.2.1.length dz,.slice d8 ag.2.2.2.2.length d0]∧Zg 27 999 au av g3 #[.string ah.1,.slice d9 ah.2.1.length d1,.slice ea ah.2.2.1.length d2,.slice eb ah.2.2.2.1.length d3,.slice ec ah.2.2.2.2.length d4]∧Zb Za.str 9 999 au av db c4 ab.2.1∧Zb (Za.row 9 Za.str) 22 999 au av dc c5 ab.2.2.1∧Zb (Za.row 3 rI) 33 999 au av dd c6 ab.2.2.2.1∧Zb (Za.row 39 (Za.pair (Za.pair Za.bool (Za.row 95 rU)) (Za.row 95 rU))) 114 999 au av de c7 ab.2.2.2.2∧Zg 27 999 au av g4 #[.string ab.1,.slice db ab.2.1.length c4,.slice dc ab.2.2.1.length c5,.slice dd ab.2.2.2.1.length c6,.slice de ab.2.2.2.2.length c7]∧Zb rU 95 999 au av df c8 aq.1.2∧Zb rU 95 999 au av dg c9 aq.2∧Zg 39 999 au av g5 #[.bool aq.1.1,.slice df aq.1.2.length c8,.slice dg aq.2.length c9]∧Zb (Za.row 39 (Za.pair (Za.pair Za.bool (Za.slice rU)) (Za.slice rU))) 114 441 au av dh da b9∧Zg 25 440 au av g6 #[.slice dh b9.length da]∧Zg 137 2 au av ed #[(.func (.func 110) #[] #[.pointer (some ⟨g3,0,none⟩),.pointer (some ⟨g4,0,none⟩),.pointer (some ⟨g5,0,none⟩),.pointer (some ⟨g6,0,none⟩)])]∧Zb rI 3 4 au av di dj a7∧Zg 33 3 au av dq #[.slice di a7.length dj]∧Zb rI 3 5 au av e3 e4 ek∧Y0 499 au av []∧[17,7].map f=[.int .i64 ca,.slice e3 ek.length e4]) b8.length ⟨_,0,none,0,_,none,0,_,_,rfl,rfl,hm,aa,bu,hb3,bj,bk,bm,bn,hb4,bo,bp,hb5,bq,hb6,ad,Zb.nil,af,Zb.nil,hmk,rfl⟩ ?_;clear hm;intro n f av hI;obtain ⟨au,ca,di,dj,a7,e3,e4,ek,ee,hn,hl,hm,aa,bu,hb3,bj,bk,bm,bn,hb4,bo,bp,hb5,bq,hb6,ad,aj,af,dl,hmk,hs⟩:=hI;subst hn;refine .lL [17,7] hs ?_
 cases ee with
 | nil=>
  have hk:¬ ((ca:Int)<(b8.length:Int)):=by have:=aG.1 hl;omega
  have hkb:=decide_eq_false hk;rw [Q7.eq_1] at hm;refine go ?_;refine X0 (congrArg Value.bool hkb)<|go ?_;obtain ⟨e5,f9,hm⟩:=bZ hm;refine Zi (Zgz 6 f9 (h1.ks aa)) ?_;rintro _ hy ⟨ga,e6,e7,rfl,a3,e8⟩;refine ⟨_,rfl,?_⟩;refine Zax (col:=ga) (v:=(nI)) 7 rfl zeroValue33 ?_;intro ef gb eg ay e9;replace e9:Zg 33 7 eg gb ef #[(nI)]:=e9;refine Sp (v:=(.slice e6 e5.length e7)) e9 sizeOf33 rfl rfl (by intro u hu;simp only [Value.cells,aO,bG,or_false] at hu;subst hu;rfl) rfl rfl ?_;intro fu az gc am;replace am:Zg 33 7 eg fu ef #[.slice e6 e5.length e7]:=am;refine go ?_;obtain ⟨gd,ge,hm⟩:=bZ hm;replace dl:=((dl.gr a3).gr ay).kp az;refine Zi (Zu0 8 ge (dl.toSlF (Zh.int .i64))) ?_;rintro _ hz ⟨gf,h0,rfl,ar,fa⟩;refine ⟨_,rfl,?_⟩;replace fa:=fa.thaw ar ((Fz.refl (col:=eg)).froz 5);replace ar:=ar.thawR (col:=eg);generalize Xc fu.heap.size eg gf=gg at *;refine go ?_;replace bj:=(((bj.gr a3).gr ay).kp az).gr ar;replace bk:=(((bk.gr a3).gr ay).kp az).gr ar;replace bm:=(((bm.gr a3).gr ay).kp az).gr ar;replace bn:=(((bn.gr a3).gr ay).kp az).gr ar;replace bo:=(((bo.gr a3).gr ay).kp az).gr ar;replace bp:=(((bp.gr a3).gr ay).kp az).gr ar;replace bq:=(((bq.gr a3).gr ay).kp az).gr ar;replace aj:=(((aj.gr a3).gr ay).kp az).gr ar;replace ad:=(((ad.gr a3).gr ay).kp az).gr ar;replace hb3:=(((hb3.gr a3).gr ay).kp az).gr ar;replace hb4:=(((hb4.gr a3).gr ay).kp az).gr ar;replace hb5:=(((hb5.gr a3).gr ay).kp az).gr ar;replace hb6:=(((hb6.gr a3).gr ay).kp az).gr ar;replace af:=(((af.gr a3).gr ay).kp az).gr ar;replace hmk:=(((hmk.gr a3).gr ay).kp az).gr ar;replace aa:=(((aa.grow a3).grow ay).kp az gc).grow ar;replace am:=am.gr ar
  refine Zmc (psl:=[42,43]) (arr:=(fun (y:Int×List Int) (col:Zd) (w:World) (args:List Value)=>∃ (a1:Option Addr) (dp:Nat),args=[.int .i64 y.1,.slice a1 y.2.length dp]∧Zb rI 3 8 col w a1 dp y.2)) (ys:=gd) (col:=gg) 498 rfl fa rfl hmk rfl rfl (by rintro _ _ _ _ ⟨_,_,rfl,_⟩;rfl) (fun ys_ ai ak=>∃ (dr:Option Addr) (ds:Nat) (dm:List Int) (cb:ByteArray) (cc:Option Addr) (cd:Nat) (bv:List ByteArray) (ce:Option Addr) (cf:Nat) (bw:List R3) (cg:Option Addr) (ch:Nat) (bx:List R2) (ci:Option Addr) (cj:Nat) (bz:List R4) (ck:ByteArray) (cl:Option Addr) (cn:Nat) (b0:List ByteArray) (co:Option Addr) (cp:Nat) (b1:List R3) (cq:Option Addr) (cr:Nat) (b2:List R2) (cs:Option Addr) (ct:Nat) (b3:List R4) (cu:Bool) (cv:Option Addr) (cw:Nat) (b4:List Int) (cx:Option Addr) (cy:Nat) (b5:List Int) (cz:Option Addr) (c0:Nat) (b6:List R4),Zba N a7 ys_ dm cb bv bw bx bz ck b0 b1 b2 b3 cu b4 b5 b6=some r∧St w0 (Xh [qc6,ae] col) ai ak∧Zb rI 3 6 ai ak dr ds dm∧Zg 33 7 ai ak ef #[.slice dr dm.length ds]∧Sl Za.str ai ak cc cd bv∧Sl (Za.slice Za.str) ai ak ce cf bw∧Sl (Za.slice rI) ai ak cg ch bx∧Sl (Za.slice (Za.pair (Za.pair Za.bool (Za.slice rU)) (Za.slice rU))) ai ak ci cj bz∧Zg 27 999 ai ak g3 #[.string cb,.slice cc bv.length cd,.slice ce bw.length cf,.slice cg bx.length ch,.slice ci bz.length cj]∧Zb Za.str 9 999 ai ak cl cn b0∧Zb (Za.row 9 Za.str) 22 999 ai ak co cp b1∧Zb (Za.row 3 rI) 33 999 ai ak cq cr b2∧Zb (Za.row 39 (Za.pair (Za.pair Za.bool (Za.row 95 rU)) (Za.row 95 rU))) 114 999 ai ak cs ct b3∧Zg 27 999 ai ak g4 #[.string ck,.slice cl b0.length cn,.slice co b1.length cp,.slice cq b2.length cr,.slice cs b3.length ct]∧Zb rU 95 999 ai ak cv cw b4∧Zb rU 95 999 ai ak cx cy b5∧Zg 39 999 ai ak g5 #[.bool cu,.slice cv b4.length cw,.slice cx b5.length cy]∧Zb (Za.row 39 (Za.pair (Za.pair Za.bool (Za.slice rU)) (Za.slice rU))) 114 441 ai ak cz c0 b6∧Zg 25 440 ai ak g6 #[.slice cz b6.length c0]∧Zg 137 2 ai ak ed #[(.func (.func 110) #[] #[.pointer (some ⟨g3,0,none⟩),.pointer (some ⟨g4,0,none⟩),.pointer (some ⟨g5,0,none⟩),.pointer (some ⟨g6,0,none⟩)])]∧Zb rI 3 4 ai ak di dj a7∧Zg 33 3 ai ak dq #[.slice di a7.length dj]) (fun _ _ _=>False) ?_ ?_ ⟨e6,e7,e5,ah.1,d9,d1,ah.2.1,ea,d2,ah.2.2.1,eb,d3,ah.2.2.2.1,ec,d4,ah.2.2.2.2,ab.1,db,c4,ab.2.1,dc,c5,ab.2.2.1,dd,c6,ab.2.2.2.1,de,c7,ab.2.2.2.2,aq.1.1,df,c8,aq.1.2,dg,c9,aq.2,dh,da,b9,hm,aa,((e8.gr ay).kp az).gr ar,am,(ez.ks aa),(e0.ks aa),(e1.ks aa),(e2.ks aa),hb3,bj,bk,bm,bn,hb4,bo,bp,hb5,bq,hb6,ad,aj,af⟩ ?_ ?_ ?_
  ·intro ys_ ai ak col2_ w2_ hJ hk;obtain ⟨dr,ds,dm,cb,cc,cd,bv,ce,cf,bw,cg,ch,bx,ci,cj,bz,ck,cl,cn,b0,co,cp,b1,cq,cr,b2,cs,ct,b3,cu,cv,cw,b4,cx,cy,b5,cz,c0,b6,hm,aa,dt,am,a8,a9,ba,bb,hb3,bc,bd,be,bf,hb4,bg,bh,hb5,bi,hb6,ad,aj,af⟩:=hJ;exact ⟨dr,ds,dm,cb,cc,cd,bv,ce,cf,bw,cg,ch,bx,ci,cj,bz,ck,cl,cn,b0,co,cp,b1,cq,cr,b2,cs,ct,b3,cu,cv,cw,b4,cx,cy,b5,cz,c0,b6,hm,aa.kpp hk rfl rfl,dt.kpp hk rfl rfl,am.kpp hk rfl,a8.kpp hk rfl,a9.kpp hk rfl,ba.kpp hk rfl,bb.kpp hk rfl,hb3.kpp hk rfl,bc.kpp hk rfl rfl,bd.kpp hk rfl rfl,be.kpp hk rfl rfl,bf.kpp hk rfl rfl,hb4.kpp hk rfl,bg.kpp hk rfl rfl,bh.kpp hk rfl rfl,hb5.kpp hk rfl,bi.kpp hk rfl rfl,hb6.kpp hk rfl,ad.kpp hk rfl,aj.kpp hk rfl rfl,af.kpp hk rfl⟩
  ·intro _ _ _ _ _ h _;exact h
  ·intro gh h2 gi fv gj ai ak args hJ hrec hmk harr;obtain ⟨dr,ds,dm,cb,cc,cd,bv,ce,cf,bw,cg,ch,bx,ci,cj,bz,ck,cl,cn,b0,co,cp,b1,cq,cr,b2,cs,ct,b3,cu,cv,cw,b4,cx,cy,b5,cz,c0,b6,hm,aa,dt,am,a8,a9,ba,bb,hb3,bc,bd,be,bf,hb4,bg,bh,hb5,bi,hb6,ad,aj,af⟩:=hJ;rw [Zba.eq_2] at hm;have hki:=Zt.refl (pC 1) ai ak;obtain ⟨gk,gl,rfl,b7⟩:=harr;refine go ?_;refine ⟨_,hrec,?_⟩;intro h3 gm an fw hrec2;have hrec:=hrec2;refine go ?_;replace af:=af.kp an;refine lW af.at1<|go ?_;replace dt:=dt.kp an;replace a8:=a8.kp an;replace a9:=a9.kp an;replace ba:=ba.kp an;replace bb:=bb.kp an;replace bc:=bc.kp an;replace bd:=bd.kp an;replace be:=be.kp an;replace bf:=bf.kp an;replace bg:=bg.kp an;replace bh:=bh.kp an;replace bi:=bi.kp an;replace aj:=aj.kp an;replace b7:=b7.kp an;replace am:=am.kp an;replace ad:=ad.kp an;replace hb3:=hb3.kp an;replace hb4:=hb4.kp an;replace hb5:=hb5.kp an;replace hb6:=hb6.kp an;replace hmk:=hmk.kp an;replace hki:=hki.kp an fw rfl;replace aa:=aa.kp an fw
   refine Zv [10,12,44,45,5,6,1000000] (fun n f al=>∃ ac du dv c1 dw eh,n=eh.length∧a7.drop dw=eh∧Zdl N cb bv bw bx bz ck b0 b1 b2 b3 cu b4 b5 b6 (Zba N a7 gj) fv eh dw c1=some r∧St w0 (Xh [qc6,ae] col) ac al∧Zb rI 3 6 ac al du dv c1∧Zg 33 7 ac al ef #[.slice du c1.length dv]∧Zb rI 3 8 ac al gk gl fv.2∧Zb rI 3 4 ac al di dj a7∧Sl Za.str ac al cc cd bv∧Sl (Za.slice Za.str) ac al ce cf bw∧Sl (Za.slice rI) ac al cg ch bx∧Sl (Za.slice (Za.pair (Za.pair Za.bool (Za.slice rU)) (Za.slice rU))) ac al ci cj bz∧Zg 27 999 ac al g3 #[.string cb,.slice cc bv.length cd,.slice ce bw.length cf,.slice cg bx.length ch,.slice ci bz.length cj]∧Zb Za.str 9 999 ac al cl cn b0∧Zb (Za.row 9 Za.str) 22 999 ac al co cp b1∧Zb (Za.row 3 rI) 33 999 ac al cq cr b2∧Zb (Za.row 39 (Za.pair (Za.pair Za.bool (Za.row 95 rU)) (Za.row 95 rU))) 114 999 ac al cs ct b3∧Zg 27 999 ac al g4 #[.string ck,.slice cl b0.length cn,.slice co b1.length cp,.slice cq b2.length cr,.slice cs b3.length ct]∧Zb rU 95 999 ac al cv cw b4∧Zb rU 95 999 ac al cx cy b5∧Zg 39 999 ac al g5 #[.bool cu,.slice cv b4.length cw,.slice cx b5.length cy]∧Zb (Za.row 39 (Za.pair (Za.pair Za.bool (Za.slice rU)) (Za.slice rU))) 114 441 ac al cz c0 b6∧Zg 25 440 ac al g6 #[.slice cz b6.length c0]∧Zg 137 2 ac al ed #[(.func (.func 110) #[] #[.pointer (some ⟨g3,0,none⟩),.pointer (some ⟨g4,0,none⟩),.pointer (some ⟨g5,0,none⟩),.pointer (some ⟨g6,0,none⟩)])]∧Zg 33 3 ac al dq #[.slice di a7.length dj]∧Wv 498 ac al gh gm∧Y0 499 ac al gi∧Zt (pC 1) ai ak ac al∧[46].map f=[.int .i64 dw]) a7.length ⟨_,_,_,_,0,_,rfl,rfl,hm,aa,dt,am,b7,aj,a8,a9,ba,bb,hb3,bc,bd,be,bf,hb4,bg,bh,hb5,bi,hb6,ad,af,hrec,hmk,hki,rfl⟩ ?_;clear hm;intro n f al hI
   obtain ⟨ac,du,dv,c1,dw,eh,hn,hl,hm,aa,c3,am,b7,aj,a8,a9,ba,bb,hb3,bc,bd,be,bf,hb4,bg,bh,hb5,bi,hb6,ad,af,hrec,hmk,hki,hs⟩:=hI;subst hn;refine .lL [46] hs ?_
   cases eh with
   | nil=>
    have hk:¬ ((dw:Int)<(a7.length:Int)):=by have:=aG.1 hl;omega
    have hkb:=decide_eq_false hk;rw [Zdl.eq_1] at hm;refine go ?_;refine X0 (congrArg Value.bool hkb)<|go ?_;refine lW ad.at1<|lW am.at1 ?_;obtain ⟨fx,gp,hm⟩:=bZ hm;refine lc rfl rfl (Zzp call110 rfl rfl) (Z4i N ac _ 6 999 999 999 999 999 999 999 999 999 440 441 rfl ⟨by decide,rfl⟩ ⟨by decide,rfl⟩ ⟨by decide,rfl⟩ ⟨by decide,rfl⟩ ⟨by decide,rfl⟩ ⟨by decide,rfl⟩ ⟨by decide,rfl⟩ ⟨by decide,rfl⟩ ⟨by decide,rfl⟩ ⟨by decide,rfl⟩ du dv c1 g3 (cb,bv,bw,bx,bz) cc cd ce cf cg ch ci cj g4 (ck,b0,b1,b2,b3) cl cn co cp cq cr cs ct g5 ((cu,b4),b5) cv cw cx cy g6 b6 cz c0 c3 a8 a9 ba bb hb3 bc bd be bf hb4 bg bh hb5 bi hb6 fx gp) ?_;rintro _ h4 ⟨h5,gs,gt,rfl,ap,gu,gv⟩;refine ⟨_,rfl,?_⟩;replace c3:=c3.kpp ap;replace a8:=a8.kpp ap;replace a9:=a9.kpp ap;replace ba:=ba.kpp ap;replace bb:=bb.kpp ap;replace bc:=bc.kpp ap;replace bd:=bd.kpp ap;replace be:=be.kpp ap;replace bf:=bf.kpp ap;replace bg:=bg.kpp ap;replace bh:=bh.kpp ap;replace aj:=aj.kpp ap;replace am:=am.kpp ap;replace ad:=ad.kpp ap;replace hb3:=hb3.kpp ap;replace hb4:=hb4.kpp ap;replace hb5:=hb5.kpp ap;replace af:=af.kpp ap;replace hrec:=hrec.kpp ap;replace hmk:=hmk.kpp ap;replace hki:=hki.trans (ap.mono (by first | exact pCo_p2 rfl | exact pCo_p1 rfl | exact Zr1 rfl | exact fun _=>Zr0 | exact fun _ h=>h | exact fun _ _=>rfl));refine Zk ?_;replace aa:=aa.kpp ap;exact ⟨_,hki,⟨du,dv,c1,cb,cc,cd,bv,ce,cf,bw,cg,ch,bx,ci,cj,bz,ck,cl,cn,b0,co,cp,b1,cq,cr,b2,cs,ct,b3,cu,cv,cw,b4,cx,cy,b5,gs,gt,fx,hm,aa,c3,am,a8,a9,ba,bb,hb3,bc,bd,be,bf,hb4,bg,bh,hb5,gu,gv,ad,aj,af⟩,hrec,hmk⟩
   | cons gw gx=>
    obtain ⟨dn,gy,gz⟩:=Yf hl;have hk:(dw:Int)<(a7.length:Int):=by omega
    have hkb:=decide_eq_true hk;rw [Zdl.eq_2] at hm;refine go ?_;refine X1 (congrArg Value.bool hkb)<|go ?_;refine lI dn (aj.addr dn)<|lW (aj.atInt dn) ?_;refine go ?_;refine Y8 (col:=ac) [(0,0),(1,1),(2,1),(3,1),(4,1),(5,0),(6,1),(7,2)] (by kernel_rfl) (by kernel_rfl)<|xW (fun _ hC=>am.at1.gr (hC.bl ac)) ?_;refine xu rfl rfl (fun _=>Yq rfl) ?_;refine xu rfl rfl (fun _=>Ub rfl) ?_;refine xu rfl rfl (fun _=>Yq rfl) ?_;obtain ⟨fy,el,hm⟩:=bZ hm;refine xu rfl rfl (fun _=>Yu underlying33 sizeOf3 rfl rfl (Xa el).1 (Xa el).2.1 (b7.addr el)) ?_;refine xW (fun _ hC=>(b7.gr (hC.bl ac)).atInt el) ?_;obtain ⟨h6,em,hm⟩:=bZ hm;refine xu rfl rfl (fun _=>Yu underlying33 sizeOf3 rfl rfl (Xa em).1 (Xa em).2.1 (c3.addr em)) ?_;refine xe rfl rfl ?_;intro h7 hC0;have hC:=hC0.bl ac;obtain ⟨fb,en,hm⟩:=bZ hm;have en:fb=c1.set (aA gw) fy:=(Option.some.inj en).symm;refine Wl (x1:=fy) (c3.gr hC) em ?_;intro g0 ao fz eo;rw [← en] at eo;replace am:=(am.gr hC).kp ao;replace am:Zg 33 7 ac g0 ef #[.slice du fb.length dv]:=by rw [← (show c1.length=fb.length by rw [en,nS])];exact am
    refine Zk<|xk ac<|Yz ?_;replace b7:=(b7.gr hC).kp ao;replace aj:=(aj.gr hC).kp ao;replace a8:=(a8.gr hC).kp ao;replace a9:=(a9.gr hC).kp ao;replace ba:=(ba.gr hC).kp ao;replace bb:=(bb.gr hC).kp ao;replace bc:=(bc.gr hC).kp ao;replace bd:=(bd.gr hC).kp ao;replace be:=(be.gr hC).kp ao;replace bf:=(bf.gr hC).kp ao;replace bg:=(bg.gr hC).kp ao;replace bh:=(bh.gr hC).kp ao;replace bi:=(bi.gr hC).kp ao;replace ad:=(ad.gr hC).kp ao;replace hb3:=(hb3.gr hC).kp ao;replace hb4:=(hb4.gr hC).kp ao;replace hb5:=(hb5.gr hC).kp ao;replace hb6:=(hb6.gr hC).kp ao;replace af:=(af.gr hC).kp ao;replace hrec:=(hrec.gr hC).kp ao;replace hmk:=(hmk.gr hC).kp ao;replace hki:=(hki.gr hC).kp ao fz rfl;replace aa:=(aa.grow hC).kp ao fz;intro h8 hC;replace hC:=hC.bl ac;refine go ?_;replace aj:=aj.gr hC;replace a8:=a8.gr hC;replace a9:=a9.gr hC;replace ba:=ba.gr hC;replace bb:=bb.gr hC;replace bc:=bc.gr hC;replace bd:=bd.gr hC;replace be:=be.gr hC;replace bf:=bf.gr hC;replace bg:=bg.gr hC;replace bh:=bh.gr hC;replace bi:=bi.gr hC;replace am:=am.gr hC;replace ad:=ad.gr hC;replace hb3:=hb3.gr hC;replace hb4:=hb4.gr hC;replace hb5:=hb5.gr hC;replace hb6:=hb6.gr hC;replace af:=af.gr hC;replace hmk:=hmk.gr hC;replace aa:=aa.grow hC;exact ⟨gx.length,by simp,rfl,⟨_,_,_,_,_,_,rfl,gy,hm,aa,eo.gr hC,am,b7.gr hC,aj,a8,a9,ba,bb,hb3,bc,bd,be,bf,hb4,bg,bh,hb5,bi,hb6,ad,af,hrec.gr hC,hmk,hki.gr hC,(Yl (congrArg (Value.int .i64) (Yi (aE gz aj.len))) rfl)⟩⟩
  ·intro g1 ai ak hJ hmk;obtain ⟨dr,ds,dm,cb,cc,cd,bv,ce,cf,bw,cg,ch,bx,ci,cj,bz,ck,cl,cn,b0,co,cp,b1,cq,cr,b2,cs,ct,b3,cu,cv,cw,b4,cx,cy,b5,cz,c0,b6,hm,aa,dt,am,a8,a9,ba,bb,hb3,bc,bd,be,bf,hb4,bg,bh,hb5,bi,hb6,ad,aj,af⟩:=hJ;rw [Zba.eq_1] at hm;cases hm;refine ⟨_,(g1 :: []),rfl,hmk,?_⟩;intro h9 fc g2;replace hb6:=hb6.kp fc;replace aa:=aa.kp fc g2;exact ⟨Sn w0.heap.size [qc6,ae] col ai (fun n=>bif aI n 441 then ae else bif aI n 440 then qc6 else 0),cz,c0,rfl,aa.finL rfl (fun n=>bif aI n 441 then ae else bif aI n 440 then qc6 else 0),aa.finOwnL (g:=(fun n=>bif aI n 441 then ae else bif aI n 440 then qc6 else 0)) rfl (bi.kp fc) (by decide) (by decide) rfl,aa.finBoxL (g:=(fun n=>bif aI n 441 then ae else bif aI n 440 then qc6 else 0)) hb6 (by decide) (by decide) rfl⟩
  intro _ _ _ _ h;exact h.elim
 | cons ia f0=>
  obtain ⟨dn,g7,g8⟩:=Yf hl;have hk:(ca:Int)<(b8.length:Int):=by omega
  have hkb:=decide_eq_true hk;rw [Q7.eq_2] at hm;refine go ?_;refine X1 (congrArg Value.bool hkb)<|Yj<|Zz ?_;refine Wp.cutK [1,15,16,17,3,5,6,1000000] (fun f aw=>∃ ax fd fe ep ff fg eq,Zhx ca (Q7 N ag b8 ah ab aq b9 f0) ep eq=some r∧St w0 (Xh [qc6,ae] col) ax aw∧Zg 27 1 ax aw fr #[.string ag.1,.slice d5 ag.2.1.length dx,.slice d6 ag.2.2.1.length dy,.slice d7 ag.2.2.2.1.length dz,.slice d8 ag.2.2.2.2.length d0]∧Zg 27 999 ax aw g3 #[.string ah.1,.slice d9 ah.2.1.length d1,.slice ea ah.2.2.1.length d2,.slice eb ah.2.2.2.1.length d3,.slice ec ah.2.2.2.2.length d4]∧Zb Za.str 9 999 ax aw db c4 ab.2.1∧Zb (Za.row 9 Za.str) 22 999 ax aw dc c5 ab.2.2.1∧Zb (Za.row 3 rI) 33 999 ax aw dd c6 ab.2.2.2.1∧Zb (Za.row 39 (Za.pair (Za.pair Za.bool (Za.row 95 rU)) (Za.row 95 rU))) 114 999 ax aw de c7 ab.2.2.2.2∧Zg 27 999 ax aw g4 #[.string ab.1,.slice db ab.2.1.length c4,.slice dc ab.2.2.1.length c5,.slice dd ab.2.2.2.1.length c6,.slice de ab.2.2.2.2.length c7]∧Zb rU 95 999 ax aw df c8 aq.1.2∧Zb rU 95 999 ax aw dg c9 aq.2∧Zg 39 999 ax aw g5 #[.bool aq.1.1,.slice df aq.1.2.length c8,.slice dg aq.2.length c9]∧Zb (Za.row 39 (Za.pair (Za.pair Za.bool (Za.slice rU)) (Za.slice rU))) 114 441 ax aw dh da b9∧Zg 25 440 ax aw g6 #[.slice dh b9.length da]∧Zg 137 2 ax aw ed #[(.func (.func 110) #[] #[.pointer (some ⟨g3,0,none⟩),.pointer (some ⟨g4,0,none⟩),.pointer (some ⟨g5,0,none⟩),.pointer (some ⟨g6,0,none⟩)])]∧Zb rI 3 4 ax aw fd fe ep∧Zg 33 3 ax aw dq #[.slice fd ep.length fe]∧Zb rI 3 5 ax aw ff fg eq∧Y0 499 ax aw []∧[7].map f=[.slice ff eq.length fg]) ?_ ?_
  ·intro f aw hJ;obtain ⟨ax,fd,fe,ep,ff,fg,eq,hm,aa,bu,hb3,bj,bk,bm,bn,hb4,bo,bp,hb5,bq,hb6,ad,g9,af,ha,hmk,hs⟩:=hJ;rw [Zhx.eq_1] at hm;refine .lL [7] hs<|go ?_;exact ⟨f0.length,by simp,rfl,⟨_,_,_,_,_,_,_,_,_,rfl,g7,hm,aa,bu,hb3,bj,bk,bm,bn,hb4,bo,bp,hb5,bq,hb6,ad,g9,af,ha,hmk,(Yl (congrArg (Value.int .i64) (Yi (aE g8 (h1.ks aa).1.1))) rfl)⟩⟩
  refine go ?_;refine lI dn ((h1.ks aa).addr dn)<|lW ((h1.ks aa).atInt dn) ?_;refine go ?_;refine Zo hm (fun hb hm=>go ?_) fun hb hm=>?_
  ·refine lW af.at1<|X4 rfl<|Vz (col:=au) [(ca:Int)] 9 ?_;intro ib hc he a0 hf;obtain ⟨f1,hm⟩:=Z9 hm;replace aj:=aj.gr a0;refine Sb (col:=he) (w:=hc) (r:=rI) (c:=4) (c2:=4) (aj.ex) (hf.srcN (NB.int (k:=.i64))) rfl underlying33 Z6z rfl rfl rfl f1.1 f1.2 (by decide) ?_;intro f2 f3 ic f4 a4 fh;replace af:=(af.gr a0).kpp a4;refine Sp (v:=(.slice f2 ((a7++[(ca:Int)]).length) f3)) af sizeOf33 rfl rfl (by intro u hu;simp only [Value.cells,aO,bG,or_false] at hu;subst hu;rfl) rfl rfl ?_;intro hg a5 hh ei;replace ei:Zg 33 3 f4 hg dq #[.slice f2 ((a7++[(ca:Int)]).length) f3]:=ei;have fi:=(fh.kp a5).new;refine go ?_;refine Yx ⟨_,_,rfl⟩ ?_;replace bu:=((bu.gr a0).kpp a4).kp a5;refine lW ((bu.atN).nth (q:=2) rfl)<|X4 rfl ?_;obtain ⟨hi,fj,hm⟩:=bZ hm;replace aa:=((aa.grow a0).kpp a4).kp a5 hh;refine lI fj ((ej.ks aa).addr fj) ?_;obtain ⟨_,hj,ho⟩:=(ej.ks aa).atN fj;obtain ⟨⟨id,ie,rfl,ig⟩,_⟩:=hj;refine lW ho.one<|go ?_;refine Vz (col:=f4) [(hi.length:Int)] 10 ?_;intro ih ii ij a2 hp;obtain ⟨hq,hm⟩:=Z9 hm;replace dl:=(((dl.gr a0).kpp a4).kp a5).gr a2;refine Vy dl (hp.srcN (NB.int (k:=.i64))) hq ?_;intro ik il im io a6 hr;refine go ?_;replace bj:=((((bj.gr a0).kpp a4).kp a5).gr a2).kpp a6;replace bk:=((((bk.gr a0).kpp a4).kp a5).gr a2).kpp a6;replace bm:=((((bm.gr a0).kpp a4).kp a5).gr a2).kpp a6;replace bn:=((((bn.gr a0).kpp a4).kp a5).gr a2).kpp a6;replace bo:=((((bo.gr a0).kpp a4).kp a5).gr a2).kpp a6;replace bp:=((((bp.gr a0).kpp a4).kp a5).gr a2).kpp a6;replace bq:=((((bq.gr a0).kpp a4).kp a5).gr a2).kpp a6;replace ad:=((((ad.gr a0).kpp a4).kp a5).gr a2).kpp a6;replace hb3:=((((hb3.gr a0).kpp a4).kp a5).gr a2).kpp a6;replace hb4:=((((hb4.gr a0).kpp a4).kp a5).gr a2).kpp a6;replace hb5:=((((hb5.gr a0).kpp a4).kp a5).gr a2).kpp a6;replace hb6:=((((hb6.gr a0).kpp a4).kp a5).gr a2).kpp a6;replace hmk:=((((hmk.gr a0).kpp a4).kp a5).gr a2).kpp a6;replace bu:=(bu.gr a2).kpp a6;replace aa:=(aa.grow a2).kpp a6
   exact ⟨rfl,_,_,_,_,_,_,_,hm,aa,bu,hb3,bj,bk,bm,bn,hb4,bo,bp,hb5,bq,hb6,ad,(fi.gr a2).kpp a6,(ei.gr a2).kpp a6,hr,hmk,rfl⟩
  refine Yj ?_;exact ⟨rfl,_,_,_,_,_,_,_,hm,aa,bu,hb3,bj,bk,bm,bn,hb4,bo,bp,hb5,bq,hb6,ad,aj,af,dl,hmk,rfl⟩
def Ze6 (N:Nat) (ab:R0) (ad:List R4):Nat→Int→ByteArray→R3→Rg→R7→R9→Option (R0×Int)
  | 0,_,_,_,_,_,_=>none
  | ai+1,aa,ae,af,ag,ah,ac=>if (decide (aa<(ab.2.1.length:Int)))=true then ((Zl ac aa).bind fun aj=>(Zl ad aa).bind fun ak=>(Zl ab.2.2.1 aa).bind fun al=>(Zkr N aj ak (al.length:Int)).bind fun am=>(Ze6 N ab ad ai) (i64.wrap (aa+1)) ae af ag ah (ac.set (aA aa) am)) else (some ((ae,af,ag,ah,ac),0))
termination_by structural x=>x
def Zb5 (N:Nat) (aa:R0) (ab:R0):List R2→R9→Option (R0×Int)
  | [],ac=>Ze6 N aa ac N 0 ab.1 ab.2.1 ab.2.2.1 ab.2.2.2.1 ab.2.2.2.2
  | ae :: af,ac=>(Tx N (aa.1,aa.2.1,aa.2.2.1,aa.2.2.2.1,aa.2.2.2.2) [ae]).bind fun ad=>(Zhw N (aa.1,aa.2.1,aa.2.2.1,aa.2.2.2.1,aa.2.2.2.2) ae (aa.1,aa.2.1,aa.2.2.1,aa.2.2.2.1,aa.2.2.2.2) (ab.1,ab.2.1,ab.2.2.1,ab.2.2.2.1,ab.2.2.2.2) ((ad.1.1.1,ad.1.1.2),ad.1.2) ac).bind fun ag=>(Zb5 N aa ab af) ag
termination_by structural x=>x
def Zdj (N:Nat) (ab:R0) (ae:R7) (af:R0):Nat→R9→Int→Option (R0×Int)
  | 0,_,_=>none
  | ag+1,ac,aa=>if (decide (aa<(ab.2.1.length:Int)))=true then ((Zl ab.2.2.2.2 aa).bind fun ad=>Z4 (ad.length * 56≤281474976710656∧ad.length≤maxLen) ((Zl ac aa).bind fun ai=>(some (ac.set (aA aa) (aM ad.length (((false,([]:List Int)),([]:List Int)):R1)))).bind fun ah=>(Zdj N ab ae af ag) ah (i64.wrap (aa+1)))) else (Zb5 N ab af ae ac)
termination_by structural x=>x
def Q6 (N:Nat) (aa:R0) (ac:R7):Option (R0×Int):=
  (Ze7 N (aa.1,aa.2.1,aa.2.2.1,aa.2.2.2.1,aa.2.2.2.2) ac).bind fun ad=>if (!decide (ad=0))=true then (some ((⟨#[]⟩,([]:List ByteArray),([]:List R3),([]:List R2),([]:List R4)),ad)) else ((Tx N (aa.1,aa.2.1,aa.2.2.1,aa.2.2.2.1,aa.2.2.2.2) ac).bind fun ab=>if (!decide (ab.2=0))=true then (some ((⟨#[]⟩,([]:List ByteArray),([]:List R3),([]:List R2),([]:List R4)),ab.2)) else ((Qf N ((ab.1.1.1,ab.1.1.2),ab.1.2)).bind fun ae=>if (decide (ae=0))=true then (some ((⟨#[]⟩,([]:List ByteArray),([]:List R3),([]:List R2),([]:List R4)),52)) else ((Zhv N (aa.1,aa.2.1,aa.2.2.1,aa.2.2.2.1,aa.2.2.2.2)).bind fun af=>Z4 (aa.2.1.length * 24≤281474976710656∧aa.2.1.length≤maxLen) (Zdj N aa ac af N (aM aa.2.1.length (([]:List R1):R4)) 0))))
theorem Z4h {N b2 b3 b4 b5 d7:Nat} {b6 b7 b8 b9 a1:Option Addr} {col:Zd} {w0:World} {ae:R0} {bb:R7} {r:(R0×Int)} (c1 c2 c3 c4:Nat) (hm:Q6 N ae bb=some r) (bc:Sl Za.str col w0 b6 b2 ae.2.1) (az:Sl (Za.slice Za.str) col w0 b7 b3 ae.2.2.1) (bd:Sl (Za.slice rI) col w0 b8 b4 ae.2.2.2.1) (a0:Sl (Za.slice (Za.pair (Za.pair Za.bool (Za.slice rU)) (Za.slice rU))) col w0 b9 b5 ae.2.2.2.2) (h1:Sl (Za.slice rI) col w0 a1 d7 bb):
    Calls prog 31 #[(.agg #[.string ae.1,.slice b6 ae.2.1.length b2,.slice b7 ae.2.2.1.length b3,.slice b8 ae.2.2.2.1.length b4,.slice b9 ae.2.2.2.2.length b5]),.slice a1 bb.length d7] w0 (fun e w'=>∃ (col':Zd) (ra1:Option Addr) (rc2:Nat) (ra4:Option Addr) (rc5:Nat) (ra7:Option Addr) (rc8:Nat) (ra10:Option Addr) (rc11:Nat),e= .returned (.tuple #[(.agg #[.string r.1.1,.slice ra1 r.1.2.1.length rc2,.slice ra4 r.1.2.2.1.length rc5,.slice ra7 r.1.2.2.2.1.length rc8,.slice ra10 r.1.2.2.2.2.length rc11]),.int .i64 r.2])∧Zf col w0 col' w'∧Zb Za.str 9 c1 col' w' ra1 rc2 r.1.2.1∧Zb (Za.row 9 Za.str) 22 c2 col' w' ra4 rc5 r.1.2.2.1∧Zb (Za.row 3 rI) 33 c3 col' w' ra7 rc8 r.1.2.2.2.1∧Zb (Za.row 39 (Za.pair (Za.pair Za.bool (Za.row 95 rU)) (Za.row 95 rU))) 114 c4 col' w' ra10 rc11 r.1.2.2.2.2):=by
 refine Y5 (m:=105) func31 rfl rfl rfl ?_;rw [Q6.eq_1] at hm;have aa:=St.start col w0;refine go ?_;refine Xi (col:=(Zj col)) 1 rfl ?_;intro cx gm er es ab;refine Xk (col:=er) #[.string (⟨#[]⟩),.slice none (([]:List ByteArray).length) 0,.slice none (([]:List R3).length) 0,.slice none (([]:List R2).length) 0,(.slice none (([]:List R4).length) 0)] 2 zeroValue27 ?_;intro dr et d8 d9 ac;refine go ?_;replace ab:=ab.gr d9;refine lV _ (Z8 isAgg27 sizeOf27 ab)<|Y2 rfl ?_;obtain ⟨gp,eu,hm⟩:=bZ hm;replace bc:=bc.k0;replace az:=az.k0;replace bd:=bd.k0;replace a0:=a0.k0;replace h1:=h1.k0;replace aa:=(aa.grow es).grow d9;refine Zi (Z4o eu (bc.ks aa) (az.ks aa) (bd.ks aa) (a0.ks aa) (h1.ks aa)) ?_;rintro _ ew ⟨rfl,ca⟩;refine ⟨_,rfl,?_⟩;replace ca:Zf d8 et d8 ew:=.of_below ca;refine go ?_;replace ab:=ab.gr ca;replace ac:=ac.gr ca;replace aa:=aa.grow ca;refine Zo hm (fun hb hm=>go ?_) fun hb hm=>go ?_
 ·refine lV (.agg #[.string (⟨#[]⟩),.slice none (([]:List ByteArray).length) 0,.slice none (([]:List R3).length) 0,.slice none (([]:List R2).length) 0,(.slice none (([]:List R4).length) 0)]) (Wq (l:=[_,_,_,_,_]) (qs:=[(0,1),(1,1),(2,1),(3,1),(4,1)]) underlying27 zeroValue27 ⟨rfl,sizeOf9,rfl,sizeOf22,rfl,sizeOf23,rfl,sizeOf24,rfl,sizeOf25,trivial⟩ rfl)<|X4 rfl<|Zy ac ?_;intro gs ey ez e0;refine go ?_;cases hm;replace aa:=aa.kp ey ez;exact ⟨rfl,_,V3 e0.atN,_,none,0,none,0,none,0,none,0,rfl,aa.fin (cm []),Zb.nil,Zb.nil,Zb.nil,Zb.nil⟩
 refine lV _ (Z8 isAgg27 sizeOf27 ab)<|Y2 rfl ?_;obtain ⟨be,e1,hm⟩:=bZ hm;refine Zi (Zmq 3 4 e1 (bc.ks aa) (az.ks aa) (bd.ks aa) (a0.ks aa) (h1.ks aa)) ?_;rintro _ gt ⟨e2,ea,eb,ec,ed,rfl,ds,dt,du⟩;refine ⟨_,rfl,?_⟩;refine lM (.tuple #[(.agg #[.bool be.1.1.1,.slice ea be.1.1.2.length eb,.slice ec be.1.2.length ed]),.int .i64 be.2])<|lV (.agg #[.bool be.1.1.1,.slice ea be.1.1.2.length eb,.slice ec be.1.2.length ed]) (Xo rfl rfl)<|lV (.int .i64 be.2) (Xo rfl rfl)<|Xk (col:=e2) #[.bool false,(nI),(nI)] 5 zeroValue39 ?_;intro gu gv ee cb e3;refine Zy e3 ?_;intro e4 cc e5 e6;refine go ?_;replace ab:=((ab.gr ds).gr cb).kp cc;replace ac:=((ac.gr ds).gr cb).kp cc;replace aa:=((aa.grow ds).grow cb).kp cc e5;refine Zo hm (fun hb hm=>go ?_) fun hb hm=>go ?_
 ·refine lV (.agg #[.string (⟨#[]⟩),.slice none (([]:List ByteArray).length) 0,.slice none (([]:List R3).length) 0,.slice none (([]:List R2).length) 0,(.slice none (([]:List R4).length) 0)]) (Wq (l:=[_,_,_,_,_]) (qs:=[(0,1),(1,1),(2,1),(3,1),(4,1)]) underlying27 zeroValue27 ⟨rfl,sizeOf9,rfl,sizeOf22,rfl,sizeOf23,rfl,sizeOf24,rfl,sizeOf25,trivial⟩ rfl)<|X4 rfl<|Zy ac ?_;intro gw e7 e8 e9;refine go ?_;cases hm;replace aa:=aa.kp e7 e8;exact ⟨rfl,_,V3 e9.atN,_,none,0,none,0,none,0,none,0,rfl,aa.fin (cm []),Zb.nil,Zb.nil,Zb.nil,Zb.nil⟩
 refine lV _ (Z8 isAgg39 sizeOf39 e6) ?_;obtain ⟨gx,fa,hm⟩:=bZ hm;refine Zi (Zmr fa ((((dt.gr cb).kp cc).toSlF (Zh.int .u32)).froz 4) ((((du.gr cb).kp cc).froz 3).toSlF (Zh.int .u32))) ?_;rintro _ fb ⟨rfl,cd⟩;refine ⟨_,rfl,?_⟩;replace cd:Zf ee e4 ee fb:=.of_below cd;refine go ?_;replace ab:=ab.gr cd;replace ac:=ac.gr cd;replace aa:=aa.grow cd;refine Zo hm (fun hb hm=>go ?_) fun hb hm=>go ?_
 ·refine lV (.agg #[.string (⟨#[]⟩),.slice none (([]:List ByteArray).length) 0,.slice none (([]:List R3).length) 0,.slice none (([]:List R2).length) 0,(.slice none (([]:List R4).length) 0)]) (Wq (l:=[_,_,_,_,_]) (qs:=[(0,1),(1,1),(2,1),(3,1),(4,1)]) underlying27 zeroValue27 ⟨rfl,sizeOf9,rfl,sizeOf22,rfl,sizeOf23,rfl,sizeOf24,rfl,sizeOf25,trivial⟩ rfl)<|Zy ac ?_;intro gy fc fd fe;refine go ?_;cases hm;replace aa:=aa.kp fc fd;exact ⟨rfl,_,V3 fe.atN,_,none,0,none,0,none,0,none,0,rfl,aa.fin (cm []),Zb.nil,Zb.nil,Zb.nil,Zb.nil⟩
 refine lV _ (Z8 isAgg27 sizeOf27 ab) ?_;obtain ⟨ak,ff,hm⟩:=bZ hm;refine Zi (Z4j 6 7 8 9 ff (bc.ks aa) (az.ks aa) (bd.ks aa) (a0.ks aa)) ?_;rintro _ gz ⟨fg,cy,cz,c0,c5,c6,c7,c8,c9,rfl,dv,ag,ah,ai,aj⟩;refine ⟨_,rfl,?_⟩;refine Xk (col:=fg) #[.string (⟨#[]⟩),.slice none (([]:List ByteArray).length) 0,.slice none (([]:List R3).length) 0,.slice none (([]:List R2).length) 0,(.slice none (([]:List R4).length) 0)] 10 zeroValue27 ?_;intro bt g0 fh bj fi;refine Zy fi ?_;intro fj bk fk ad;refine go ?_;refine Yx ⟨_,_,rfl⟩ ?_;replace ab:=((ab.gr dv).gr bj).kp bk;refine lW ((ab.atN).nth (q:=1) rfl)<|go ?_;obtain ⟨ef,hm⟩:=Z9 hm;refine Sq (col:=fh) (w:=fj) (r:=(Za.row 39 (Za.pair (Za.pair Za.bool (Za.slice rU)) (Za.slice rU)))) (n:=ae.2.1.length) (x0:=([]:List R1)) 11 rfl underlying25 Tryz.t114 rfl rfl rfl rfl rfl rfl rfl ef.1 ef.2 Zst ?_;intro eg g1 fl bf dw;refine Zax (col:=fl) (v:=(.slice none (([]:List R4).length) 0)) 12 rfl zeroValue25 ?_;intro bm fm eh a7 dx;replace dx:Zg 25 12 eh fm bm #[(.slice none (([]:List R4).length) 0)]:=dx;refine Sp (v:=(.slice eg ((aM ae.2.1.length (([]:List R1):R4)).length) ae.2.1.length)) dx sizeOf25 rfl rfl (by intro u hu;simp only [Value.cells,aO,bG,or_false] at hu;subst hu;rfl) rfl rfl ?_;intro fn a8 fp af;replace af:Zg 25 12 eh fn bm #[(.slice eg ((aM ae.2.1.length (([]:List R1):R4)).length) ae.2.1.length)]:=af;refine go ?_;refine Yx ⟨_,_,rfl⟩ ?_;replace ab:=((ab.gr bf).gr a7).kp a8;refine lW ((ab.atN).nth (q:=1) rfl)<|go ?_;replace ac:=(((((ac.gr dv).gr bj).kp bk).gr bf).gr a7).kp a8;replace aa:=(((((aa.grow dv).grow bj).kp bk fk).grow bf).grow a7).kp a8 fp;replace ag:=((((ag.gr bj).kp bk).gr bf).gr a7).kp a8;replace ah:=((((ah.gr bj).kp bk).gr bf).gr a7).kp a8;replace ai:=((((ai.gr bj).kp bk).gr bf).gr a7).kp a8;replace aj:=((((aj.gr bj).kp bk).gr bf).gr a7).kp a8;replace ad:=((ad.gr bf).gr a7).kp a8;replace dw:=(dw.gr a7).kp a8
 refine Zv [1,10,2,4,48,9,1000000] (fun n f av=>∃ am da db bu dc bv,bv=n∧Zdj N ae bb ak bv bu dc=some r∧St w0 (Zj col) am av∧Zb (Za.row 39 (Za.pair (Za.pair Za.bool (Za.slice rU)) (Za.slice rU))) 114 11 am av da db bu∧Zg 25 12 am av bm #[.slice da bu.length db]∧Zg 27 1 am av cx #[.string ae.1,.slice b6 ae.2.1.length b2,.slice b7 ae.2.2.1.length b3,.slice b8 ae.2.2.2.1.length b4,.slice b9 ae.2.2.2.2.length b5]∧Zg 27 2 am av dr #[.string (⟨#[]⟩),.slice none (([]:List ByteArray).length) 0,.slice none (([]:List R3).length) 0,.slice none (([]:List R2).length) 0,(.slice none (([]:List R4).length) 0)]∧Zb Za.str 9 6 am av cy cz ak.2.1∧Zb (Za.row 9 Za.str) 22 7 am av c0 c5 ak.2.2.1∧Zb (Za.row 3 rI) 33 8 am av c6 c7 ak.2.2.2.1∧Zb (Za.row 39 (Za.pair (Za.pair Za.bool (Za.row 95 rU)) (Za.row 95 rU))) 114 9 am av c8 c9 ak.2.2.2.2∧Zg 27 10 am av bt #[.string ak.1,.slice cy ak.2.1.length cz,.slice c0 ak.2.2.1.length c5,.slice c6 ak.2.2.2.1.length c7,.slice c8 ak.2.2.2.2.length c9]∧[49].map f=[.int .i64 dc]) N ⟨_,_,_,_,0,_,rfl,hm,aa,dw,af,ab,ac,ag,ah,ai,aj,ad,rfl⟩ ?_;clear hm;intro n f av hI;obtain ⟨am,da,db,bu,dc,bv,hn,hm,aa,bn,af,ab,ac,ag,ah,ai,aj,ad,hs⟩:=hI;subst hn;refine .lL [49] hs ?_
 cases bv with
 | zero=>rw [Zdj.eq_1] at hm;cases hm
 | succ bv=>
  rw [Zdj.eq_2] at hm;refine go ?_;refine Zo hm (fun hb hm=>go ?_) fun hb hm=>go ?_
  ·refine Y8 (col:=am) [(0,0),(1,1),(2,1),(3,0),(4,1),(5,1),(6,0),(7,1),(8,3),(9,1),(10,2)] (by kernel_rfl) (by kernel_rfl)<|xW (fun _ hC=>af.at1.gr (hC.bl am)) ?_;refine xu rfl rfl (fun _=>Yq rfl) ?_;refine xF ⟨_,_,rfl⟩ ?_;refine xW (fun _ hC=>((ab.atN).nth (q:=4) rfl).gr (hC.bl am)) ?_;refine xu rfl rfl (fun _=>Yq rfl) ?_;obtain ⟨ce,dd,hm⟩:=bZ hm;refine xu rfl rfl (fun _=>Yu underlying25 sizeOf114 rfl rfl (Xa dd).1 (Xa dd).2.1 ((a0.ks aa).addr dd)) ?_;obtain ⟨_,fq,fr⟩:=(a0.ks aa).atN dd;obtain ⟨⟨g2,g3,rfl,g4⟩,_⟩:=fq;refine xW (fun _ hC=>fr.one.gr (hC.bl am)) ?_;refine xu rfl rfl (fun _=>Qu underlying114 rfl) ?_;refine xe rfl rfl ?_;intro ft hC0;have hC:=hC0.bl am;obtain ⟨ei,hm⟩:=Z9 hm;refine Sq (col:=am) (w:=ft) (r:=(Za.pair (Za.pair Za.bool (Za.slice rU)) (Za.slice rU))) (n:=ce.length) (x0:=((false,([]:List Int)),([]:List Int))) 13 rfl underlying114 Tryz.t39 rfl rfl rfl rfl rfl rfl rfl ei.1 ei.2 (Zgh (Zgh (Zai false) Zz3) Zz3) ?_;intro fu g5 ej aw dy;refine Zk<|Xj ej hC0 aw ?_;obtain ⟨g6,de,hm⟩:=bZ hm;replace bn:=(bn.gr hC).gr aw;refine xu rfl rfl (fun _=>Yu underlying25 sizeOf114 rfl rfl (Xa de).1 (Xa de).2.1 (bn.addr de)) ?_;refine xe rfl rfl ?_;intro g7 hC0;replace ag:=(ag.gr hC).gr aw;replace ah:=(ah.gr hC).gr aw;replace ai:=(ai.gr hC).gr aw;replace aj:=(aj.gr hC).gr aw;replace af:=(af.gr hC).gr aw;replace ab:=(ab.gr hC).gr aw;replace ac:=(ac.gr hC).gr aw;replace ad:=(ad.gr hC).gr aw;replace aa:=(aa.grow hC).grow aw;have hC:=hC0.bl ej;obtain ⟨dz,df,hm⟩:=bZ hm;have df:dz=bu.set (aA dc) (aM ce.length (((false,([]:List Int)),([]:List Int)):R1)):=(Option.some.inj df).symm;replace bn:=bn.gr hC;refine Zw6 (x1:=aM ce.length (((false,([]:List Int)),([]:List Int)):R1)) (v:=(.slice fu ((aM ce.length (((false,([]:List Int)),([]:List Int)):R1)).length) ce.length)) bn de rfl sizeOf114 (dy.gr hC).has rfl rfl (by decide) ?_;intro fv d0 a9 dg;rw [← df] at dg;replace af:=(af.gr hC).kpp a9;replace af:Zg 25 12 d0 fv bm #[.slice da dz.length db]:=by rw [← (show bu.length=dz.length by rw [df,nS])];exact af
   refine Zk<|xk d0<|Yz ?_;replace ag:=(ag.gr hC).kpp a9;replace ah:=(ah.gr hC).kpp a9;replace ai:=(ai.gr hC).kpp a9;replace aj:=(aj.gr hC).kpp a9;replace ab:=(ab.gr hC).kpp a9;replace ac:=(ac.gr hC).kpp a9;replace ad:=(ad.gr hC).kpp a9;replace aa:=(aa.grow hC).kpp a9;intro g8 hC;replace hC:=hC.bl d0;refine go ?_;replace ag:=ag.gr hC;replace ah:=ah.gr hC;replace ai:=ai.gr hC;replace aj:=aj.gr hC;replace af:=af.gr hC;replace ab:=ab.gr hC;replace ac:=ac.gr hC;replace ad:=ad.gr hC;replace aa:=aa.grow hC;exact ⟨bv,by omega,rfl,⟨_,_,_,_,_,_,rfl,hm,aa,dg.gr hC,af,ab,ac,ag,ah,ai,aj,ad,rfl⟩⟩
  refine Zv [10,2,4,63,64,9,1000000] (fun n f ax=>∃ ar cf cg bo ch ci,n=ci.length∧bb.drop ch=ci∧Zb5 N ae ak ci bo=some r∧St w0 (Zj col) ar ax∧Zb (Za.row 39 (Za.pair (Za.pair Za.bool (Za.slice rU)) (Za.slice rU))) 114 11 ar ax cf cg bo∧Zg 25 12 ar ax bm #[.slice cf bo.length cg]∧Zg 27 1 ar ax cx #[.string ae.1,.slice b6 ae.2.1.length b2,.slice b7 ae.2.2.1.length b3,.slice b8 ae.2.2.2.1.length b4,.slice b9 ae.2.2.2.2.length b5]∧Zg 27 2 ar ax dr #[.string (⟨#[]⟩),.slice none (([]:List ByteArray).length) 0,.slice none (([]:List R3).length) 0,.slice none (([]:List R2).length) 0,(.slice none (([]:List R4).length) 0)]∧Zb Za.str 9 6 ar ax cy cz ak.2.1∧Zb (Za.row 9 Za.str) 22 7 ar ax c0 c5 ak.2.2.1∧Zb (Za.row 3 rI) 33 8 ar ax c6 c7 ak.2.2.2.1∧Zb (Za.row 39 (Za.pair (Za.pair Za.bool (Za.row 95 rU)) (Za.row 95 rU))) 114 9 ar ax c8 c9 ak.2.2.2.2∧Zg 27 10 ar ax bt #[.string ak.1,.slice cy ak.2.1.length cz,.slice c0 ak.2.2.1.length c5,.slice c6 ak.2.2.2.1.length c7,.slice c8 ak.2.2.2.2.length c9]∧[65].map f=[.int .i64 ch]) bb.length ⟨_,_,_,_,0,_,rfl,rfl,hm,aa,bn,af,ab,ac,ag,ah,ai,aj,ad,rfl⟩ ?_;clear hm;intro n f ax hI;obtain ⟨ar,cf,cg,bo,ch,ci,hn,hl,hm,aa,al,af,ab,ac,ag,ah,ai,aj,ad,hs⟩:=hI;subst hn;refine .lL [65] hs ?_
  cases ci with
  | nil=>
   have hk:¬ ((ch:Int)<(bb.length:Int)):=by have:=aG.1 hl;omega
   have hkb:=decide_eq_false hk;rw [Zb5.eq_1] at hm;refine go ?_;refine X0 (congrArg Value.bool hkb)<|go ?_;refine Xl ab ?_;refine go ?_;replace al:=(al).toSlF (Zh.row (Zh.pair (Zh.pair Zh.bool Zh.slice) Zh.slice));replace ag:=ag.froz 11;replace ah:=ah.froz 11;replace ai:=ai.froz 11;replace aj:=aj.froz 11;replace af:=af.froz 11;replace ab:=ab.froz 11;replace ac:=ac.froz 11;replace ad:=ad.froz 11;replace aa:=aa.froz 11 (by decide) (by decide);refine Zv [10,2,4,83,9,1000000] (fun n f au=>∃ ao bp cj ck cl bw cn co bx cp cq bz bq br a2 b0,b0=n∧Ze6 N ae bo b0 bp cj bw bx bz a2=some r∧St w0 (Zj col) ao au∧Sl (Za.slice (Za.pair (Za.pair Za.bool (Za.slice rU)) (Za.slice rU))) ao au cf cg bo∧Zg 25 12 ao au bm #[.slice cf bo.length cg]∧Zg 27 1 ao au cx #[.string ae.1,.slice b6 ae.2.1.length b2,.slice b7 ae.2.2.1.length b3,.slice b8 ae.2.2.2.1.length b4,.slice b9 ae.2.2.2.2.length b5]∧Zg 27 2 ao au dr #[.string (⟨#[]⟩),.slice none (([]:List ByteArray).length) 0,.slice none (([]:List R3).length) 0,.slice none (([]:List R2).length) 0,(.slice none (([]:List R4).length) 0)]∧Zb Za.str 9 6 ao au ck cl bw∧Zb (Za.row 9 Za.str) 22 7 ao au cn co bx∧Zb (Za.row 3 rI) 33 8 ao au cp cq bz∧Zb (Za.row 39 (Za.pair (Za.pair Za.bool (Za.row 95 rU)) (Za.row 95 rU))) 114 9 ao au bq br a2∧Zg 27 10 ao au bt #[.string cj,.slice ck bw.length cl,.slice cn bx.length co,.slice cp bz.length cq,.slice bq a2.length br]∧[84].map f=[.int .i64 bp]) N ⟨_,0,_,_,_,_,_,_,_,_,_,_,_,_,_,_,rfl,hm,aa,al,af,ab,ac,ag,ah,ai,aj,ad,rfl⟩ ?_;clear hm;intro n f au hI;obtain ⟨ao,bp,cj,ck,cl,bw,cn,co,bx,cp,cq,bz,bq,br,a2,b0,hn,hm,aa,al,af,ab,ac,a3,a4,a5,cr,ad,hs⟩:=hI;subst hn;refine .lL [84] hs ?_
   cases b0 with
   | zero=>rw [Ze6.eq_1] at hm;cases hm
   | succ b0=>
    rw [Ze6.eq_2] at hm;refine go ?_;refine Zo hm (fun hb hm=>go ?_) fun hb hm=>go ?_
    ·refine Y8 (col:=ao) [(0,1),(1,0),(2,1),(3,1),(4,0),(5,0),(6,1),(7,1),(8,0),(9,1),(10,0),(11,1),(12,1),(13,0),(14,1),(15,2)] (by kernel_rfl) (by kernel_rfl)<|xF ⟨_,_,rfl⟩ ?_;refine xW (fun _ hC=>((ad.atN).nth (q:=4) rfl).gr (hC.bl ao)) ?_;refine xu rfl rfl (fun _=>Yq rfl) ?_;obtain ⟨d1,dh,hm⟩:=bZ hm;refine xu rfl rfl (fun _=>Yu underlying25 sizeOf114 rfl rfl (Xa dh).1 (Xa dh).2.1 (cr.addr dh)) ?_;obtain ⟨_,bs,ba,bg,fw⟩:=cr.open_ 14 (by decide) dh;obtain ⟨di,dj,rfl,d2⟩:=fw.row;replace bg:Y7 (Za.row 39 (Za.pair (Za.pair Za.bool (Za.row 95 rU)) (Za.row 95 rU))) 114 9 bs au bq br a2 (aA bp) [.slice di d1.length dj]:=bg;refine xW (fun _ hC=>bg.atN.one.gr (hC.bl bs)) ?_;replace af:=af.kpp ba;refine xW (fun _ hC=>af.at1.gr (hC.bl bs)) ?_;refine xu rfl rfl (fun _=>Yq rfl) ?_;obtain ⟨g9,dl,hm⟩:=bZ hm;replace al:=al.kpp ba;refine xu rfl rfl (fun _=>Yu underlying25 sizeOf114 rfl rfl (Xa dl).1 (Xa dl).2.1 (al.addr dl)) ?_;obtain ⟨_,fx,fy⟩:=al.atN dl;obtain ⟨⟨ha,hc,rfl,d3⟩,_⟩:=fx;refine xW (fun _ hC=>fy.one.gr (hC.bl bs)) ?_;refine xF ⟨_,_,rfl⟩ ?_;replace ab:=ab.kpp ba;refine xW (fun _ hC=>((ab.atN).nth (q:=2) rfl).gr (hC.bl bs)) ?_;refine xu rfl rfl (fun _=>Yq rfl) ?_;obtain ⟨hd,dm,hm⟩:=bZ hm;replace aa:=aa.kpp ba;refine xu rfl rfl (fun _=>Yu underlying23 sizeOf22 rfl rfl (Xa dm).1 (Xa dm).2.1 ((az.ks aa).addr dm)) ?_;obtain ⟨_,fz,f0⟩:=(az.ks aa).atN dm;obtain ⟨⟨he,hf,rfl,hg⟩,_⟩:=fz;refine xW (fun _ hC=>f0.one.gr (hC.bl bs)) ?_;refine xu rfl rfl (fun _=>Qu underlying22 rfl) ?_;refine xe rfl rfl ?_;intro hh hC0;have hC:=hC0.bl bs;obtain ⟨b1,f1,hm⟩:=bZ hm;refine Zi (Z4m 14 f1 rfl (d2.gr hC) (d3.gr hC)) ?_;rintro _ d4 ⟨ct,rfl,a6,f2,ek⟩;refine ⟨_,rfl,?_⟩;refine .ld (d:=91) (v:=(.slice di b1.length dj)) (congrArg (fun n=>Value.slice di n dj) (show d1.length=b1.length from ek.symm)) ?_;replace ad:=((ad.kpp ba).gr hC).kpp a6;replace ad:Zg 27 10 ct d4 bt #[.string cj,.slice ck bw.length cl,.slice cn bx.length co,.slice cp bz.length cq,.slice bq a2.length br]:=by rw [];exact ad
     replace bg:=(bg.gr hC).kpp a6;replace bg:Y7 (Za.row 39 (Za.pair (Za.pair Za.bool (Za.row 95 rU)) (Za.row 95 rU))) 114 9 ct d4 bq br a2 (aA bp) [.slice di b1.length dj]:=by rw [← (show d1.length=b1.length from ek.symm)];exact bg
     refine Zk<|xk ct ?_;have d5:=bg.close f2.has (by decide) (by decide);replace al:=(al.gr hC).kpp a6;replace al:=al.recol 14 9;replace a3:=((a3.kpp ba).gr hC).kpp a6;replace a3:=a3.recol 14 9;replace a4:=((a4.kpp ba).gr hC).kpp a6;replace a4:=a4.recol 14 9;replace a5:=((a5.kpp ba).gr hC).kpp a6;replace a5:=a5.recol 14 9;replace af:=(af.gr hC).kpp a6;replace af:=af.recol 14 9;replace ab:=(ab.gr hC).kpp a6;replace ab:=ab.recol 14 9;replace ac:=((ac.kpp ba).gr hC).kpp a6;replace ac:=ac.recol 14 9;replace ad:=ad.recol 14 9;replace aa:=(aa.grow hC).kpp a6;replace aa:=aa.recol 14 9 (by decide) (by decide);replace ad:Zg 27 10 (Xu 14 9 ct) d4 bt #[.string cj,.slice ck bw.length cl,.slice cn bx.length co,.slice cp bz.length cq,.slice bq ((a2.set (aA bp) b1).length) br]:=by rw [← (show a2.length=(a2.set (aA bp) b1).length by simp only [nS])];exact ad
     refine Yz ?_;intro hi hC;replace hC:=hC.bl (Xu 14 9 ct);refine go ?_;replace al:=al.gr hC;replace a3:=a3.gr hC;replace a4:=a4.gr hC;replace a5:=a5.gr hC;replace af:=af.gr hC;replace ab:=ab.gr hC;replace ac:=ac.gr hC;replace ad:=ad.gr hC;replace aa:=aa.grow hC;exact ⟨b0,by omega,rfl,⟨_,_,_,_,_,_,_,_,_,_,_,_,_,_,_,_,rfl,hm,aa,al,af,ab,ac,a3,a4,a5,d5.gr hC,ad,rfl⟩⟩
    refine lV _ (Z8 isAgg27 sizeOf27 ad)<|Zy ac ?_;intro hj cu f3 f4;refine go ?_;cases hm;replace aa:=aa.kp cu f3;exact ⟨rfl,_,V3 f4.atN,_,_,_,_,_,_,_,_,_,rfl,aa.fin (cm [(6,c1),(7,c2),(8,c3),(9,c4)]),aa.fo (a3.kp cu),aa.fo (a4.kp cu),aa.fo (a5.kp cu),aa.fo (cr.kp cu)⟩
  | cons dn f5=>
   obtain ⟨d6,f6,f7⟩:=Yf hl;have hk:(ch:Int)<(bb.length:Int):=by omega
   have hkb:=decide_eq_true hk;rw [Zb5.eq_2] at hm;refine go ?_;refine X1 (congrArg Value.bool hkb)<|go ?_;refine lI d6 ((h1.ks aa).addr d6) ?_;obtain ⟨_,f8,f9⟩:=(h1.ks aa).atN d6;obtain ⟨⟨el,em,rfl,dp⟩,_⟩:=f8;refine lW f9.one<|go ?_;refine lV _ (Z8 isAgg27 sizeOf27 ab)<|Y2 rfl<|V9 (col:=ar) (r:=(Za.slice rI)) (xs:=[dn]) [.slice el dn.length em] 15 (Wg.ofF (Rows.consF (r:=(Za.slice rI)) (x:=dn) (cs:=[.slice el dn.length em]) (Zl3 dp) Rows.nil0)) ?_;intro ho ga dq ay gb;obtain ⟨bh,gc,hm⟩:=bZ hm;replace aa:=aa.grow ay;refine Zi (Zmq 16 17 gc ((bc.ks aa).froz 15) ((az.ks aa).froz 15) ((bd.ks aa).froz 15) ((a0.ks aa).froz 15) (gb.toSlF Zh.slice)) ?_;rintro _ hp ⟨gd,en,eo,ep,eq,rfl,an,cv,cw⟩;refine ⟨_,rfl,?_⟩;replace cv:=cv.thaw (Z1 .u32) an ((Fz.refl (col:=dq)).froz 15);replace cw:=cw.thaw (Z1 .u32) an ((Fz.refl (col:=dq)).froz 15);replace an:=an.thawR (col:=dq);generalize Xc ga.heap.size dq gd=ge at *;refine lM (.tuple #[(.agg #[.bool bh.1.1.1,.slice en bh.1.1.2.length eo,.slice ep bh.1.2.length eq]),.int .i64 bh.2])<|lV (.agg #[.bool bh.1.1.1,.slice en bh.1.1.2.length eo,.slice ep bh.1.2.length eq]) (Xo rfl rfl)<|lV (.int .i64 bh.2) (Xo rfl rfl)<|Xk (col:=ge) #[.bool false,(nI),(nI)] 18 zeroValue39 ?_;intro gf hq hr ap gg;refine Zy gg ?_;intro ht aq gh gi;refine go ?_;replace ab:=(((ab.gr ay).gr an).gr ap).kp aq;refine lV _ (Z8 isAgg27 sizeOf27 ab)<|Y2 rfl<|lV (.func (.func 110) #[] #[.pointer (some ⟨cx,0,none⟩),.pointer (some ⟨bt,0,none⟩),.pointer (some ⟨gf,0,none⟩),.pointer (some ⟨bm,0,none⟩)]) (Z9n rfl rfl rfl rfl) ?_;obtain ⟨hv,gj,hm⟩:=bZ hm;replace ag:=(((ag.gr ay).gr an).gr ap).kp aq;replace ah:=(((ah.gr ay).gr an).gr ap).kp aq;replace ai:=(((ai.gr ay).gr an).gr ap).kp aq;replace aj:=(((aj.gr ay).gr an).gr ap).kp aq;replace ad:=(((ad.gr ay).gr an).gr ap).kp aq
   replace aa:=((aa.grow an).grow ap).kp aq gh;refine Zi (Z4k 1 10 6 7 8 9 18 16 17 12 11 gj rfl ⟨by decide,rfl⟩ ⟨by decide,rfl⟩ ⟨by decide,rfl⟩ ⟨by decide,rfl⟩ ⟨by decide,rfl⟩ ⟨by decide,rfl⟩ ⟨by decide,rfl⟩ ⟨by decide,rfl⟩ ⟨by decide,rfl⟩ (bc.ks aa) (az.ks aa) (bd.ks aa) (a0.ks aa) ((((dp.gr ay).gr an).gr ap).kp aq) (bc.ks aa) (az.ks aa) (bd.ks aa) (a0.ks aa) ab ag ah ai aj ad ((cv.gr ap).kp aq) ((cw.gr ap).kp aq) gi ((((al.gr ay).gr an).gr ap).kp aq) ((((af.gr ay).gr an).gr ap).kp aq)) ?_;rintro _ hw ⟨hx,hy,hz,rfl,bi,gk,gl⟩;refine ⟨_,rfl,go ?_⟩;replace aa:=aa.kpp bi;exact ⟨f5.length,by simp,rfl,⟨_,_,_,_,_,_,rfl,f6,hm,aa,gk,gl,ab.kpp bi,((((ac.gr ay).gr an).gr ap).kp aq).kpp bi,ag.kpp bi,ah.kpp bi,ai.kpp bi,aj.kpp bi,ad.kpp bi,(Yl (congrArg (Value.int .i64) (Yi (aE f7 (h1.ks aa).1.1))) rfl)⟩⟩

end Go.Proofs.YtkhnlgdenkikoaaGreat
