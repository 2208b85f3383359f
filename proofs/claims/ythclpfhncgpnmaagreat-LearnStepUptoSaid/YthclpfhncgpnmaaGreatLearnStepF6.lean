/-
  What functions of the program compute, as plain Lean functions (m_..), and proofs that they compute it (c_..). Printed by a program of the author; no conditions.
-/
import Derived.Test.YthclpfhncgpnmaaGreatLearnStepBFloat
import Derived.Test.YthclpfhncgpnmaaGreatProg
import Derived.Test.YthclpfhncgpnmaaGreatLearnStepBBrief
import Derived.Test.YthclpfhncgpnmaaGreatLearnStepF5
set_option linter.unusedVariables false
set_option maxRecDepth 100000
set_option maxHeartbeats 2000000
namespace Go.Proofs.YthclpfhncgpnmaaGreat
open Go Go.RowKit
open List renaming map_cons→bJ,map_nil→dD,mem_cons_self→aO,mem_cons_of_mem→aN,map_map→gJ,map_take→eL,map_drop→fN,mem_of_mem_take→cL,mem_of_mem_drop→cI,length_map→aH,getElem_map→cA,replicate→aD,length_replicate→aS,getElem_replicate→eQ,foldl_nil→kE,eq_of_mem_replicate→cR,length_drop→bH,take_add_one→cO,getElem?_eq_getElem→aL,map_append→dI,drop_eq_nil_of_le→aG,take_of_length_le→bA,getElem_mem→aB,drop_eq_getElem_cons→aF,drop_zero→aM,take_zero→eI,take_length→dY,drop_take→iO,append_assoc→bC,drop_drop→dK,take_append_drop→cT,nil_append→bF,getD_eq_getElem?_getD→aE,length_singleton→aK,drop_of_length_le→dB,replicate_succ'→gL,set_append_right→eE,singleton_append→gK,set_cons_zero→eA,append_nil→cV,range'→cE,length_range'→jK,mem_map→cY,set_cons_succ→jL,mem_or_eq_of_mem_set→eK,foldl_cons→eP,map→fX,length_range→dR,flatMap_nil→jT,all_cons→cN,flatMap_cons→eG,set_eq_of_length_le→iP
open Rat renaming div_def→bQ,zero_mul→eN,mul_assoc→bP,mul_inv_cancel→cW,mul_one→dL,mkRat_eq_div→cM,lt_irrefl→cZ,mul_comm→jJ
open Int renaming toNat_natCast→aC,tdiv→aR,toNat→aA,natCast_mul→bN,tmod→bK,natAbs_natCast→eH
open Option renaming toList_some→bX
open Nat renaming zero_add→cC,zero_le→aQ,zero_mul→dP,add_mul→bB,one_mul→aV,le_refl→aX,add_sub_cancel_left→gB,add_zero→bR,div_lt_iff_lt_mul→dQ,mul_comm→bS,mul_le_mul_right→bD,div_le_self→cJ,min_eq_left→aZ,min_eq_right→dN,mul_le_mul_left→aY,mul_one→fU,mul_assoc→bT,mul_le_mul→gX,mul_pos→gT,sub_self→eX,lt_or_ge→bU,le_trans→aT
open Go.IntKind (i8 i16 i32 i64 u8 u16 u32 u64)
open Go.Proofs.Tryz

theorem Zql:∀ l:List QV,Xj l=Vv (l.map Zr)
 | []=>rfl
 | x :: l=>by rw [Znr,bJ,Vv,Zql l]
theorem Zuk (D:Rat):∀ c:List Int,(∀ x ∈ c,0≤x)→Vv (c.map fun x:Int=>(x:Rat) / D)=((Xq c:Nat):Rat) / D
 | [],_=>by rw [dD,Vv,Xq,bQ];exact (eN _).symm
 | x :: c,h=>by
  have b:=h x aO
  obtain ⟨d,rfl⟩:∃ d:Nat,x=(d:Int):=⟨x.toNat,by omega⟩
  rw [bJ,Vv,Zuk D c fun y a=>h y (aN _ a),Xq,aC,Rat.natCast_add,bQ,bQ,bQ,Rat.add_mul];rfl
theorem Z7t {x S D:Rat} (hS:S≠0) (hD:D≠0):x / D / (S / D)=x / S:=by
 have a:S / D≠0:=fun e=>by
  have:=congrArg (· * D) e
  simp only [eN] at this
  rw [Zd4 hD] at this;exact hS this
 have c:x / D / (S / D) * (S / D) * D=x / S * (S / D) * D:=by
  rw [Zd4 a,Zd4 hD,bP,Zd4 hD,Zd4 hS]
 have b:=congrArg (· * D⁻¹ * (S / D)⁻¹) c
 simp only [bP,cW _ hD,dL,cW _ a] at b
 exact b
theorem Xb1 {D:Nat} (hD:D≠0) {t q:List QV} {c:List Int} (h0:∀ x ∈ c,0≤x) (hq:q.map Zr=c.map fun x:Int=>(x:Rat) / (D:Rat)):Sp t q=Sp t (Ua 0 c):=by
 have e:Xj q=((Xq c:Nat):Rat) / (D:Rat):=by rw [Zql,hq,Zuk _ c h0]
 have a:=Zh7 hD
 rw [Z2z h0,Sp,e]
 by_cases h:Xq c=0
 ·rw [if_pos h,if_pos (by rw [h,bQ];exact eN _)]
 ·have hS:=Zh7 h
  have b:¬ ((Xq c:Nat):Rat) / (D:Rat)=0:=fun e=>by
   have:=congrArg (· * (D:Rat)) e
   simp only [eN] at this
   rw [Zd4 a] at this;exact hS this
  have d:(q.map fun x=>Zn (Zr x / (((Xq c:Nat):Rat) / (D:Rat))))=(q.map Zr).map fun y=>Zn (y / (((Xq c:Nat):Rat) / (D:Rat))):=by rw [gJ];rfl
  rw [if_neg h,if_neg b,d,hq,Zdt,gJ]
  refine List.map_congr_left fun x _=>?_
  show Zn ((x:Rat) / (D:Rat) / (((Xq c:Nat):Rat) / (D:Rat)))=Zn ((x:Rat) / (((Xq c:Nat):Int):Rat))
  rw [Z7t hS a];rfl
theorem Zud {D k:Nat} (hD:D≠0):∀ (m:Nat) (t q:List QV) (c:List Int),(∀ x ∈ c,0≤x)→(q.map Zr=c.map fun x:Int=>(x:Rat) / (D:Rat))→Wv k m t q=Wv k m t (Ua 0 c)
 | 0,t,q,c,_,_=>rfl
 | m+1,t,q,c,b,d=>by
  have e:(q.take k).map Zr=(c.take k).map fun x:Int=>(x:Rat) / (D:Rat):=by rw [eL,eL,d]
  have f:(q.drop k).map Zr=(c.drop k).map fun x:Int=>(x:Rat) / (D:Rat):=by rw [fN,fN,d]
  rw [Wv,Wv,Zzd,Zzc,Xb1 hD (fun x a=>b x (cL a)) e,Zud hD m _ _ _ (fun x a=>b x (cI a)) f]
theorem Vg.map {n:Zq} {D G:Nat} {L:List R7} {E:List (List QV)} (h:Vg n D G L E) {v:Nat} (hv:v<n.2.1.length):(E.getD v []).map Zr=(Wj n v L).map fun x:Int=>(x:Rat) / (D:Rat):=by
 refine List.ext_getElem (by rw [aH,aH,h.sz v hv,Zow]) fun i a b=>?_
 rw [aH] at a b
 have:=h.val v hv i (by rw [← h.sz v hv];exact a)
 rw [Xl a,Xl b] at this
 rw [cA,cA];exact this
theorem Vg.none {n:Zq} {D G:Nat} {E:List (List QV)} (hl:E.length=n.2.1.length) (hE:∀ v,v<n.2.1.length→E.getD v []=aD (n.2.2.2.2.getD v []).length ((false,([]:List Int)),([]:List Int))):Vg n D G [] E:=by
 have b:Zr ((false,([]:List Int)),([]:List Int))=0:=by rw [Zr];simp [Zw,Zc]
 refine ⟨hl,fun v a=>by rw [hE v a,aS],fun v a i c=>?_,fun v a y d=>?_⟩
 ·rw [hE v a,Xl (by rw [aS];exact c),eQ,b,Wj,kE,Xl (by rw [aS];exact c),eQ,bQ]
  exact (eN _).symm
 ·rw [hE v a] at d
  rw [cR d]
  exact ⟨by simp [Zp],by simp [Zp],by simp,by simp⟩
section
variable {N:Nat} {n:Zq} (hf:X2 N n) {D G C:Nat} (hD:D≠0) (hC6:C≤65536) (hcn:∀ v,v<n.2.1.length→cnt n v≤C) (hN:2000000<N)
include hf hD hC6 hcn hN
omit hD hC6 hcn hN in
theorem Z2g (r:List R2) (cp:Zq):∀ (m v f:Nat) (E:List (List QV)),v+m=n.2.1.length→m<f→E.length=n.2.1.length→(∀ i,i<v→E.getD i []=aD (n.2.2.2.2.getD i []).length ((false,([]:List Int)),([]:List Int)))→
  ∃ E',Zem N n r cp f E (v:Int)=Zcr N n cp r E'∧E'.length=n.2.1.length∧∀ i,i<n.2.1.length→E'.getD i []=aD (n.2.2.2.2.getD i []).length ((false,([]:List Int)),([]:List Int))
 | m,v,0,E,_,h,_,_=>by omega
 | 0,v,f+1,E,e,_,hl,c=>by
  rw [Zem.eq_2,if_neg (dF (by omega))]
  exact ⟨E,rfl,hl,fun i g=>c i (by omega)⟩
 | m+1,v,f+1,E,e,o,hl,c=>by
  have p:=hf.le
  have a:v<n.2.1.length:=by omega
  have d:v<n.2.2.2.2.length:=by rw [hf.ev.t];exact a
  obtain ⟨q,s,u⟩:=hf.rows a
  have b:v<E.length:=by omega
  obtain ⟨E',j,k,l⟩:=Z2g r cp m (v+1) f (E.set v (aD (n.2.2.2.2.getD v []).length ((false,([]:List Int)),([]:List Int)))) (by omega) (by omega) (by rw [nS];exact hl) fun i g=>by
   rw [Wc E [] v i _ b]
   split
   ·rename_i h;rw [h]
   ·exact c i (by omega)
  refine ⟨E',?_,k,l⟩
  rw [Zem.eq_2,if_pos (dT (by omega)),Yo [] d,oB,Z7 (by simp only [maxLen];omega),Zs b,oB,oB,aC,wS (by omega)]
  exact j
end
def Zkk (N:Nat) (a:R1):Option R1:=
  (Sh N ((a.1.1,a.1.2),a.2)).bind fun c=>(Ze7 N (a.1.1,a.1.2) c).bind fun b=>some ((b.1.1,b.1.2),b.2)
theorem Z55 {N o x:Nat} {p y:Option Addr} {col:Ze} {f:World} {b r:R1} (u c2:Nat) (e:Zkk N b=some r) (j:Sl rU col f p o b.1.2) (q:Sl rU col f y x b.2):
    Calls prog 113 #[(.agg #[.bool b.1.1,.slice p b.1.2.length o,.slice y b.2.length x])] f (Sm 45 u c2 col f r):=by
 refine Yx (m:=8) func113 rfl rfl rfl ?_;rw [Zkk.eq_1] at e;have d:=St.start col f;refine go ?_;refine Xg (col:=(Zh col)) 1 rfl fun _ _ A I s=>Xr (col:=A) #[.bool false,(nI),(nI)] 2 zeroValue42 fun _ _ t z m=>go ?_;refine Y8 (col:=t) [(0,1),(1,0),(2,0),(3,3),(4,3),(5,2)] (by kernel_rfl) (by kernel_rfl)<|xF ⟨_,_,rfl⟩ ?_;replace s:=s.gr z;refine xv (v:=(.agg #[.bool b.1.1,.slice p b.1.2.length o])) rfl rfl (fun _ a=>Yl isAgg40 sizeOf40 rfl rfl (((s.atN).part 0 2 _ rfl).gr (a.bl t))) ?_;refine xv rfl rfl (fun _ a=>Z5 isAgg42 sizeOf42 (s.gr (a.bl t))) ?_;refine xe rfl rfl ?_;intro _ c;have a:=c.bl t;obtain ⟨_,D,e⟩:=bZ e;replace j:=j.k0;replace d:=((d.grow I).grow z).grow a;refine Zi (Zbg 3 D (j.ks d) (q.k0.ks d)) fun _ _ ⟨h,_,_,i,w,E⟩=>⟨_,i,?_⟩;refine Zl<|Xo h c w<|xe rfl rfl ?_;intro H c;replace m:=(m.gr a).gr w;have a:=c.bl h;obtain ⟨_,C,e⟩:=bZ e;replace d:=(d.grow w).grow a;refine Zi (Zop 4 5 C ((j.ks d).froz 3) ((E.gr a).toSlF (Zg.int .u32))) fun _ _ ⟨G,_,_,_,_,i,g,k,l⟩=>⟨_,i,?_⟩;replace k:=k.thaw (Z1 .u32) g ((Fz.refl (col:=h)).froz 3);replace l:=l.thaw (Z1 .u32) g ((Fz.refl (col:=h)).froz 3);replace g:=g.thawR (col:=h);generalize Xa H.heap.size h G=n at *;refine Zl<|Xo n c g<|xe rfl rfl ?_;intro _ c;replace m:=(m.gr a).gr g;have a:=c.bl n;refine Z6 (m.gr a) fun _ v B F=>Zl<|xk n<|Y4 ?_;replace d:=((d.grow g).grow a).kp v B;replace k:=(k.gr a).kp v;replace l:=(l.gr a).kp v;intro _ a;replace a:=a.bl n;refine W1 ?_;cases e;replace d:=d.grow a;exact ⟨rfl,_,ra (F.gr a).atN,_,_,_,_,_,rfl,d.fin (cm [(4,u),(5,c2)]),d.fo (k.gr a),d.fo (l.gr a)⟩
def Zk5 (a:Int) (kk_L1:(R4→Int→Option R4)) (b:List R1):Option R4:=
  kk_L1 b (i64.wrap (a+1))
def Zdr (N:Nat) (f:R4) (a:Int) (i:R4):Nat→R4→Int→Option R4
  | 0,_,_=>none
  | l+1,e,b=>if (decide (b<(f.length:Int)))=true then (Z2 (a≠0) (Z2 ((0:Int)≤(i64.wrap ((i64.wrap (aR b a)) * a))∧(i64.wrap ((i64.wrap (aR b a)) * a))≤(i64.wrap ((i64.wrap ((i64.wrap (aR b a)) * a))+a))∧(i64.wrap ((i64.wrap ((i64.wrap (aR b a)) * a))+a))≤(f.length:Int)) ((Zau N ((f.take (aA (i64.wrap ((i64.wrap ((i64.wrap (aR b a)) * a))+a)))).drop (aA (i64.wrap ((i64.wrap (aR b a)) * a))))).bind fun g=>(Zat N ((g.1.1,g.1.2),g.2)).bind fun m=>if (decide (m=0))=true then ((Zk i b).bind fun j=>(Zkk N ((j.1.1,j.1.2),j.2)).bind fun c=>Z2 ((e.length+[((c.1.1,c.1.2),c.2)].length) * 56≤140737488355328∧e.length+[((c.1.1,c.1.2),c.2)].length≤maxLen) (Zk5 b (Zdr N f a i l) (e++[((c.1.1,c.1.2),c.2)]))) else ((Zk f b).bind fun k=>(Ze6 N ((k.1.1,k.1.2),k.2) ((g.1.1,g.1.2),g.2)).bind fun d=>Z2 ((e.length+[((d.1.1.1,d.1.1.2),d.1.2)].length) * 56≤140737488355328∧e.length+[((d.1.1.1,d.1.1.2),d.1.2)].length≤maxLen) (Zk5 b (Zdr N f a i l) (e++[((d.1.1.1,d.1.1.2),d.1.2)])))))) else (some e)
def Zm8 (N:Nat) (a:R4) (b:Int) (c:R4):Option R4:=
  Zdr N a b c N ([]:List R1) 0
theorem Z6q {N y v:Nat} {m s:Option Addr} {col:Ze} {n:World} {C:R4} {a:Int} {c r:R4} (c1:Nat) (b:Zm8 N C a c=some r) (p:Sl rQ col n m y C) (D:Sl rQ col n s v c):
    Calls prog 60 #[.slice m C.length y,.int .i64 a,.slice s c.length v] n (fun e q=>∃ (col':Ze) (v:Option Addr) (u:Nat),e= .returned ((.slice v r.length u))∧Zj col n col' q∧Zb (rO 45) 42 c1 col' q v u r):=by
 refine Xc 6 (m:=56) func60 rfl rfl rfl rfl rfl ?_;rw [Zm8.eq_1] at b;have d:=St.start col n;refine go ?_;refine Zt [0,1,2,1000000] (fun X Y M=>∃ Q R S u g F,F=X∧Zdr N C a c F u g=some r∧St n (Zh col) Q M∧Zb (rO 45) 42 1 Q M R S u∧[7,8].map Y=[.slice R u.length S,.int .i64 g]) N ⟨_,none,0,_,0,_,rfl,b,d,Zb.nil,rfl⟩ ?_;clear b;intro X Y M j;obtain ⟨Q,R,S,u,g,F,P,b,d,h,V⟩:=j;subst P;refine .lL [7,8] V ?_;replace p:=p.k0;replace D:=D.k0
 cases F with
 | zero=>rw [Zdr.eq_1] at b;cases b
 | succ F=>
  rw [Zdr.eq_2] at b;refine go ?_;refine Zm b (fun A b=>?_) fun A b=>go ?_
  ·refine Xz<|Zx ?_;refine Wp.cutK [0,1,2,8,1000000] (fun Y L=>∃ M O P k,Zk5 g (Zdr N C a c F) k=some r∧St n (Zh col) M L∧Zb (rO 45) 42 1 M L O P k∧[7].map Y=[.slice O k.length P]) ?_ ?_
   ·intro Y L Y;obtain ⟨M,O,P,k,b,d,z,V⟩:=Y;rw [Zk5.eq_1] at b;refine .lL [7] V<|go ?_;exact ⟨F,by omega,rfl,⟨_,_,_,_,_,_,rfl,b,d,z,rfl⟩⟩
   refine go ?_;obtain ⟨s,b⟩:=Z4 b;refine lV (.int .i64 (i64.wrap (aR g a))) (Vy g a rfl rfl s)<|go ?_;obtain ⟨K,b⟩:=Z4 b;have L:=((p.ks d).take (aA (i64.wrap ((i64.wrap ((i64.wrap (aR g a)) * a))+a)))).drop (sz:=3) rfl (aA (i64.wrap ((i64.wrap (aR g a)) * a)));refine lv (v:=.slice (if y=(aA (i64.wrap ((i64.wrap (aR g a)) * a))) then m else m.map (·.add ((aA (i64.wrap ((i64.wrap (aR g a)) * a))) * 3))) ((aA (i64.wrap ((i64.wrap ((i64.wrap (aR g a)) * a))+a))) - (aA (i64.wrap ((i64.wrap (aR g a)) * a)))) (y - (aA (i64.wrap ((i64.wrap (aR g a)) * a))))) rfl rfl (Zqu underlying29 sizeOf42 rfl rfl rfl K.1 K.2.1 (by have:=(p.ks d).1.2;have:=K.2.2;omega)) ?_;generalize (if y=(aA (i64.wrap ((i64.wrap (aR g a)) * a))) then m else m.map (·.add ((aA (i64.wrap ((i64.wrap (aR g a)) * a))) * 3)))=n at *;refine .ld (d:=29) (v:=(.slice n (((C.take (aA (i64.wrap ((i64.wrap ((i64.wrap (aR g a)) * a))+a)))).drop (aA (i64.wrap ((i64.wrap (aR g a)) * a)))).length) (y - (aA (i64.wrap ((i64.wrap (aR g a)) * a)))))) (congrArg (fun X=>Value.slice n X (y - (aA (i64.wrap ((i64.wrap (aR g a)) * a))))) (show (aA (i64.wrap ((i64.wrap ((i64.wrap (aR g a)) * a))+a))) - (aA (i64.wrap ((i64.wrap (aR g a)) * a)))=((C.take (aA (i64.wrap ((i64.wrap ((i64.wrap (aR g a)) * a))+a)))).drop (aA (i64.wrap ((i64.wrap (aR g a)) * a)))).length by rw [bH,nK];have:=K.2;omega)) ?_;obtain ⟨W,Q,b⟩:=bZ b;refine Zi (Zr7 2 3 Q L) fun _ _ ⟨V,a8,a9,ba,bb,o,J,G,H⟩=>⟨_,o,?_⟩;refine Xr (col:=V) #[.bool false,(nI),(nI)] 4 zeroValue42 fun _ _ t z O=>Z6 O ?_
   intro _ x F Z;refine go ?_;refine lV _ (Z5 isAgg42 sizeOf42 Z) ?_;obtain ⟨_,v,b⟩:=bZ b;replace G:=(G.gr z).kp x;replace H:=(H.gr z).kp x;refine Zi (Zoo v ((G.toSlF (Zg.int .u32)).froz 3) ((H.froz 2).toSlF (Zg.int .u32))) fun _ B ⟨o,E⟩=>⟨_,o,?_⟩;replace E:=Rr t E;refine go ?_;replace h:=(((h.gr J).gr z).kp x).gr E;replace d:=(((d.grow J).grow z).kp x F).grow E;replace G:=G.gr E;replace H:=H.gr E;replace Z:=Z.gr E;refine Zm b (fun A b=>go ?_) fun A b=>?_
   ·obtain ⟨T,J,b⟩:=bZ b;refine lI J ((D.ks d).addr J) ?_;obtain ⟨_,I,bh⟩:=(D.ks d).atN J;obtain ⟨_,_,rfl,l,bj⟩:=Wq I;obtain ⟨_,_,rfl,i,bm⟩:=Wq l;obtain ⟨rfl,_⟩:=i;obtain ⟨⟨bn,bo,rfl,bp⟩,_⟩:=bm;obtain ⟨⟨bq,br,rfl,bs⟩,_⟩:=bj;refine lV (.agg #[.bool T.1.1,.slice bn T.1.2.length bo,.slice bq T.2.length br]) (Yl isAgg42 sizeOf42 rfl rfl bh) ?_;obtain ⟨s,R,b⟩:=bZ b;refine Zi (Z55 5 6 R bp bs) fun _ _ ⟨J,D,E,F,I,o,j,c,k⟩=>⟨_,o,?_⟩;have K:=Yg.join (Yg.joinL (Zaa s.1.1) c.has) k.has (by decide) (by decide);replace h:=h.gr j;replace h:=h.recol 6 5;replace d:=d.grow j;replace d:=d.recol 6 5 (by decide) (by decide);refine U6 (col:=(Xv 6 5 J)) (r:=(rO 45)) (xs:=[((s.1.1,s.1.2),s.2)]) [(.agg #[.bool s.1.1,.slice D s.1.2.length E,.slice F s.2.length I])] 5 (W5.cons1 (cs:=[.bool s.1.1,.slice D s.1.2.length E,.slice F s.2.length I]) K Rows.nil0) ?_;intro _ _ _ i u;obtain ⟨x,b⟩:=Z4 b;replace h:=h.gr i;refine Wy (c:=1) (c2:=5) h (u.srcC (by decide)) x fun _ _ _ _ T n=>go ?_;replace d:=(d.grow i).kpp T;exact ⟨rfl,_,_,_,_,b,d,n,rfl⟩
   refine Zx ?_;have w:=Zu.clip (fun _=>false) t B;refine Zih (col:=t) [(0,1),(1,1),(2,1),(3,0),(4,0),(5,3),(6,1),(7,1),(8,1),(9,4),(10,2),(11,1)] (by kernel_rfl) (by kernel_rfl) ⟨fun f=>absurd f (by decide),fun f=>absurd f (by decide),fun f=>absurd f (by decide),fun f=>absurd f (by decide),fun f=>absurd f (by decide),fun f=>absurd f (by decide),fun f=>absurd f (by decide),fun f=>absurd f (by decide),fun f=>absurd f (by decide),fun _=>⟨_,_,_,rfl,Sa zeroValue42⟩,fun f=>absurd f (by decide),fun f=>absurd f (by decide),trivial⟩<|Vf (v:=(.slice m C.length y)) rfl rfl (fun _=>Vl rfl) ?_;refine Vf (v:=(.int .i64 g)) rfl rfl (fun _=>Vl rfl) ?_;obtain ⟨U,l,b⟩:=bZ b;replace d:=d.kpp w;refine Vf (v:=(Yj m (aA g * 3))) rfl rfl (fun _=>X8 underlying29 sizeOf42 rfl rfl (Z0 l).1 (Z0 l).2.1 ((p.ks d).addr l)) ?_;obtain ⟨_,b3,b4⟩:=(p.ks d).atN l;obtain ⟨_,_,rfl,b5,b6⟩:=Wq b3;obtain ⟨_,_,rfl,b7,b8⟩:=Wq b5;obtain ⟨rfl,_⟩:=b7;obtain ⟨⟨b9,ca,rfl,al⟩,_⟩:=b8;obtain ⟨⟨cb,cc,rfl,am⟩,_⟩:=b6;refine Ta (v:=(.agg #[.bool U.1.1,.slice b9 U.1.2.length ca,.slice cb U.2.length cc])) rfl rfl (fun _ c=>Yl isAgg42 sizeOf42 rfl rfl (b4.gr (c.bl (Zo B t)))) ?_;refine Ta (v:=(.agg #[.bool W.1.1,.slice a8 W.1.2.length a9,.slice ba W.2.length bb])) rfl rfl (fun _ c=>Yl isAgg42 sizeOf42 rfl rfl ((Z.kpp w).atN.gr (c.bl (Zo B t)))) ?_;refine Vz rfl rfl ?_;intro D j;have c:=j.bl (Zo B t);obtain ⟨i,S,b⟩:=bZ b;refine Zi (Zvs 7 8 S (((al.gr c).froz 2).froz 3) (((am.gr c).froz 2).froz 3) ((((G.kpp w).gr c).toSlF (Zg.int .u32)).froz 3) ((((H.kpp w).gr c).froz 2).toSlF (Zg.int .u32))) fun _ k ⟨p,C,G,H,L,o,x,g,m⟩=>⟨_,o,?_⟩;replace g:=g.thaw (Z1 .u32) x (((Fz.refl (col:=(Zo B t))).froz 2).froz 3);replace m:=m.thaw (Z1 .u32) x (((Fz.refl (col:=(Zo B t))).froz 2).froz 3);replace x:=x.thawR (col:=(Zo B t));generalize Xa D.heap.size (Zo B t) p=l at *;refine Zl ?_
   refine ⟨fun q=>Zj (Zo k l) k (Zo k l) q,fun Z=>(Zo k l) Z=497,Zj.refl _ _,Vt,fun _=>⟨fun _ f=>V4 j x f,fun t A=>x.below.block t A,fun Z A I=>Ts x Z A (by first | exact I | (simp only [Ya,I];rfl) | (simp only [Ya,Xv,I];rfl))⟩,?_⟩;have t:=Zu.clip (fun _=>false) l k;refine Vf (v:=(.tuple #[(.agg #[.bool i.1.1.1,.slice C i.1.1.2.length G,.slice H i.1.2.length L]),.int .i64 i.2])) rfl rfl (fun _=>Vl rfl) ?_;refine Vf (v:=(.agg #[.bool i.1.1.1,.slice C i.1.1.2.length G,.slice H i.1.2.length L])) rfl rfl (fun _=>Xt rfl rfl) ?_;refine Vf (v:=(.int .i64 i.2)) rfl rfl (fun _=>Xt rfl rfl) ?_;refine Zik rfl rfl (Sa zeroValue42) fun z o=>Vz rfl rfl ?_;intro A ⟨j,hZ0⟩;replace h:=(((h.kpp w).gr c).gr x).kpp t;replace d:=((d.grow c).grow x).kpp t;have c:=j.bl (Zo k l);obtain ⟨p,K⟩:=Zf5 (col:=(Zo k l)) 9 hZ0 o;replace K:Zd 42 9 (Xm z 9 (Zo k l)) A z #[.bool false,(nI),(nI)]:=K;refine Z6 K fun w o B E=>Zl ?_;refine ⟨fun q=>Zj (Zo w (Xm z 9 (Zo k l))) w (Zo w (Xm z 9 (Zo k l))) q,fun Z=>(Zo w (Xm z 9 (Zo k l))) Z=497,Zj.refl _ _,Vt,fun f=>absurd f (by decide),?_⟩;have X:=Zu.clip (fun _=>false) (Xm z 9 (Zo k l)) w;refine Vf (v:=(.int .i64 i.2)) rfl rfl (fun _=>T0 rfl) ?_;refine Zil ?_;replace g:=((((g.kpp t).gr c).kpp p).kp o).kpp X;replace m:=((((m.kpp t).gr c).kpp p).kp o).kpp X;replace h:=(((h.gr c).kpp p).kp o).kpp X;replace d:=(((d.grow c).kpp p).kp o B).kpp X;intro U c;replace c:Zj (Zo w (Xm z 9 (Zo k l))) w (Zo w (Xm z 9 (Zo k l))) U:=.of_below c.below;refine go ?_;refine lV _ (Z5 isAgg42 sizeOf42 ((E.kpp X).gr c)) ?_;have f:=Yg.join (Yg.joinL (Zaa i.1.1.1) (g.gr c).has) (m.gr c).has (by decide) (by decide);replace h:=h.gr c;replace h:=h.recol 8 7;replace d:=d.grow c;replace d:=d.recol 8 7 (by decide) (by decide)
   refine U6 (col:=(Xv 8 7 (Zo w (Xm z 9 (Zo k l))))) (r:=(rO 45)) (xs:=[((i.1.1.1,i.1.1.2),i.1.2)]) [(.agg #[.bool i.1.1.1,.slice C i.1.1.2.length G,.slice H i.1.2.length L])] 7 (W5.cons1 (cs:=[.bool i.1.1.1,.slice C i.1.1.2.length G,.slice H i.1.2.length L]) f Rows.nil0) ?_;intro _ _ _ f W;obtain ⟨g,b⟩:=Z4 b;replace h:=h.gr f;refine Wy (c:=1) (c2:=7) h (W.srcC (by decide)) g fun _ _ _ _ q B=>go ?_;replace d:=(d.grow f).kpp q;exact ⟨rfl,_,_,_,_,b,d,B,rfl⟩
  cases b;exact ⟨rfl,_,_,_,rfl,d.fin (cm [(1,c1)]),d.fo h⟩
def PB (B:Nat) (l:List QV):Prop:=∀ i,i≤l.length→qs (Xj (l.take i))≤B
theorem Z8r {N:Nat} (l:List QV) (hr:Z3 N 16):Qq N l=Qr N l (Zn 0).1.1 (Zn 0).1.2 (Zn 0).2:=by
 obtain ⟨a,b⟩:=hr
 have e:Zn 0=((false,[]),[1]):=by
  rw [Zn,Xu]
  simp only [Rat.zero_num,Rat.zero_den,Int.natAbs_zero,Vh,Sd]
  rfl
 rw [e,Qq,Zk9 (by decide) (by omega),oB]
 rw [show (1:Int).toNat=1 from rfl,Sd]
theorem Z0d (l:List QV) {i:Nat} (h:i<l.length):Xj (l.take (i+1))=Xj (l.take i)+Zr l[i]:=by
 rw [cO,aL h,bX,Xj,Xj,dI,List.sum_append,List.map_singleton,List.sum_singleton]
section
variable {N B:Nat} (hr:Z3 N (8 * B+64))
include hr
theorem Zxk (l:List QV) (hl:∀ a ∈ l,RV B a) (hp:PB B l):∀ (m i:Nat),i+m=l.length→Qr N (l.drop i) (Zn (Xj (l.take i))).1.1 (Zn (Xj (l.take i))).1.2 (Zn (Xj (l.take i))).2=some (Zn (Xj l))
 | 0,i,h=>by
  rw [aG (by omega),Qr.eq_1,bA (by omega)]
 | m+1,i,h=>by
  have b:i<l.length:=by omega
  have c:Qo N (((Zn (Xj (l.take i))).1.1,(Zn (Xj (l.take i))).1.2),(Zn (Xj (l.take i))).2) ((l[i].1.1,l[i].1.2),l[i].2)=some (Zn (Xj (l.take (i+1)))):=by
   have:=Zlx (N:=N) (W7 (hp i (by omega))) (hl _ (aB b)) (hr.mono (by omega))
   rwa [Y5,← Z0d l b] at this
  rw [aF b,Qr.eq_2,c,oB]
  exact Zxk l hl hp m (i+1) (by omega)
theorem Z8q {l:List QV} (hl:∀ a ∈ l,RV B a) (hp:PB B l):Qq N l=some (Zn (Xj l)):=by
 have:=Zxk hr l hl hp l.length 0 (cC _)
 rw [aM,eI,show Xj []=0 from rfl] at this
 rw [Z8r l (hr.mono (by omega))];exact this
theorem Z1f (l:List QV) (hl:∀ a ∈ l,RV B a) (hp:PB B l) (hll:l.length≤1099511627776):∀ (f i:Nat),i≤l.length→l.length<f+i→Zda N l f (Zn (Xj (l.take i))).1.1 (Zn (Xj (l.take i))).1.2 (Zn (Xj (l.take i))).2 (i:Int)=some (Zn (Xj l))
 | 0,i,b,c=>by omega
 | f+1,i,b,c=>by
  rw [Zda.eq_2]
  by_cases hi:i<l.length
  ·have d:Ze5 N (((Zn (Xj (l.take i))).1.1,(Zn (Xj (l.take i))).1.2),(Zn (Xj (l.take i))).2) ((l[i].1.1,l[i].1.2),l[i].2)=some (Zn (Xj (l.take (i+1)))):=by
    have:=Zt1 (N:=N) (W7 (hp i (by omega))) (hl _ (aB hi)) (hr.mono (by omega))
    rwa [Y5,← Z0d l hi] at this
   rw [if_pos (dT (by omega)),Zs hi,oB,d,oB,wS (by omega)]
   exact Z1f l hl hp hll f (i+1) (by omega) (by omega)
  ·rw [if_neg (dF (by omega)),bA (by omega)]
theorem Xbk {l:List QV} (hl:∀ a ∈ l,RV B a) (hp:PB B l) (hll:l.length≤1099511627776) (hN:l.length<N):Zau N l=some (Zn (Xj l)):=by
 have:=Z1f hr l hl hp hll N 0 (aQ _) (by omega)
 rw [eI,show Xj []=0 from rfl] at this
 rw [Zau,Zue (hr.mono (by omega)),oB]
 exact this
variable {q:List QV} {k:Nat} (hk:1≤k) (hq:∀ x ∈ q,RV B x) (hql:q.length≤1048576) (hpb:∀ j,PB B ((q.drop (j * k)).take k))
include hk hq hql hpb
theorem Zyl:∀ (m j f:Nat) (A t:List QV),A.length=j * k→t.length=m * k→q.length=(j+m) * k→m<f→k<N→
  S0 N q (k:Int) f (A++t) ((j * k:Nat):Int)=some (A++Wv k m t (q.drop (j * k)))
 | m,j,0,_,_,_,_,_,h,_=>by omega
 | 0,j,f+1,A,t,c,ht,d,_,_=>by
  rw [dP] at ht
  rw [S0.eq_2,if_neg (dF (by simp only [nA];omega)),Wv]
 | m+1,j,f+1,A,t,c,ht,d,w,b=>by
  have r:(j+1) * k=j * k+k:=by rw [bB,aV]
  have y:(j+(m+1)) * k=j * k+(m * k+k):=by rw [bB,bB,aV]
  rw [bB,aV] at ht
  have g:j * k+k≤q.length:=by omega
  have s:Qq N ((q.drop (j * k)).take k)=_:=Z8q hr (fun a u=>hq a (cI (cL u))) (hpb j)
  have i:qs (Xj ((q.drop (j * k)).take k))≤B:=by
   have:=hpb j _ (aX _)
   rwa [dY] at this
  have v:Qp N (((Zn (Xj ((q.drop (j * k)).take k))).1.1,(Zn (Xj ((q.drop (j * k)).take k))).1.2),(Zn (Xj ((q.drop (j * k)).take k))).2)=some (Tz (Xj ((q.drop (j * k)).take k))):=by
   have:=Zly (N:=N) (W7 i) (hr.mono (by omega))
   rwa [Y5] at this
  have l:(q.take (j * k+k)).drop (j * k)=(q.drop (j * k)).take k:=by rw [iO,gB]
  have step:∀ R:List QV,R.length=k→R=Sp (t.take k) ((q.drop (j * k)).take k)→S0 N q (k:Int) f (A++(R++t.drop k)) ((j * k+k:Nat):Int)=some (A++Wv k (m+1) t (q.drop (j * k))):=fun R C n=>by
   have o:=Zyl m (j+1) f (A++R) (t.drop k) (by rw [nA];omega) (by rw [bH];omega) (by rw [d];congr 1;omega) (by omega) b
   rw [r,bC] at o
   rw [o,Wv,← n,dK,bC]
  rw [S0.eq_2,if_pos (dT (by simp only [nA];omega)),Zv (by omega),Z7 (by omega),show aA (((j * k:Nat):Int)+(k:Int))=j * k+k by omega,aC,l,s,oB,v,oB]
  by_cases h0:Xj ((q.drop (j * k)).take k)=0
  ·have:=step (t.take k) (by rw [nK];omega) (by rw [Sp,if_pos h0])
   rw [cT] at this
   rw [if_pos (dT (Zb9.2 h0)),Zjk,Zv (by omega)]
   exact this
  ·have p:=Zym hr hk hq hql g (S0 N q (k:Int) f) h0 i A t c (by omega) k 0 N (by omega) b
   rw [eI,dD,bF,aM,bR] at p
   rw [if_neg (by rw [decide_eq_false fun e=>h0 (Zb9.1 e)];decide)]
   refine p.trans ?_
   exact step _ (by rw [aH,nK,bH];omega) (by rw [Sp,if_neg h0])
theorem Z9j {R:Nat} {t:List QV} (ht:t.length=R * k) (hqR:q.length=R * k) (hkN:k<N) (hRN:R<N):Zl9 N t q (k:Int)=some (Wv k R t q):=by
 have:=Zyl hr hk hq hql hpb R 0 N [] t (by rw [dP];rfl) ht (by rw [cC];exact hqR) hRN hkN
 rw [dP,bF,bF,aM] at this
 rw [Zl9]
 exact this
end
/-! the document's -/
theorem Xbz {k R:Nat} {t q:List QV} (hk:1≤k) (ht:t.length=R * k) (hq:q.length=R * k) {i:Nat} (hi:i<R * k) (d:QV):
  (Wv k R t q).getD i d=if Xj ((q.drop (i / k * k)).take k)=0 then t.getD i d else Zn (Zr (q.getD i d) / Xj ((q.drop (i / k * k)).take k)):=by
 have e:i / k<R:=(dQ (by omega)).2 hi
 have h:=Z2x (k:=k) R t q ht hq (i / k) e
 have b:i % k<k:=Nat.mod_lt _ (by omega)
 have c:i / k * k+i % k=i:=by rw [bS];exact Nat.div_add_mod i k
 have f:=Zuc R t q ht hq
 have g:∀ l:List QV,((l.drop (i / k * k)).take k).getD (i % k) d=l.getD i d:=fun l=>by
  rw [aE,List.getElem?_take_of_lt b,List.getElem?_drop,c,← aE]
 rw [← g (Wv k R t q),h,Sp]
 split
 ·exact g t
 ·have a:((q.drop (i / k * k)).take k).length=k:=by
   have:(i / k+1) * k≤R * k:=bD _ (by omega)
   rw [bB,aV] at this
   rw [nK,bH];omega
  rw [← g q,Xl (by rw [aH,a];exact b),Xl (by rw [a];exact b),cA]
section
variable {N B:Nat} (hr:Z3 N (8 * B+64))
include hr
theorem Xbj {x:QV} (hx:RV B x):Zkk N x=some (Yy x):=by
 have a:(Zf (Xx x.2)).length≤B+1:=by
  have:=U7 hx
  omega
 have b:Xx x.2≠0:=Us _
 rw [Zkk,Zfv hx (hr.mono (by omega)),oB,Zq0 (num:=x.1) (k:=B) (l:=B+1) hx.m (Xd _) (by rw [Xb];exact b) hx.lm a (hr.mono (by omega)),oB,Xb]
 rfl
variable {q t:List QV} {k R:Nat} (hk:1≤k) (hq:∀ x ∈ q,RV B x) (ht:∀ x ∈ t,RV B x) (hql:q.length=R * k) (htl:t.length=R * k) (hb:R * k≤1048576) (hpb:∀ j,PB B ((q.drop (j * k)).take k)) (hN:1048577<N)
include hk hq ht hql htl hb hpb hN
theorem Zt7:∀ (f i:Nat) (out:List QV),out=(Wv k R (t.map Yy) q).take i→i≤q.length→q.length<f+i→Zdr N q (k:Int) t f out (i:Int)=some (Wv k R (t.map Yy) q)
 | 0,i,out,_,s,u=>by omega
 | f+1,i,out,g,s,u=>by
  have m:=Zuc R (t.map Yy) q (by rw [aH];exact htl) hql
  rw [aH] at m
  rw [Zdr.eq_2]
  by_cases hi:i<q.length
  ·have c:i / k * k≤i:=Nat.div_mul_le_self i k
   have M:i / k<R:=(dQ (by omega)).2 (by omega)
   have n:i / k * k+k≤R * k:=by
    have:(i / k+1) * k≤R * k:=bD _ (by omega)
    rwa [bB,aV] at this
   have J:k≤1048576:=by omega
   have K:out.length=i:=by rw [g,nK];omega
   have v:aR (i:Int) (k:Int)=((i / k:Nat):Int):=rfl
   have L:i / k≤i:=cJ i k
   have at1:=Xbz (k:=k) (R:=R) (t:=t.map Yy) (q:=q) hk (by rw [aH];exact htl) hql (i:=i) (by omega) ((false,[]),[])
   generalize i / k=d at *
   have w:i64.wrap (i64.wrap (d:Int) * (k:Int))=((d * k:Nat):Int):=by
    rw [Zv (x:=(d:Int)) (by omega),← bN]
    generalize d * k=z at c ⊢
    exact Zv (by omega)
   have A:i64.wrap (((d * k:Nat):Int)+(k:Int))=((d * k+k:Nat):Int):=by
    generalize d * k=z at c n ⊢
    rw [Zv (by omega)];omega
   have o:(q.take (d * k+k)).drop (d * k)=(q.drop (d * k)).take k:=by rw [iO,gB]
   have C:Zau N ((q.drop (d * k)).take k)=_:=Xbk hr (fun a D=>hq a (cI (cL D))) (hpb d) (by rw [nK];omega) (by rw [nK];omega)
   have p:qs (Xj ((q.drop (d * k)).take k))≤B:=by
    have:=hpb d _ (aX _)
    rwa [dY] at this
   have E:Zat N (((Zn (Xj ((q.drop (d * k)).take k))).1.1,(Zn (Xj ((q.drop (d * k)).take k))).1.2),(Zn (Xj ((q.drop (d * k)).take k))).2)=some (Tz (Xj ((q.drop (d * k)).take k))):=by
    have:=Zqy (N:=N) (W7 p) (hr.mono (by omega))
    rwa [Y5] at this
   have b:i<t.length:=by omega
   have r:∀ y:QV,y=(Wv k R (t.map Yy) q).getD i ((false,[]),[])→out++[y]=(Wv k R (t.map Yy) q).take (i+1):=fun y F=>by
    rw [cO,aL (by omega),bX,← g,F,Xl (by omega)]
   rw [if_pos (dT (by omega)),Z7 (by omega),v,w,A,Z7 (by omega),aC,aC,o,C,oB,E,oB]
   by_cases h0:Xj ((q.drop (d * k)).take k)=0
   ·have G:Zkk N ((t[i].1.1,t[i].1.2),t[i].2)=some (Yy t[i]):=Xbj hr (ht _ (aB b))
    rw [if_pos (dT (Zb9.2 h0)),Zs b,oB,G,oB,Z7 (by simp only [aK,maxLen];omega),Zk5,wS (by omega)]
    have H:i<(t.map Yy).length:=by rw [aH];exact b
    rw [if_pos h0,Xl (l:=t.map Yy) H,cA] at at1
    exact Zt7 f (i+1) _ (r _ at1.symm) (by omega) (by omega)
   ·have I:Ze6 N ((q[i].1.1,q[i].1.2),q[i].2) (((Zn (Xj ((q.drop (d * k)).take k))).1.1,(Zn (Xj ((q.drop (d * k)).take k))).1.2),(Zn (Xj ((q.drop (d * k)).take k))).2)=some (Zn (Zr q[i] / Xj ((q.drop (d * k)).take k)),0):=by
     have:=Z1d (N:=N) (hq _ (aB hi)) (W7 p) (hr.mono (by omega))
     rwa [Y5,if_neg h0] at this
    rw [if_neg (by rw [decide_eq_false fun e=>h0 (Zb9.1 e)];decide),Zs hi,oB,I,oB,Z7 (by simp only [aK,maxLen];omega),Zk5,wS (by omega)]
    rw [if_neg h0,Xl hi] at at1
    exact Zt7 f (i+1) _ (r _ at1.symm) (by omega) (by omega)
  ·rw [if_neg (dF (by omega)),g,bA (by omega)]
theorem Xbs:Zm8 N q (k:Int) t=some (Wv k R (t.map Yy) q):=by
 rw [Zm8]
 exact Zt7 hr hk hq ht hql htl hb hpb hN N 0 [] rfl (aQ _) (by omega)
end
def Zfh (a:Int) (kk_L1:(Int→Int→Option Int)) (b:Int):Option Int:=
  kk_L1 b (i64.wrap (a+1))
def Za1 (N:Nat) (c:R0) (b:List Int):Nat→Int→Int→Option Int
  | 0,_,_=>none
  | e+1,d,a=>if (decide (a<(b.length:Int)))=true then ((Zk b a).bind fun g=>if (decide (g<0))=true then ((Zk c.2.2.1 a).bind fun f=>if (decide (131072<(i64.wrap (d * (f.length:Int)))))=true then (Zfh a (Za1 N c b e) 131072) else (Zfh a (Za1 N c b e) (i64.wrap (d * (f.length:Int))))) else (Zfh a (Za1 N c b e) d)) else (some d)
def Zfg (N:Nat) (a:R0) (b:List Int):Option Int:=
  Za1 N a b N 1 0
theorem Zv1 {N i j k l H:Nat} {o p q s v:Option Addr} {col:Ze} {c:World} {a:R0} {g:R2} {r:Int} (b:Zfg N a g=some r) (L:Sl Za.str col c o i a.2.1) (t:Sl rV col c p j a.2.2.1) (M:Sl rP col c q k a.2.2.2.1) (R:Sl (Za.slice rQ) col c s l a.2.2.2.2) (h:Sl rI col c v H g):
    Calls prog 51 #[(.agg (Rq a o i p j q k s l)),.slice v g.length H] c (Wn c r):=by
 refine Xc 4 (m:=29) func51 rfl rfl rfl rfl rfl ?_;rw [Zfg.eq_1] at b;have d:=St.start col c;refine go ?_;refine Xg (col:=(Zh col)) 1 rfl fun I _ _ K f=>go ?_;replace d:=d.grow K;refine Zt [1,2,1000000] (fun G u C=>∃ D E w m,m=G∧Za1 N a g m E w=some r∧St c (Zh col) D C∧Zd 27 1 D C I (Rq a o i p j q k s l)∧[5,6].map u=[.int .i64 E,.int .i64 w]) N ⟨_,1,0,_,rfl,b,d,f,rfl⟩ ?_;clear b;intro G u C O;obtain ⟨D,E,w,m,F,b,d,f,n⟩:=O;subst F;refine .lL [5,6] n ?_;replace t:=t.k0;replace h:=h.k0
 cases m with
 | zero=>rw [Za1.eq_1] at b;cases b
 | succ m=>
  rw [Za1.eq_2] at b;refine go ?_;refine Zm b (fun e b=>?_) fun e b=>go ?_
  ·refine Xz<|Zx ?_;refine Wp.cutK [1,2,6,1000000] (fun u z=>∃ A B,Zfh w (Za1 N a g m) B=some r∧St c (Zh col) A z∧Zd 27 1 A z I (Rq a o i p j q k s l)∧[5].map u=[.int .i64 B]) ?_ ?_
   ·intro u z J;obtain ⟨A,B,b,d,f,n⟩:=J;rw [Zfh.eq_1] at b;refine .lL [5] n<|go ?_;exact ⟨m,by omega,rfl,⟨_,_,_,_,rfl,b,d,f,rfl⟩⟩
   refine go ?_;obtain ⟨_,x,b⟩:=bZ b;refine lI x ((h.ks d).addr x)<|lW ((h.ks d).atInt x) ?_;refine go ?_;refine Zm b (fun e b=>go ?_) fun e b=>?_
   ·refine Z9 f<|Xk rfl ?_;obtain ⟨_,y,b⟩:=bZ b;refine lI y ((t.ks d).addr y) ?_;obtain ⟨_,P,Q⟩:=(t.ks d).atN y;obtain ⟨⟨_,_,rfl,_⟩,_⟩:=P;refine lW Q.one<|go ?_;refine Zm b (fun e b=>go ?_) fun e b=>?_
    ·exact ⟨rfl,_,131072,b,d,f,rfl⟩
    refine Xz ?_;exact ⟨rfl,_,_,b,d,f,rfl⟩
   refine Xz ?_;exact ⟨rfl,_,_,b,d,f,rfl⟩
  cases b;exact ⟨rfl,rfl,d.below⟩
def Zmz (a:Int) (kk_L1:(Int→Int→Option Rc)) (b:Int):Option Rc:=
  kk_L1 b (i64.wrap (a+1))
def Ze8 (d:List Int) (a c:Int) (kk_L2:(Int→Int→Option Rc)) (e:Bool):Option Rc:=
  if e=true then ((Zk d c).bind fun b=>if (decide (2147483647<b))=true then (some (0,4)) else (if (decide (2147483647<(i64.wrap (a * b))))=true then (some (0,4)) else (kk_L2 (i64.wrap (a * b)) (i64.wrap (c+1))))) else (some (a,0))
def Q0 (N:Nat) (a:List Int):Nat→Int→Int→Option Rc
  | 0,_,_=>none
  | d+1,b,c=>if (decide (c<(a.length:Int)))=true then (Ze8 a b c (Q0 N a d) (decide (0<b))) else (Ze8 a b c (Q0 N a d) false)
def Zdb (N:Nat) (a:List Int):Nat→Int→Int→Option Rc
  | 0,_,_=>none
  | c+1,d,b=>if (decide (b<(a.length:Int)))=true then ((Zk a b).bind fun e=>if (decide (e<0))=true then (some (0,3)) else (if (decide (e=0))=true then (Zmz b (Zdb N a c) 0) else (Zmz b (Zdb N a c) d))) else (Q0 N a N d 0)
def Zb1 (N:Nat) (a:List Int):Option Rc:=
  Zdb N a N 1 0
theorem Zr8 {N o:Nat} {n:Option Addr} {col:Ze} {g:World} {b:R2} {r:Rc} (a:Zb1 N b=some r) (f:Sl rI col g n o b):
    Calls prog 48 #[.slice n b.length o] g (fun e w'=>e= .returned (.tuple #[.int .i64 r.1,.int .i64 r.2])∧Below g.heap.size g w'):=by
 refine Zis 2 3 (m:=47) (args:=[.slice n b.length o]) func48 rfl rfl rfl rfl rfl ?_;rw [Zb1.eq_1] at a;have c:=St.start col g;refine go ?_;refine Zt [0,1000000] (fun s i G=>∃ I x u j,j=s∧Zdb N b j x u=some r∧St g (Zh col) I G∧[4,5].map i=[.int .i64 x,.int .i64 u]) N ⟨_,1,0,_,rfl,a,c,rfl⟩ ?_;clear a;intro s i G A;obtain ⟨I,x,u,j,p,a,c,h⟩:=A;subst p;refine .lL [4,5] h ?_;replace f:=f.k0
 cases j with
 | zero=>rw [Zdb.eq_1] at a;cases a
 | succ j=>
  rw [Zdb.eq_2] at a;refine go ?_;refine Zm a (fun d a=>?_) fun d a=>go ?_
  ·refine Xz<|Zx ?_;refine Wp.cutK [0,5,1000000] (fun i B=>∃ D v,Zmz u (Zdb N b j) v=some r∧St g (Zh col) D B∧[4].map i=[.int .i64 v]) ?_ ?_
   ·intro i B z;obtain ⟨D,v,a,c,h⟩:=z;rw [Zmz.eq_1] at a;refine .lL [4] h<|go ?_;exact ⟨j,by omega,rfl,⟨_,_,_,_,rfl,a,c,rfl⟩⟩
   refine go ?_;obtain ⟨_,l,a⟩:=bZ a;refine lI l ((f.ks c).addr l)<|lW ((f.ks c).atInt l) ?_;refine go ?_;refine Zm a (fun d a=>go ?_) fun d a=>go ?_
   ·cases a;exact ⟨rfl,rfl,c.below⟩
   refine lI l ((f.ks c).addr l)<|lW ((f.ks c).atInt l) ?_;refine go ?_;refine Zm a (fun d a=>go ?_) fun d a=>?_
   ·exact ⟨rfl,_,0,a,c,rfl⟩
   refine Xz ?_;exact ⟨rfl,_,_,a,c,rfl⟩
  refine Zt [0,1000000] (fun s i F=>∃ H q t k,k=s∧Q0 N b k q t=some r∧St g (Zh col) H F∧[4,6].map i=[.int .i64 q,.int .i64 t]) N ⟨_,_,0,_,rfl,a,c,rfl⟩ ?_;clear a;intro s i F A;obtain ⟨H,q,t,k,p,a,c,h⟩:=A;subst p;refine .lL [4,6] h ?_
  cases k with
  | zero=>rw [Q0.eq_1] at a;cases a
  | succ k=>
   rw [Q0.eq_2] at a;refine Zx<|Zx ?_;refine Wp.cutK [0,4,6,1000000] (fun i C=>∃ E w,Ze8 b q t (Q0 N b k) w=some r∧St g (Zh col) E C∧[30].map i=[.bool w]) ?_ ?_
   ·intro i C z;obtain ⟨E,w,a,c,h⟩:=z;rw [Ze8.eq_1] at a;refine .lL [30] h ?_;refine Zm a (fun d a=>go ?_) fun d a=>go ?_
    ·obtain ⟨_,m,a⟩:=bZ a;refine lI m ((f.ks c).addr m)<|lW ((f.ks c).atInt m) ?_;refine go ?_;refine Zm a (fun d a=>go ?_) fun d a=>go ?_
     ·cases a;exact ⟨rfl,rfl,c.below⟩
     refine lI m ((f.ks c).addr m)<|lW ((f.ks c).atInt m) ?_;refine go ?_;refine Zm a (fun d a=>go ?_) fun d a=>go ?_
     ·cases a;exact ⟨rfl,rfl,c.below⟩
     exact ⟨k,by omega,rfl,⟨_,_,_,_,rfl,a,c,rfl⟩⟩
    cases a;exact ⟨rfl,rfl,c.below⟩
   refine go ?_;refine Ye a (fun y a=>go ?_) fun y a=>go ?_
   ·refine lV (.bool (decide (0<q))) (X0 (congrArg Value.bool y) rfl)<|Zl ?_;exact ⟨rfl,_,_,a,c,rfl⟩
   refine lV (.bool false) (X7 (congrArg Value.bool y) rfl)<|Zl ?_;exact ⟨rfl,_,_,a,c,rfl⟩
def Ze9 (N:Nat) (d:List Int):Nat→Int→R2→Int→Option Rf
  | 0,_,_,_=>none
  | f+1,e,c,a=>if (decide (0≤a))=true then ((Zk d a).bind fun b=>Z2 (b≠0) ((Zk c a).bind fun i=>(some (c.set (aA a) (bK e b))).bind fun g=>Z2 (b≠0) ((Ze9 N d f) (i64.wrap (aR e b)) g (i64.wrap (a - 1))))) else (some (c,0))
def Zm1 (N:Nat) (a:List Int) (b:Int) (c:Bool):Option Rf:=
  if c=true then (some (([]:List Int),3)) else (Z2 (a.length * 8≤281474976710656∧a.length≤maxLen) (Ze9 N a N b (aD a.length (0:Int)) (i64.wrap ((a.length:Int) - 1))))
def Zm0 (N:Nat) (b:List Int) (a:Int):Option Rf:=
  (Zb1 N b).bind fun c=>if (!decide (c.2=0))=true then (some (([]:List Int),c.2)) else (if (decide (a<0))=true then (Zm1 N b a true) else (Zm1 N b a (decide (c.1≤a))))
theorem Z6b {N u:Nat} {p:Option Addr} {col:Ze} {f:World} {c:R2} {l:Int} {r:Rf} (A:Nat) (a:Zm0 N c l=some r) (d:Sl rI col f p u c):
    Calls prog 103 #[.slice p c.length u,.int .i64 l] f (fun e w'=>∃ (col':Ze) (h:Option Addr) (g:Nat),e= .returned (.tuple #[.slice h r.1.length g,.int .i64 r.2])∧Zj col f col' w'∧Zb rI 3 A col' w' h g r.1):=by
 refine Zis 4 5 (m:=51) (args:=[.slice p c.length u,.int .i64 l]) func103 rfl rfl rfl rfl rfl ?_;rw [Zm0.eq_1] at a;have b:=St.start col f;refine go ?_;obtain ⟨w,T,a⟩:=bZ a;replace d:=d.k0;refine Zi (Zr8 T (d.ks b)) fun _ _ ⟨L,D⟩=>⟨_,L,?_⟩;replace D:=Rr (Zh col) D;refine lM (.tuple #[.int .i64 w.1,.int .i64 w.2])<|lV (.int .i64 w.1) (Xt rfl rfl)<|lV (.int .i64 w.2) (Xt rfl rfl)<|go ?_;replace b:=b.grow D;refine Zm a (fun i a=>go ?_) fun i a=>?_
 ·cases a;exact ⟨rfl,_,none,0,rfl,b.fin (cm []),Zb.nil⟩
 refine Xz<|Zx<|Zx ?_;refine Wp.cutK [0,1,1000000] (fun s J=>∃ I B,Zm1 N c l B=some r∧St f (Zh col) I J∧[24].map s=[.bool B]) ?_ ?_
 ·intro s J Q;obtain ⟨I,B,a,b,q⟩:=Q;rw [Zm1.eq_1] at a;refine .lL [24] q ?_;refine Zm a (fun i a=>go ?_) fun i a=>go ?_
  ·cases a;exact ⟨rfl,_,none,0,rfl,b.fin (cm []),Zb.nil⟩
  obtain ⟨O,a⟩:=Z4 a;refine Sc (col:=I) (w:=J) (r:=rI) (n:=c.length) (x0:=0) 1 rfl underlying36 Tryz.t3 rfl rfl rfl rfl rfl rfl rfl O.1 O.2 (Zcb .i64 0) fun _ _ _ R Y=>go ?_;replace b:=b.grow R;refine Zt [0,1000000] (fun z s F=>∃ G j t v n y o,o=z∧Ze9 N c o j n y=some r∧St f (Zh col) G F∧Zb rI 3 1 G F t v n∧[1,8,9].map s=[.int .i64 j,.slice t n.length v,.int .i64 y]) N ⟨_,_,_,_,_,_,_,rfl,a,b,Y,rfl⟩ ?_;clear a;intro z s F S;obtain ⟨G,j,t,v,n,y,o,M,a,b,K,q⟩:=S;subst M;refine .lL [1,8,9] q ?_
  cases o with
  | zero=>rw [Ze9.eq_1] at a;cases a
  | succ o=>
   rw [Ze9.eq_2] at a;refine go ?_;refine Zm a (fun i a=>go ?_) fun i a=>go ?_
   ·obtain ⟨m,k,a⟩:=bZ a;refine lI k ((d.ks b).addr k)<|lW ((d.ks b).atInt k) ?_;obtain ⟨U,a⟩:=Z4 a;refine lV (.int .i64 (bK j m)) (S9 j m rfl rfl U) ?_;obtain ⟨_,C,a⟩:=bZ a;refine lI C (K.addr C) ?_;obtain ⟨H,x,a⟩:=bZ a;have x:H=n.set (aA y) (bK j m):=(Option.some.inj x).symm;refine Wb (x1:=bK j m) K C ?_;intro _ W X P;rw [← x] at P;refine .ld (d:=8) (v:=(.slice t H.length v)) (congrArg (fun z=>Value.slice t z v) (show n.length=H.length by rw [x,nS])) ?_;refine go ?_;replace b:=b.kp W X;refine lI k ((d.ks b).addr k)<|lW ((d.ks b).atInt k) ?_;obtain ⟨V,a⟩:=Z4 a;refine lV (.int .i64 (i64.wrap (aR j m))) (Vy j m rfl rfl V)<|go ?_;exact ⟨o,by omega,rfl,⟨_,_,_,_,_,_,_,rfl,a,b,P,rfl⟩⟩
   cases a;exact ⟨rfl,_,_,_,rfl,b.fin (cm [(1,A)]),b.fo K⟩
 refine go ?_;refine Ye a (fun E a=>go ?_) fun E a=>go ?_
 ·refine lV (.bool true) (X0 (congrArg Value.bool E) rfl)<|Zl ?_;exact ⟨rfl,_,_,a,b,rfl⟩
 refine lV (.bool (decide (w.1≤l))) (X7 (congrArg Value.bool E) rfl)<|Zl ?_;exact ⟨rfl,_,_,a,b,rfl⟩
def Zk1 (a:Int) (kk_L1:(List Int→Int→Option R6)) (b:List Int):Option R6:=
  kk_L1 b (i64.wrap (a+1))
def Zk2 (a:Int) (kk_L3:(List Int→Int→Int→Option R6)) (b:List Int) (c:Int):Option R6:=
  kk_L3 b c (i64.wrap (a+1))
def Zdn (N:Nat) (c:List Int) (f:Int) (b:List R2) (kk_L2:(Int→R6→Option R6)) (g:Rf):Nat→R2→Int→Int→Option R6
  | 0,_,_,_=>none
  | k+1,a,i,d=>if (decide (d<(c.length:Int)))=true then ((Zk c d).bind fun e=>if (decide (e<0))=true then ((Zk g.1 i).bind fun j=>Z2 ((a.length+[j].length) * 8≤140737488355328∧a.length+[j].length≤maxLen) (Zk2 d (Zdn N c f b kk_L2 g k) (a++[j]) (i64.wrap (i+1)))) else (Z2 ((a.length+[e].length) * 8≤140737488355328∧a.length+[e].length≤maxLen) (Zk2 d (Zdn N c f b kk_L2 g k) (a++[e]) i))) else (Z2 ((b.length+[a].length) * 24≤140737488355328∧b.length+[a].length≤maxLen) (kk_L2 (i64.wrap (f+1)) (b++[a])))
def Za0 (N:Nat) (b c:List Int) (d:Rc):Nat→Int→R6→Option R6
  | 0,_,_=>none
  | f+1,a,e=>if (decide (a<d.1))=true then ((Zm0 N c a).bind fun g=>Zdn N b a e (Za0 N b c d f) g N ([]:List Int) 0 0) else (some e)
def Zb5 (N:Nat) (d:R0) (b:List Int):Nat→R2→Int→Option R6
  | 0,_,_=>none
  | f+1,a,c=>if (decide (c<(b.length:Int)))=true then ((Zk b c).bind fun g=>if (decide (g<0))=true then ((Zk d.2.2.1 c).bind fun e=>Z2 ((a.length+[(e.length:Int)].length) * 8≤140737488355328∧a.length+[(e.length:Int)].length≤maxLen) (Zk1 c (Zb5 N d b f) (a++[(e.length:Int)]))) else (Zk1 c (Zb5 N d b f) a)) else ((Zb1 N a).bind fun i=>Za0 N b a i N 0 ([]:List R2))
def Zk0 (N:Nat) (a:R0) (b:List Int):Option R6:=
  Zb5 N a b N ([]:List Int) 0
theorem Z6n {N bf V W bl o:Nat} {bz b0 J K Y:Option Addr} {col:Ze} {f:World} {d:R0} {j:R2} {r:R6} (c1:Nat) (a:Zk0 N d j=some r) (B:Sl Za.str col f bz bf d.2.1) (L:Sl rV col f b0 V d.2.2.1) (C:Sl rP col f J W d.2.2.2.1) (D:Sl (Za.slice rQ) col f K bl d.2.2.2.2) (l:Sl rI col f Y o j):
    Calls prog 53 #[(.agg (Rq d bz bf b0 V J W K bl)),.slice Y j.length o] f (fun e w'=>∃ (col':Ze) (p:Option Addr) (o:Nat),e= .returned ((.slice p r.length o))∧Zj col f col' w'∧Zb (Za.row 3 rI) 36 c1 col' w' p o r):=by
 refine Xc 4 (m:=84) func53 rfl rfl rfl rfl rfl ?_;rw [Zk0.eq_1] at a;have b:=St.start col f;refine go ?_;refine Xg (col:=(Zh col)) 1 rfl fun a3 _ _ p q=>go ?_;replace b:=b.grow p;refine Zt [1,2,1000000] (fun w k X=>∃ y z Z n F O,O=w∧Zb5 N d j O n F=some r∧St f (Zh col) y X∧Zd 27 1 y X a3 (Rq d bz bf b0 V J W K bl)∧Zb rI 3 2 y X z Z n∧[5,6].map k=[.slice z n.length Z,.int .i64 F]) N ⟨_,none,0,_,0,_,rfl,a,b,q,Zb.nil,rfl⟩ ?_;clear a;intro w k X b1;obtain ⟨y,z,Z,n,F,O,t,a,b,q,c,h⟩:=b1;subst t;refine .lL [5,6] h ?_;replace L:=L.k0;replace l:=l.k0
 cases O with
 | zero=>rw [Zb5.eq_1] at a;cases a
 | succ O=>
  rw [Zb5.eq_2] at a;refine go ?_;refine Zm a (fun i a=>?_) fun i a=>go ?_
  ·refine Xz<|Zx ?_;refine Wp.cutK [1,2,6,1000000] (fun k A=>∃ C B E D,Zk1 F (Zb5 N d j O) D=some r∧St f (Zh col) C A∧Zd 27 1 C A a3 (Rq d bz bf b0 V J W K bl)∧Zb rI 3 2 C A B E D∧[5].map k=[.slice B D.length E]) ?_ ?_
   ·intro k A hJ;obtain ⟨C,B,E,D,a,b,q,A,h⟩:=hJ;rw [Zk1.eq_1] at a;refine .lL [5] h<|go ?_;exact ⟨O,by omega,rfl,⟨_,_,_,_,_,_,rfl,a,b,q,A,rfl⟩⟩
   refine go ?_;obtain ⟨_,o,a⟩:=bZ a;refine lI o ((l.ks b).addr o)<|lW ((l.ks b).atInt o) ?_;refine go ?_;refine Zm a (fun i a=>go ?_) fun i a=>?_
   ·refine Z9 q<|Xk rfl ?_;obtain ⟨a8,p,a⟩:=bZ a;refine lI p ((L.ks b).addr p) ?_;obtain ⟨_,a9,ba⟩:=(L.ks b).atN p;obtain ⟨⟨_,_,rfl,_⟩,_⟩:=a9;refine lW ba.one<|go ?_;refine V5 (col:=y) [(a8.length:Int)] 3 ?_;intro _ _ _ A K;obtain ⟨L,a⟩:=Z4 a;replace c:=c.gr A;refine Wy c (K.srcN (NB.int (k:=.i64))) L fun _ _ _ _ D O=>go ?_;replace q:=(q.gr A).kpp D;replace b:=(b.grow A).kpp D;exact ⟨rfl,_,_,_,_,a,b,q,O,rfl⟩
   refine Xz ?_;exact ⟨rfl,_,_,_,_,a,b,q,c,rfl⟩
  obtain ⟨R,F,a⟩:=bZ a;refine Zi (Zr8 F (c.toSlF (Zg.int .i64))) fun _ _ ⟨T,B⟩=>⟨_,T,?_⟩;replace B:=Rr y B;refine lM (.tuple #[.int .i64 R.1,.int .i64 R.2])<|lV (.int .i64 R.1) (Xt rfl rfl)<|lV (.int .i64 R.2) (Xt rfl rfl)<|go ?_;replace c:=c.gr B;replace b:=b.grow B;refine Zt [1,5,7,1000000] (fun w k U=>∃ M b2 b3 b4 v x,x=w∧Za0 N j n R x b2 v=some r∧St f (Zh col) M U∧Zb rI 3 2 M U z Z n∧Zb (Za.row 3 rI) 36 4 M U b3 b4 v∧[10,9].map k=[.int .i64 b2,.slice b3 v.length b4]) N ⟨_,0,none,0,_,_,rfl,a,b,c,Zb.nil,rfl⟩ ?_;clear a;intro w k U b1;obtain ⟨M,b2,b3,b4,v,x,t,a,b,c,g,h⟩:=b1;subst t;refine .lL [10,9] h ?_
  cases x with
  | zero=>rw [Za0.eq_1] at a;cases a
  | succ x=>
   rw [Za0.eq_2] at a;refine go ?_;refine Zm a (fun i a=>go ?_) fun i a=>go ?_
   ·obtain ⟨u,J,a⟩:=bZ a;refine Zi (Z6b 5 J (c.toSlF (Zg.int .i64))) fun _ _ ⟨q,H,I,T,Y,m⟩=>⟨_,T,?_⟩;replace m:=m.thaw (Z1 .i64) Y ((Fz.refl (col:=M)).froz 2);replace Y:=Y.thawR (col:=M);generalize Xa U.heap.size M q=y at *;refine lM (.tuple #[.slice H u.1.length I,.int .i64 u.2])<|lV (.slice H u.1.length I) (Xt rfl rfl)<|lV (.int .i64 u.2) (Xt rfl rfl)<|go ?_;replace c:=c.gr Y;replace g:=g.gr Y;replace b:=b.grow Y;refine Zt [1,10,11,5,7,9,1000000] (fun w k X=>∃ s b5 b6 S C G P,P=w∧Zdn N j b2 v (Za0 N j n R x) u P S C G=some r∧St f (Zh col) s X∧Zb rI 3 5 s X H I u.1∧Zb rI 3 6 s X b5 b6 S∧Zb rI 3 2 s X z Z n∧Zb (Za.row 3 rI) 36 4 s X b3 b4 v∧[13,14,15].map k=[.slice b5 S.length b6,.int .i64 C,.int .i64 G]) N ⟨_,none,0,_,0,0,_,rfl,a,b,m,Zb.nil,c,g,rfl⟩ ?_;clear a;intro w k X b1;obtain ⟨s,b5,b6,S,C,G,P,t,a,b,m,Q,c,g,h⟩:=b1;subst t;refine .lL [13,14,15] h ?_
    cases P with
    | zero=>rw [Zdn.eq_1] at a;cases a
    | succ P=>
     rw [Zdn.eq_2] at a;refine go ?_;refine Zm a (fun i a=>?_) fun i a=>go ?_
     ·refine Xz<|Zx ?_;refine Wp.cutK [1,10,11,15,5,7,9,1000000] (fun k T=>∃ U q t E w,Zk2 G (Zdn N j b2 v (Za0 N j n R x) u P) E w=some r∧St f (Zh col) U T∧Zb rI 3 5 U T H I u.1∧Zb rI 3 6 U T q t E∧Zb rI 3 2 U T z Z n∧Zb (Za.row 3 rI) 36 4 U T b3 b4 v∧[13,14].map k=[.slice q E.length t,.int .i64 w]) ?_ ?_
      ·intro k T hJ;obtain ⟨U,q,t,E,w,a,b,m,M,c,g,h⟩:=hJ;rw [Zk2.eq_1] at a;refine .lL [13,14] h<|go ?_;exact ⟨P,by omega,rfl,⟨_,_,_,_,_,_,_,rfl,a,b,m,M,c,g,rfl⟩⟩
      refine go ?_;obtain ⟨h,Z,a⟩:=bZ a;refine lI Z ((l.ks b).addr Z)<|lW ((l.ks b).atInt Z) ?_;refine go ?_;refine Zm a (fun i a=>go ?_) fun i a=>go ?_
      ·obtain ⟨v,f,a⟩:=bZ a;refine lI f (m.addr f)<|lW (m.atInt f)<|V5 (col:=s) [v] 7 ?_;intro _ _ _ i n;obtain ⟨G,a⟩:=Z4 a;replace Q:=Q.gr i;refine Wy Q (n.srcN (NB.int (k:=.i64))) G fun _ _ _ _ y R=>go ?_;replace m:=(m.gr i).kpp y;replace c:=(c.gr i).kpp y;replace g:=(g.gr i).kpp y;replace b:=(b.grow i).kpp y;exact ⟨rfl,_,_,_,_,_,a,b,m,R,c,g,rfl⟩
      refine lI Z ((l.ks b).addr Z)<|lW ((l.ks b).atInt Z)<|V5 (col:=s) [h] 8 ?_;intro _ _ _ k u;obtain ⟨H,a⟩:=Z4 a;replace Q:=Q.gr k;refine Wy Q (u.srcN (NB.int (k:=.i64))) H fun _ _ _ _ z P=>go ?_;replace c:=(c.gr k).kpp z;replace g:=(g.gr k).kpp z;replace b:=(b.grow k).kpp z;exact ⟨rfl,_,_,_,_,_,a,b,(m.gr k).kpp z,P,c,g,rfl⟩
     refine U6 (col:=s) (r:=(Za.row 3 rI)) (xs:=[S]) [.slice b5 S.length b6] 6 (W5.cons1 (cs:=[.slice b5 S.length b6]) Q.has Rows.nil0) ?_;intro _ _ _ h m;obtain ⟨s,a⟩:=Z4 a;replace g:=g.gr h;refine Wy (c:=4) (c2:=6) g (m.srcC (by decide)) s fun _ _ _ _ l I=>go ?_;replace b:=(b.grow h).kpp l;exact ⟨x,by omega,rfl,⟨_,_,_,_,_,_,rfl,a,b,(c.gr h).kpp l,I,rfl⟩⟩
   cases a;exact ⟨rfl,_,_,_,rfl,b.fin (cm [(4,c1)]),b.fo g⟩
/-! how many -/
theorem Zyu {c a o B:Nat} (ho:1≤o):min (min (c * a) B * o) B=min (c * a * o) B:=by
 rcases Nat.le_total (c * a) B with h | h
 ·rw [aZ h]
 ·rw [dN h]
  have b:B * 1≤B * o:=aY _ ho
  have d:B * o≤c * a * o:=bD _ h
  omega
section
variable {n:Zq} (he:Uo n) (hv:∀ l ∈ n.2.2.1,l.length≤1048576)
include he hv
theorem Zox {v:Nat} (h:v<n.2.1.length):cnt n v≤1048576:=by
 have a:v<n.2.2.1.length:=by rw [he.v];exact h
 have:=hv _ (aB a)
 rw [cnt,Xl a];exact this
theorem Zq1 {N:Nat} {w:List Int} (hw:PV n w) (hl:n.2.1.length≤1048576):∀ (m k c f:Nat),k+m=n.2.1.length→1≤c→c≤131072→m<f→
  Za1 N n w f (c:Int) (k:Int)=some ((min (c * Xh n w m k) 131072:Nat):Int)
 | m,k,c,0,_,_,_,h=>by omega
 | 0,k,c,f+1,q,_,d,_=>by
  rw [Za1.eq_2,if_neg (dF (by rw [hw.len];omega)),Xh,fU,aZ d]
 | m+1,k,c,f+1,q,d,g,u=>by
  have j:k<w.length:=by rw [hw.len];omega
  have r:=Zla he w m (k+1) (by omega)
  have o:=Zae he (v:=k) (by omega)
  have i:=Zox he hv (v:=k) (by omega)
  have p:k<n.2.2.1.length:=by rw [he.v];omega
  rw [Za1.eq_2,if_pos (dT (by omega)),Yo 0 j,oB,Xh]
  by_cases h:0≤w.getD k 0
  ·rw [if_pos h,aV,if_neg (dF (by omega)),Zfh,wS (by omega)]
   exact Zq1 hw hl m (k+1) c f (by omega) d g (by omega)
  ·rw [if_neg h,← bT]
   have x:c * cnt n k≤131072 * 1048576:=gX g i
   have e:i64.wrap ((c:Int) * ((n.2.2.1.getD k []).length:Int))=((c * cnt n k:Nat):Int):=by
    rw [show ((n.2.2.1.getD k []).length:Int)=((cnt n k:Nat):Int) from rfl,← bN]
    exact Zv (by omega)
   have t:=gT d o
   rw [if_pos (dT (by omega)),Yo [] p,oB,e,← Zyu r]
   by_cases h3:131072<c * cnt n k
   ·rw [if_pos (dT (by omega)),Zfh,wS (by omega),dN (a:=c * cnt n k) (b:=131072) (by omega)]
    exact Zq1 hw hl m (k+1) 131072 f (by omega) (by omega) (by omega) (by omega)
   ·rw [if_neg (dF (by omega)),Zfh,wS (by omega),aZ (a:=c * cnt n k) (b:=131072) (by omega)]
    exact Zq1 hw hl m (k+1) (c * cnt n k) f (by omega) t (by omega) (by omega)
theorem Zt4 {N:Nat} {w:List Int} (hw:PV n w) (hl:n.2.1.length≤1048576) (hN:1048577<N):Zfg N n w=some ((min (Xh n w n.2.1.length 0) 131072:Nat):Int):=by
 have:=Zq1 he hv (N:=N) hw hl n.2.1.length 0 1 N (by omega) (by omega) (by omega) (by omega)
 rw [aV] at this
 exact this
theorem Zo6 {w:List Int} (hw:PV n w):∀ (m k c:Nat),k+m=n.2.1.length→1≤c→c≤65537→Sz n (w.drop k) k (c:Int)=some ((min (c * Xh n w m k) 65537:Nat):Int)
 | 0,k,c,p,_,f=>by
  rw [dB (by rw [hw.len];omega),Sz.eq_1,Xh,fU,aZ f]
 | m+1,k,c,p,f,hb=>by
  have g:k<w.length:=by rw [hw.len];omega
  have q:=Zla he w m (k+1) (by omega)
  have j:=Zae he (v:=k) (by omega)
  have i:=Zox he hv (v:=k) (by omega)
  have o:k<n.2.2.1.length:=by rw [he.v];omega
  rw [aF g,Sz.eq_2,← Xl (d:=0) g,Xh]
  by_cases h:0≤w.getD k 0
  ·rw [if_pos h,aV,if_neg (dF (by omega)),Zee]
   exact Zo6 hw m (k+1) c (by omega) f hb
  ·rw [if_neg h,← bT]
   have t:c * cnt n k≤65537 * 1048576:=gX hb i
   have e:i64.wrap ((c:Int) * ((n.2.2.1.getD k []).length:Int))=((c * cnt n k:Nat):Int):=by
    rw [show ((n.2.2.1.getD k []).length:Int)=((cnt n k:Nat):Int) from rfl,← bN]
    exact Zv (by omega)
   have r:=gT f j
   rw [if_pos (dT (by omega)),Yo [] o,oB,e,← Zyu q,Zee]
   by_cases h3:65537<c * cnt n k
   ·rw [if_pos (by omega),dN (a:=c * cnt n k) (b:=65537) (by omega)]
    exact Zo6 hw m (k+1) 65537 (by omega) (by omega) (by omega)
   ·rw [if_neg (by omega),aZ (a:=c * cnt n k) (b:=65537) (by omega)]
    exact Zo6 hw m (k+1) (c * cnt n k) (by omega) r (by omega)
theorem Z8w {w:List Int} (hw:PV n w):Zjb n w=some ((min (Xh n w n.2.1.length 0) 65537:Nat):Int):=by
 have:=Zo6 he hv hw n.2.1.length 0 1 (by omega) (by omega) (by omega)
 rw [aV,aM] at this
 exact this
end
/-! the document's digits -/
theorem w64n {x:Nat} (h:x≤9223372036854775807):i64.wrap (x:Int)=(x:Int):=Zv (by omega)
section
variable {N:Nat} {ss:List Nat} (hs:∀ s ∈ ss,0<s) (hsb:∀ s ∈ ss,s≤1048576) (hl:ss.length≤1048576) (hN:1048577<N)
include hs hsb hl hN
omit hN in
theorem Z0f:∀ (f i c:Nat),i≤ss.length→ss.length<f+i→0<c→c * Xi (ss.drop i)≤65536→Q0 N (Yc ss) f (c:Int) (i:Int)=some (((c * Xi (ss.drop i):Nat):Int),0)
 | 0,i,c,d,g,_,_=>by omega
 | f+1,i,c,d,g,j,hb=>by
  have a:(Yc ss).length=ss.length:=by rw [Yc,aH]
  rw [Q0.eq_2]
  by_cases hi:i<ss.length
  ·have b:=hs _ (aB hi)
   have p:=hsb _ (aB hi)
   have k:=aF hi
   have m:=Ztg (ss.drop (i+1)) fun x o=>hs x (cI o)
   rw [k,Xi,← bT] at hb ⊢
   have q:c * ss[i]≤c * ss[i] * Xi (ss.drop (i+1)):=Nat.le_mul_of_pos_right _ m
   have at1:Zk (Yc ss) (i:Int)=some ((ss[i]:Nat):Int):=by
    rw [Zs (by rw [a];exact hi)];simp only [Yc,cA]
   have e:i64.wrap ((c:Int) * ((ss[i]:Nat):Int))=((c * ss[i]:Nat):Int):=by rw [← bN];exact Zv (by omega)
   rw [if_pos (dT (by omega)),Ze8,if_pos (dT (by omega)),at1,oB,if_neg (dF (by omega)),e,if_neg (dF (by omega)),wS (by omega)]
   exact Z0f f (i+1) (c * ss[i]) (by omega) (by omega) (gT j b) hb
  ·rw [aG (by omega),Xi,fU,if_neg (dF (by omega)),Ze8,if_neg (by decide)]
omit hsb hN in
theorem Ztp:∀ (f i:Nat),i≤ss.length→ss.length<f+i→Zdb N (Yc ss) f 1 (i:Int)=Q0 N (Yc ss) N 1 0
 | 0,i,b,c=>by omega
 | f+1,i,b,c=>by
  have a:(Yc ss).length=ss.length:=by rw [Yc,aH]
  rw [Zdb.eq_2]
  by_cases hi:i<ss.length
  ·have d:=hs _ (aB hi)
   have at1:Zk (Yc ss) (i:Int)=some ((ss[i]:Nat):Int):=by
    rw [Zs (by rw [a];exact hi)];simp only [Yc,cA]
   rw [if_pos (dT (by omega)),at1,oB,if_neg (dF (by omega)),if_neg (dF (by omega)),Zmz,wS (by omega)]
   exact Ztp f (i+1) (by omega) (by omega)
  ·rw [if_neg (dF (by omega))]
variable (hb:Xi ss≤65536)
include hb
theorem Z0g:Zb1 N (Yc ss)=some ((Xi ss:Int),0):=by
 have b:=Ztp (N:=N) hs hl N 0 (aQ _) (by omega)
 have a:=Z0f (N:=N) hs hsb hl N 0 1 (aQ _) (by omega) (by decide) (by rw [aM,aV];exact hb)
 rw [aM,aV] at a
 rw [Zb1]
 exact b.trans a
omit hsb hN hb in
theorem Z04 {a:Nat} (ha:a≤65536):∀ (j f:Nat),j≤ss.length→j<f→Ze9 N (Yc ss) f ((a / Xi (ss.drop j):Nat):Int) (aD j 0++Wa (ss.drop j) (a % Xi (ss.drop j))) ((j:Int) - 1)=some (Wa ss (a % Xi ss),0)
 | j,0,_,h=>by omega
 | 0,f+1,i,k=>by
  rw [Ze9.eq_2,if_neg (dF (by omega)),aM,List.replicate_zero,bF]
 | j+1,f+1,i,k=>by
  have b:(Yc ss).length=ss.length:=by rw [Yc,aH]
  have c:j<ss.length:=by omega
  have m:=hs _ (aB c)
  have o:=aF c
  have at1:Zk (Yc ss) (j:Int)=some ((ss[j]:Nat):Int):=by
   rw [Zs (by rw [b];exact c)];simp only [Yc,cA]
  have A:=cJ a (Xi (ss.drop (j+1)))
  have p:=cJ (a / Xi (ss.drop (j+1))) ss[j]
  have d:=Z04 ha j f (by omega) (by omega)
  rw [o,Xi,Wa] at d
  have q:a / Xi (ss.drop (j+1)) / ss[j]=a / (ss[j] * Xi (ss.drop (j+1))):=by rw [Nat.div_div_eq_div_mul,bS]
  have r:a % (ss[j] * Xi (ss.drop (j+1))) / Xi (ss.drop (j+1))=a / Xi (ss.drop (j+1)) % ss[j]:=Nat.mod_mul_left_div_self ..
  have t:a % (ss[j] * Xi (ss.drop (j+1))) % Xi (ss.drop (j+1))=a % Xi (ss.drop (j+1)):=Nat.mod_mul_left_mod ..
  rw [r,t,← q] at d
  have u:(aD (j+1) (0:Int)++Wa (ss.drop (j+1)) (a % Xi (ss.drop (j+1))))[j]?=some 0:=by
   rw [List.getElem?_append_left (by rw [aS];omega),List.getElem?_replicate,if_pos (by omega)]
  have e:(aD (j+1) (0:Int)++Wa (ss.drop (j+1)) (a % Xi (ss.drop (j+1)))).set j (((a / Xi (ss.drop (j+1)) % ss[j]:Nat):Int))=aD j 0++((a / Xi (ss.drop (j+1)) % ss[j]:Nat):Int) :: Wa (ss.drop (j+1)) (a % Xi (ss.drop (j+1))):=by
   rw [gL,bC,eE _ _ (by rw [aS];exact aX _),aS,eX,gK,eA]
  have v:((j+1:Nat):Int) - 1=(j:Int):=by omega
  have g:Zk (aD (j+1) (0:Int)++Wa (ss.drop (j+1)) (a % Xi (ss.drop (j+1)))) (j:Int)=some 0:=by rw [Zcf];exact u
  have w:bK ((a / Xi (ss.drop (j+1)):Nat):Int) ((ss[j]:Nat):Int)=((a / Xi (ss.drop (j+1)) % ss[j]:Nat):Int):=rfl
  have y:aR ((a / Xi (ss.drop (j+1)):Nat):Int) ((ss[j]:Nat):Int)=((a / Xi (ss.drop (j+1)) / ss[j]:Nat):Int):=rfl
  rw [Ze9.eq_2,v,if_pos (dT (by omega)),at1,oB,Z7 (by omega),g,oB,oB,Z7 (by omega),aC,w,e,y,w64n (x:=a / Xi (ss.drop (j+1)) / ss[j]) (by omega),Zv (x:=(j:Int) - 1) (by omega)]
  exact d
theorem Xbd {a:Nat} (ha:a<Xi ss):Zm0 N (Yc ss) (a:Int)=some (Wa ss a,0):=by
 have b:(Yc ss).length=ss.length:=by rw [Yc,aH]
 have h:=Z04 (N:=N) hs hl (a:=a) (by omega) ss.length N (aX _) (by omega)
 rw [List.drop_length,Xi,Nat.div_one,Nat.mod_eq_of_lt ha] at h
 have e:Wa [] (a % 1)=[]:=rfl
 rw [e,cV] at h
 rw [Zm0,Z0g hs hsb hl hN hb,oB]
 dsimp only
 rw [if_neg (show ¬ (!decide ((0:Int)=0))=true by decide),if_neg (dF (by omega)),decide_eq_false (by omega),Zm1,if_neg (by decide),b,Z7 (by simp only [maxLen];omega),Zv (by omega)]
 exact h
end
/-! all of them -/
def Zd6:List Int→List Int→List Int
 | [],_=>[]
 | x :: l,ds=>if x<0 then ds.headD 0 :: Zd6 l ds.tail else x :: Zd6 l ds
theorem Zt9:∀ (l pre ds:List Int),ds.length=(Xw l pre.length).length→Ws (pre++l) (Xw l pre.length) ds=pre++Zd6 l ds
 | [],pre,ds,h=>by rw [Xw,Ws,Zd6]
 | x :: l,pre,ds,h=>by
  rw [Xw,Zd6] at *
  have c:pre.length+1=(pre++[x]).length:=by rw [nA,aK]
  by_cases hx:x<0
  ·rw [if_pos hx] at h ⊢
   rw [if_pos hx]
   cases ds with
   | nil=>simp at h
   | cons d ds=>
    have a:pre.length+1=(pre++[d]).length:=by rw [nA,aK]
    have b:(pre++x :: l).set pre.length d=(pre++[d])++l:=by
     rw [eE _ _ (aX _),eX,eA,bC];rfl
    rw [Ws,b,a,Zt9 l (pre++[d]) ds (by rw [← a];simpa using h),bC];rfl
  ·rw [if_neg hx] at h ⊢
   rw [if_neg hx]
   have e:pre++x :: l=(pre++[x])++l:=by rw [bC];rfl
   rw [e,c,Zt9 l (pre++[x]) ds (by rw [← c];exact h),bC];rfl
section
variable {N:Nat} {n:Zq} (he:Uo n) (hv:∀ l ∈ n.2.2.1,l.length≤1048576) (hl:n.2.1.length≤1048576) (hN:1048577<N)
include he hv hl hN
omit he hv hN in
theorem Ztv {w:List Int} (hw:w.length=n.2.1.length) {i:Nat} (hib:i≤1048576) {out:List R2} (hol:out.length≤1048576) (kk:Int→List R2→Option R6) (ds:List Int) (e:Int):∀ (f v at0:Nat) (vals:List Int),v≤w.length→w.length<f+v→vals.length=v→at0+(Xw (w.drop v) v).length=ds.length→at0≤v→
  Zdn N w (i:Int) out kk (ds,e) f vals (at0:Int) (v:Int)=kk ((i+1:Nat):Int) (out++[vals++Zd6 (w.drop v) (ds.drop at0)])
 | 0,v,at0,vals,d,g,_,_,_=>by omega
 | f+1,v,at0,vals,d,g,j,b,k=>by
  rw [Zdn.eq_2]
  by_cases hv:v<w.length
  ·rw [aF hv,Xw] at b
   rw [if_pos (dT (by omega)),Zs hv,oB,aF hv,Zd6]
   by_cases hx:w[v]<0
   ·rw [if_pos hx,nC] at b
    have c:at0<ds.length:=by omega
    have a:=Ztv hw hib hol kk ds e f (v+1) (at0+1) (vals++[ds[at0]]) (by omega) (by omega) (by rw [nA,aK];omega) (by omega) (by omega)
    rw [if_pos (dT hx),Zs c,oB,Z7 (by simp only [aK,maxLen];omega),Zk2,wS (by omega),wS (by omega),if_pos hx,aF c,List.headD_cons,List.tail_cons]
    rw [bC] at a
    exact a
   ·rw [if_neg hx] at b
    have a:=Ztv hw hib hol kk ds e f (v+1) at0 (vals++[w[v]]) (by omega) (by omega) (by rw [nA,aK];omega) b (by omega)
    rw [if_neg (dF hx),Z7 (by simp only [aK,maxLen];omega),Zk2,wS (by omega),if_neg hx]
    rw [bC] at a
    exact a
  ·rw [if_neg (dF (by omega)),Z7 (by simp only [aK,maxLen];omega),wS (by omega),aG (by omega),Zd6,cV]
omit he hv in
theorem Z0y {w:List Int} (hw:w.length=n.2.1.length) {ss:List Nat} (hss:ss=(Xw w 0).map (cnt n)) (hs:∀ s ∈ ss,0<s) (hsb:∀ s ∈ ss,s≤1048576) (hsl:ss.length≤1048576) (hb:Xi ss≤65536):∀ (f i:Nat) (out:List R2),i≤Xi ss→Xi ss<f+i→out=(cE 0 i).map (fun a=>Ws w (Xw w 0) (Wa ss a))→
  Za0 N w (Yc ss) ((Xi ss:Int),0) f (i:Int) out=some ((cE 0 (Xi ss)).map fun a=>Ws w (Xw w 0) (Wa ss a))
 | 0,i,out,j,k,_=>by omega
 | f+1,i,out,j,k,b=>by
  rw [Za0.eq_2]
  dsimp only
  have o:out.length=i:=by rw [b,aH,jK]
  by_cases hi:i<Xi ss
  ·have m:=Xbd (N:=N) hs hsb hsl hN hb hi
   have d:(Wa ss i).length=(Xw w 0).length:=by rw [Zoz,hss,aH]
   have g:=Ztv (N:=N) hl hw (i:=i) (by omega) (out:=out) (by omega) (Za0 N w (Yc ss) ((Xi ss:Int),0) f) (Wa ss i) 0 N 0 0 [] (aQ _) (by omega) rfl (by rw [aM,cC];exact d.symm) (aX _)
   rw [aM,aM,bF] at g
   have c:=Zt9 w [] (Wa ss i) d
   rw [bF,bF] at c
   rw [if_pos (dT (by omega)),m,oB]
   refine g.trans ?_
   have e:([]:List Int).length=0:=rfl
   rw [e] at c
   rw [← c]
   exact Z0y hw hss hs hsb hsl hb f (i+1) _ (by omega) (by omega) (by rw [b,List.range'_1_concat,dI,cC];rfl)
  ·rw [if_neg (dF (by omega)),b,show i=Xi ss by omega]
omit hv hN in
theorem Ztu {w:List Int} (hw:PV n w):∀ (m v f:Nat) (out:List Int),v+m=w.length→m<f→out.length≤v→
  Zb5 N n w f out (v:Int)=(Zb1 N (out++Yc ((Xw (w.drop v) v).map (cnt n)))).bind fun r=>Za0 N w (out++Yc ((Xw (w.drop v) v).map (cnt n))) r N 0 []
 | m,v,0,out,_,h,_=>by omega
 | 0,v,f+1,out,d,_,e=>by
  rw [Zb5.eq_2,if_neg (dF (by omega)),aG (by omega),Xw,dD,Yc,dD,cV]
 | m+1,v,f+1,out,d,i,e=>by
  have a:v<w.length:=by omega
  have g:=hw.len
  have b:v<n.2.2.1.length:=by rw [he.v];omega
  rw [Zb5.eq_2,if_pos (dT (by omega)),Zs a,oB,aF a,Xw]
  by_cases hx:w[v]<0
  ·have c:=Ztu hw m (v+1) f (out++[((cnt n v:Nat):Int)]) (by omega) (by omega) (by rw [nA,aK];omega)
   rw [if_pos (dT hx),Yo [] b,oB,Z7 (by simp only [aK,maxLen];omega),Zk1,wS (by omega),if_pos hx,bJ,Yc,bJ]
   rw [bC] at c
   exact c
  ·rw [if_neg (dF hx),Zk1,wS (by omega),if_neg hx]
   exact Ztu hw m (v+1) f out (by omega) (by omega) (by omega)
theorem Xa7 {w:List Int} (hw:PV n w) (ho:Xh n w n.2.1.length 0≤65536):Zk0 N n w=some (Xf n n.2.1.length 0 w):=by
 have c:=hw.len
 obtain ⟨ss,a⟩:∃ ss,ss=(Xw w 0).map (cnt n):=⟨_,rfl⟩
 have d:∀ s ∈ ss,∃ v,v<n.2.1.length∧s=cnt n v:=fun s hs=>by
  rw [a] at hs
  obtain ⟨o,ho,rfl⟩:=cY.1 hs
  exact ⟨o,by have:=Znn w 0 o ho;omega,rfl⟩
 have hs:∀ s ∈ ss,0<s:=fun s h=>by obtain ⟨v,b,rfl⟩:=d s h;exact Zae he b
 have hsb:∀ s ∈ ss,s≤1048576:=fun s h=>by obtain ⟨v,b,rfl⟩:=d s h;exact Zox he hv b
 have e:ss.length≤1048576:=by
  rw [a,aH]
  have:=Zta w 0;omega
 have f:=Ziu (n:=n) n.2.1.length 0 w (by omega) c
 rw [aM,← a] at f
 have hb:Xi ss≤65536:=by
  have g:=Zch n n.2.1.length 0 w
  rw [f,aH,jK] at g
  omega
 have h:=Ztu (N:=N) he hl hw w.length 0 N [] (by omega) (by omega) (aX _)
 rw [aM,bF,← a,Z0g hs hsb e hN hb,oB] at h
 have i:=Z0y hl hN c a hs hsb e hb N 0 [] (aQ _) (by omega) rfl
 rw [Zk0,f]
 exact h.trans i
end
def Zfd (N:Nat) (a:R0) (c:List Int):Nat→Bool→R2→R2→Int→Option R1
  | 0,_,_,_,_=>none
  | j+1,f,g,i,b=>if (decide (b<(a.2.1.length:Int)))=true then ((Zk a.2.2.2.2 b).bind fun k=>(Zk a.2.2.1 b).bind fun l=>(Zk c b).bind fun m=>(Zkw N (a.1,a.2.1,a.2.2.1,a.2.2.2.1,a.2.2.2.2) b c).bind fun n=>(Zk k (i64.wrap ((i64.wrap (n * (l.length:Int)))+m))).bind fun d=>(Zhg N ((f,g),i) ((d.1.1,d.1.2),d.2)).bind fun e=>(Zfd N a c j) e.1.1 e.1.2 e.2 (i64.wrap (b+1))) else (some ((f,g),i))
def Zhr (N:Nat) (b:R0) (c:List Int):Option R1:=
  (Zhq N).bind fun a=>Zfd N b c N a.1.1 a.1.2 a.2 0
theorem Z6j {N M I P Q Y:Nat} {R S T F U:Option Addr} {col:Ze} {i:World} {g:R0} {m:R2} {r:R1} (c1 c2:Nat) (b:Zhr N g m=some r) (V:Sl Za.str col i R M g.2.1) (x:Sl rV col i S I g.2.2.1) (W:Sl rP col i T P g.2.2.2.1) (y:Sl (Za.slice rQ) col i F Q g.2.2.2.2) (o:Sl rI col i U Y m):
    Calls prog 54 #[(.agg (Rq g R M S I T P F Q)),.slice U m.length Y] i (Sm 45 c1 c2 col i r):=by
 refine Yx (m:=41) func54 rfl rfl rfl ?_;rw [Zhr.eq_1] at b;have c:=St.start col i;refine go ?_;refine Xg (col:=(Zh col)) 1 rfl fun am _ A U f=>Xr (col:=A) #[.bool false,(nI),(nI)] 2 zeroValue42 fun ap _ H X h=>go ?_;obtain ⟨_,D,b⟩:=bZ b;refine lc rfl rfl (Zfu call104) (Zsa (col:=H) 3 4 D:) fun _ _ ⟨B,_,_,_,_,p,q,a3,a5⟩=>⟨_,p,?_⟩;refine Xr (col:=B) #[.bool false,(nI),(nI)] 5 zeroValue42 fun Y _ _ H z=>Z6 z fun _ G E k=>go ?_;replace c:=((((c.grow U).grow X).grow q).grow H).kp G E;replace f:=(((f.gr X).gr q).gr H).kp G;replace h:=((h.gr q).gr H).kp G;refine Zt [1,2,4,5,1000000] (fun U X q=>∃ e z A B Z C D j E u,u=U∧Zfd N g m u z Z j E=some r∧St i (Zh col) e q∧Zd 27 1 e q am (Rq g R M S I T P F Q)∧Zd 42 2 e q ap #[.bool false,(nI),(nI)]∧Zb rU 45 3 e q A B Z∧Zb rU 45 4 e q C D j∧Zd 42 5 e q Y #[.bool z,.slice A Z.length B,.slice C j.length D]∧[6].map X=[.int .i64 E]) N ⟨_,_,_,_,_,_,_,_,0,_,rfl,b,c,f,h,(a3.gr H).kp G,(a5.gr H).kp G,k,rfl⟩ ?_;clear b;intro U X q G;obtain ⟨e,z,A,B,Z,C,D,j,E,u,J,b,c,f,h,s,t,k,K⟩:=G;subst J;refine .lL [6] K ?_;replace x:=x.k0;replace y:=y.k0;replace o:=o.k0
 cases u with
 | zero=>rw [Zfd.eq_1] at b;cases b
 | succ u=>
  rw [Zfd.eq_2] at b;refine go ?_;refine Z9 f ?_;refine go ?_;refine Zm b (fun i b=>go ?_) fun i b=>go ?_
  ·refine Y8 (col:=e) [(0,0),(1,1),(2,0),(3,1),(4,1),(5,0),(6,0),(7,1),(8,1),(10,1),(11,0),(12,1),(13,1),(14,0),(15,1),(17,1),(18,1),(19,1),(20,0),(9,3),(16,1),(21,1),(22,1),(23,0),(24,3),(25,2)] (by kernel_rfl) (by kernel_rfl)<|xv rfl rfl (fun _ a=>Z5 isAgg42 sizeOf42 (k.gr (a.bl e))) ?_;refine xF ⟨_,_,rfl⟩ ?_;refine xW (fun _ a=>((f.atN).nth (q:=4) rfl).gr (a.bl e)) ?_;refine xu rfl rfl (fun _=>Yd rfl) ?_;obtain ⟨_,J,b⟩:=bZ b;refine xu rfl rfl (fun _=>X8 underlying25 sizeOf29 rfl rfl (Z0 J).1 (Z0 J).2.1 ((y.ks c).addr J)) ?_;obtain ⟨_,L,az⟩:=(y.ks c).atN J;obtain ⟨⟨_,_,rfl,n⟩,_⟩:=L;refine xW (fun _ a=>az.one.gr (a.bl e)) ?_;refine xv rfl rfl (fun _ a=>Z5 isAgg27 sizeOf27 (f.gr (a.bl e))) ?_;refine xu rfl rfl (fun _=>Yd rfl) ?_;refine xu rfl rfl (fun _=>Vd rfl) ?_;refine xF ⟨_,_,rfl⟩ ?_;refine xW (fun _ a=>((f.atN).nth (q:=2) rfl).gr (a.bl e)) ?_;refine xu rfl rfl (fun _=>Yd rfl) ?_;obtain ⟨_,K,b⟩:=bZ b;refine xu rfl rfl (fun _=>X8 underlying23 sizeOf22 rfl rfl (Z0 K).1 (Z0 K).2.1 ((x.ks c).addr K)) ?_;obtain ⟨_,O,a2⟩:=(x.ks c).atN K;obtain ⟨⟨_,_,rfl,_⟩,_⟩:=O;refine xW (fun _ a=>a2.one.gr (a.bl e)) ?_;refine xu rfl rfl (fun _=>Q8 underlying22 rfl) ?_;refine xu rfl rfl (fun _=>Vd rfl) ?_;refine xu rfl rfl (fun _=>Yd rfl) ?_;obtain ⟨_,O,b⟩:=bZ b;refine xu rfl rfl (fun _=>X8 underlying36 sizeOf3 rfl rfl (Z0 O).1 (Z0 O).2.1 ((o.ks c).addr O)) ?_;refine xW (fun _ a=>((o.ks c).gr (a.bl e)).atInt O) ?_;refine xe rfl rfl ?_;intro _ d;have a:=d.bl e;obtain ⟨_,C,b⟩:=bZ b;replace c:=c.grow a;refine Zi (Zvy C (V.k0.ks c) (x.ks c) (W.k0.ks c) (y.ks c) (o.ks c)) fun _ _ ⟨p,l⟩=>⟨_,p,?_⟩;replace l:=Rr e l;refine Zl<|Xo e d l<|xu rfl rfl (fun _=>Zic _ _ rfl rfl) ?_;refine xu rfl rfl (fun _=>S8 _ _ rfl rfl) ?_;obtain ⟨w,L,b⟩:=bZ b;replace n:=(n.gr a).gr l;refine xu rfl rfl (fun _=>X8 underlying29 sizeOf42 rfl rfl (Z0 L).1 (Z0 L).2.1 (n.addr L)) ?_;obtain ⟨_,a6,a7⟩:=n.atN L;obtain ⟨_,_,rfl,a8,a9⟩:=Wq a6;obtain ⟨_,_,rfl,ba,bb⟩:=Wq a8;obtain ⟨rfl,_⟩:=ba;obtain ⟨⟨bc,bd,rfl,ah⟩,_⟩:=bb
   obtain ⟨⟨be,bf,rfl,ai⟩,_⟩:=a9;refine xv (v:=(.agg #[.bool w.1.1,.slice bc w.1.2.length bd,.slice be w.2.length bf])) rfl rfl (fun _ a=>Yl isAgg42 sizeOf42 rfl rfl (a7.gr (a.bl e))) ?_;refine xe rfl rfl ?_;intro X d;replace s:=(s.gr a).gr l;replace t:=(t.gr a).gr l;replace f:=(f.gr a).gr l;replace h:=(h.gr a).gr l;replace k:=(k.gr a).gr l;have a:=d.bl e;obtain ⟨_,o,b⟩:=bZ b;replace s:=s.gr a;replace t:=t.gr a;refine Zi (Zvt 6 7 o ((s.toSlF (Zg.int .u32)).froz 4) ((t.froz 3).toSlF (Zg.int .u32)) (((ah.gr a).froz 3).froz 4) (((ai.gr a).froz 3).froz 4)) fun _ _ ⟨w,_,_,_,_,p,m,n,j⟩=>⟨_,p,?_⟩;replace n:=n.thaw (Z1 .u32) m (((Fz.refl (col:=e)).froz 3).froz 4);replace j:=j.thaw (Z1 .u32) m (((Fz.refl (col:=e)).froz 3).froz 4);replace m:=m.thawR (col:=e);generalize Xa X.heap.size e w=e at *;refine Zl<|Xo e d m<|xe rfl rfl ?_;intro _ d;replace c:=((c.grow l).grow a).grow m;replace f:=(f.gr a).gr m;replace h:=(h.gr a).gr m;replace k:=(k.gr a).gr m;have a:=d.bl e;replace k:=k.gr a;refine Z6 k fun _ F d I=>Zl<|xk e<|Y4 ?_;replace n:=(n.gr a).kp F;replace j:=(j.gr a).kp F;replace f:=(f.gr a).kp F;replace h:=(h.gr a).kp F;replace c:=(c.grow a).kp F d;intro _ a;replace a:=a.bl e;refine go ?_;replace n:=n.gr a;replace n:=n.recolSelf 3 (by decide);replace j:=j.gr a;replace j:=j.recol 6 3;replace f:=f.gr a;replace f:=f.recol 6 3;replace h:=h.gr a;replace h:=h.recol 6 3;replace I:=I.gr a;replace I:=I.recol 6 3;replace c:=c.grow a;replace c:=c.recol 6 3 (by decide) (by decide);replace j:=j.recolSelf 4 (by decide);replace h:=h.recol 7 4;replace c:=c.recol 7 4 (by decide) (by decide);exact ⟨u,by omega,rfl,⟨_,_,_,_,_,_,_,_,_,_,rfl,b,c,f.recol 7 4,h,n.recol 7 4,j,I.recol 7 4,rfl⟩⟩
  refine lV _ (Z5 isAgg42 sizeOf42 k)<|Z6 h ?_;intro _ v bk bm;refine go ?_;cases b;replace c:=c.kp v bk;exact ⟨rfl,_,ra bm.atN,_,_,_,_,_,rfl,c.fin (cm [(3,c1),(4,c2)]),c.fo (s.kp v),c.fo (t.kp v)⟩
def Zps (N:Nat) (a:R0) (c:R9):Option R0:=
  (Zb4 N (a.1,a.2.1,a.2.2.1,a.2.2.2.1,a.2.2.2.2)).bind fun b=>some (b.1,b.2.1,b.2.2.1,b.2.2.2.1,c)
theorem Z6r {N B C T U n:Nat} {Q G R S o:Option Addr} {col:Ze} {f:World} {b:R0} {i:R9} {r:R0} (p:Zps N b i=some r) (q:Sl Za.str col f Q B b.2.1) (s:Sl rV col f G C b.2.2.1) (t:Sl rP col f R T b.2.2.2.1) (w:Sl (Za.slice rQ) col f S U b.2.2.2.2) (O:Sl (Za.slice rQ) col f o n i):
    Calls prog 61 #[(.agg (Rq b Q B G C R T S U)),.slice o i.length n] f (fun e w'=>∃ (col':Ze) (k:Option Addr) (g:Nat) (l:Option Addr) (h:Nat) (m:Option Addr) (j:Nat) (d:Option Addr) (c:Nat),e= .returned ((.agg (Rq r k g l h m j d c)))∧Zj col f col' w'∧Sl Za.str col' w' k g r.2.1∧Sl rV col' w' l h r.2.2.1∧Sl rP col' w' m j r.2.2.2.1∧Sl (Za.slice rQ) col' w' d c r.2.2.2.2):=by
 refine Yx (m:=11) func61 rfl rfl rfl ?_;rw [Zps.eq_1] at p;have a:=St.start col f;refine go ?_;refine Xg (col:=(Zh col)) 1 rfl fun _ _ X g f=>Xr (col:=X) #[.string (⟨#[]⟩),.slice none (([]:List ByteArray).length) 0,.slice none (([]:List R3).length) 0,.slice none (([]:List R2).length) 0,(.slice none (([]:List R4).length) 0)] 2 zeroValue27 fun _ _ _ P L=>go ?_;refine lV _ (Z5 isAgg27 sizeOf27 (f.gr P)) ?_;obtain ⟨F,Z,p⟩:=bZ p;replace a:=(a.grow g).grow P;refine Zi (Zv0 3 4 5 6 Z (q.k0.ks a) (s.k0.ks a) (t.k0.ks a) (w.k0.ks a)) fun _ _ ⟨Y,h,j,k,l,m,E,_,_,I,V,u,v,x,_⟩=>⟨_,I,?_⟩;refine Xr (col:=Y) #[.string (⟨#[]⟩),.slice none (([]:List ByteArray).length) 0,.slice none (([]:List R3).length) 0,.slice none (([]:List R2).length) 0,(.slice none (([]:List R4).length) 0)] 7 zeroValue27 fun d _ c D W=>Z6 W fun _ A I K=>go ?_;refine Xy ⟨_,_,rfl⟩ ?_;refine Zah (off:=4) (v:=(.slice o i.length n)) K sizeOf25 rfl rfl (Rs rfl rfl) rfl rfl ?_;intro J y M H;replace H:Zd 27 7 c J d #[.string F.1,.slice h F.2.1.length j,.slice k F.2.2.1.length l,.slice m F.2.2.2.1.length E,.slice o i.length n]:=H;refine go ?_;refine lV _ (Z5 isAgg27 sizeOf27 H) ?_;refine Z6 ((((L.gr V).gr D).kp A).kp y) fun _ E L z=>go ?_;replace u:=(((u.gr D).kp A).kp y).kp E;replace u:=(u).toSlF Zg.str;replace v:=(((v.gr D).kp A).kp y).kp E;replace v:=v.froz 3;replace x:=(((x.gr D).kp A).kp y).kp E;replace x:=x.froz 3;replace z:=z.froz 3;replace a:=((((a.grow V).grow D).kp A I).kp y M).kp E L;replace a:=a.froz 3 (by decide) (by decide);replace u:=u.froz 4;replace v:=(v).toSlF (Zg.row Zg.str);replace x:=x.froz 4
 replace z:=z.froz 4;replace a:=a.froz 4 (by decide) (by decide);replace a:=a.froz 5 (by decide) (by decide);cases p;exact ⟨rfl,_,ra (z.froz 5).atN,_,_,_,_,_,_,_,_,_,rfl,a.fin (cm []),a.fs (u.froz 5),a.fs (v.froz 5),a.fs ((x).toSlF (Zg.row (Zg.int .i64))),a.fs (O.k0.ks a)⟩
theorem Z71:Wt prog 29 1 24:=⟨Tryz.t29,_,rfl,rfl,rfl,rfl,rfl⟩
theorem Zww:Wt prog 42 3 56:=⟨Tryz.t42,_,rfl,rfl,rfl,rfl,rfl⟩
def Zhz (N:Nat) (e:R0) (b:Int) (kk_L2:(R9→Int→Option (R0×Int))):Nat→Int→R9→Option (R0×Int)
  | 0,_,_=>none
  | g+1,f,c=>(Zk e.2.2.2.2 b).bind fun i=>if (decide (f<(i.length:Int)))=true then ((Zk c b).bind fun d=>(Zc9 N 0 1).bind fun a=>Z2 ((d.length+[((a.1.1,a.1.2),a.2)].length) * 56≤140737488355328∧d.length+[((a.1.1,a.1.2),a.2)].length≤maxLen) ((Zhz N e b kk_L2 g) (i64.wrap (f+1)) (c.set (aA b) (d++[((a.1.1,a.1.2),a.2)])))) else (kk_L2 c (i64.wrap (b+1)))
def Zfi (a:Int) (kk_L4:(Bool→Int→R9→Option (R0×Int))) (b:Bool) (c:List R4):Option (R0×Int):=
  kk_L4 b (i64.wrap (a+1)) c
def Zfj (N:Nat) (a:R0) (i:R6) (d:Int) (kk_L6:(Int→R9→Option (R0×Int))) (c:(R1×Int)):Nat→Int→R9→Option (R0×Int)
  | 0,_,_=>none
  | l+1,b,e=>if (decide (b<(a.2.1.length:Int)))=true then ((Zk i d).bind fun m=>(Zk4 N (a.1,a.2.1,a.2.2.1,a.2.2.2.1,a.2.2.2.2) b m).bind fun j=>(Zk e b).bind fun k=>(Zk k j).bind fun f=>(Ze5 N ((f.1.1,f.1.2),f.2) ((c.1.1.1,c.1.1.2),c.1.2)).bind fun g=>(some (k.set (aA j) ((g.1.1,g.1.2),g.2))).bind fun n=>(Zfj N a i d kk_L6 c l) (i64.wrap (b+1)) (e.set (aA b) n)) else (kk_L6 (i64.wrap (d+1)) e)
def Za4 (N:Nat) (e:R0) (f:Bool) (g:Int) (kk_L4:(Bool→Int→R9→Option (R0×Int))) (b:R6) (i:List R1) (a:R1):Nat→Int→R9→Option (R0×Int)
  | 0,_,_=>none
  | k+1,c,j=>if (decide (c<(b.length:Int)))=true then ((Zk i c).bind fun d=>(Ze6 N ((d.1.1,d.1.2),d.2) ((a.1.1,a.1.2),a.2)).bind fun l=>Zfj N e b c (Za4 N e f g kk_L4 b i a k) l N 0 j) else (Zfi g kk_L4 f j)
def Zh0 (N:Nat) (b:R0) (j:Bool) (f:Int) (g:List R4) (kk_L4:(Bool→Int→R9→Option (R0×Int))) (d:R6):Nat→R4→Int→Option (R0×Int)
  | 0,_,_=>none
  | k+1,c,i=>if (decide (i<(d.length:Int)))=true then ((Zk d i).bind fun l=>(Zhr N (b.1,b.2.1,b.2.2.1,b.2.2.2.1,b.2.2.2.2) l).bind fun a=>Z2 ((c.length+[((a.1.1,a.1.2),a.2)].length) * 56≤140737488355328∧c.length+[((a.1.1,a.1.2),a.2)].length≤maxLen) ((Zh0 N b j f g kk_L4 d k) (c++[((a.1.1,a.1.2),a.2)]) (i64.wrap (i+1)))) else ((Zau N c).bind fun e=>(Zat N ((e.1.1,e.1.2),e.2)).bind fun m=>if (decide (m=0))=true then (Zfi f kk_L4 true g) else (Za4 N b j f kk_L4 d c e N 0 g))
def Zdp (N:Nat) (a:R0) (f:List R4):Nat→R9→Int→Option (R0×Int)
  | 0,_,_=>none
  | g+1,d,b=>if (decide (b<(a.2.1.length:Int)))=true then ((Zk f b).bind fun i=>(Zk a.2.2.1 b).bind fun j=>(Zk a.2.2.2.2 b).bind fun k=>(Zm8 N i (j.length:Int) k).bind fun e=>Z2 ((d.length+[e].length) * 24≤140737488355328∧d.length+[e].length≤maxLen) ((Zdp N a f g) (d++[e]) (i64.wrap (b+1)))) else ((Zps N (a.1,a.2.1,a.2.2.1,a.2.2.2.1,a.2.2.2.2) d).bind fun c=>some ((c.1,c.2.1,c.2.2.1,c.2.2.2.1,c.2.2.2.2),0))
def Tu (N:Nat) (a:R0) (b:R6):Nat→Bool→Int→R9→Option (R0×Int)
  | 0,_,_,_=>none
  | f+1,d,c,e=>if (decide (c<(b.length:Int)))=true then ((Zk b c).bind fun g=>(Zk0 N (a.1,a.2.1,a.2.2.1,a.2.2.2.1,a.2.2.2.2) g).bind fun i=>Zh0 N a d c e (Tu N a b f) i N ([]:List R1) 0) else (if d=true then (some ((⟨#[]⟩,([]:List ByteArray),([]:List R3),([]:List R2),([]:List R4)),52)) else (Zdp N a e N ([]:List R4) 0))
def Za3 (N:Nat) (a:R0) (b:R6):Nat→R9→Int→Option (R0×Int)
  | 0,_,_=>none
  | e+1,c,d=>if (decide (d<(a.2.1.length:Int)))=true then (Zhz N a d (Za3 N a b e) N 0 c) else (Tu N a b N false 0 c)
def Zdo (N:Nat) (a:R0) (b:R6):Nat→ByteArray→R3→Rb→R6→R9→Int→Option (R0×Int)
  | 0,_,_,_,_,_,_=>none
  | d+1,e,f,g,i,j,c=>if (decide (c<(b.length:Int)))=true then ((Zk b c).bind fun k=>(Zfg N (a.1,a.2.1,a.2.2.1,a.2.2.2.1,a.2.2.2.2) k).bind fun l=>if (decide (65536<l))=true then (some ((⟨#[]⟩,([]:List ByteArray),([]:List R3),([]:List R2),([]:List R4)),4)) else ((Zdo N a b d) e f g i j (i64.wrap (c+1)))) else (Z2 (a.2.1.length * 24≤281474976710656∧a.2.1.length≤maxLen) (Za3 N a b N (aD a.2.1.length (([]:List R1):R4)) 0))
def Za2 (N:Nat) (a:R0) (b:R6):Option (R0×Int):=
  (Q3 N (a.1,a.2.1,a.2.2.1,a.2.2.2.1,a.2.2.2.2) b).bind fun c=>if (!decide (c=0))=true then (some ((⟨#[]⟩,([]:List ByteArray),([]:List R3),([]:List R2),([]:List R4)),c)) else (Zdo N a b N (⟨#[]⟩) ([]:List ByteArray) ([]:List R3) ([]:List R2) ([]:List R4) 0)
theorem Z6o {N a3 a4 a5 a6 K:Nat} {a7 a8 a9 ba J:Option Addr} {col:Ze} {B:World} {t:R0} {bb:R6} {r:(R0×Int)} (b:Za2 N t bb=some r) (b8:Sl Za.str col B a7 a3 t.2.1) (be:Sl rV col B a8 a4 t.2.2.1) (b9:Sl rP col B a9 a5 t.2.2.2.1) (ay:Sl (Za.slice rQ) col B ba a6 t.2.2.2.2) (h1:Sl rP col B J K bb):
    Calls prog 19 #[(.agg (Rq t a7 a3 a8 a4 a9 a5 ba a6)),.slice J bb.length K] B (fun e w'=>∃ (col':Ze) (ra1:Option Addr) (rc2:Nat) (ra4:Option Addr) (rc5:Nat) (ra7:Option Addr) (rc8:Nat) (K:Option Addr) (J:Nat),e= .returned (.tuple #[(.agg #[.string r.1.1,.slice ra1 r.1.2.1.length rc2,.slice ra4 r.1.2.2.1.length rc5,.slice ra7 r.1.2.2.2.1.length rc8,.slice K r.1.2.2.2.2.length J]),.int .i64 r.2])∧Zj col B col' w'∧Sl Za.str col' w' ra1 rc2 r.1.2.1∧Sl rV col' w' ra4 rc5 r.1.2.2.1∧Sl rP col' w' ra7 rc8 r.1.2.2.2.1∧Sl (Za.slice rQ) col' w' K J r.1.2.2.2.2):=by
 refine Yx (m:=183) func19 rfl rfl rfl ?_;rw [Za2.eq_1] at b;have c:=St.start col B;refine go ?_;refine Xg (col:=(Zh col)) 1 rfl fun bs _ J gs f=>Xr (col:=J) #[.string (⟨#[]⟩),.slice none (([]:List ByteArray).length) 0,.slice none (([]:List R3).length) 0,.slice none (([]:List R2).length) 0,(.slice none (([]:List R4).length) 0)] 2 zeroValue27 fun bt _ ft K g=>go ?_;replace f:=f.gr K;refine lV _ (Z5 isAgg27 sizeOf27 f)<|Y3 rfl ?_;obtain ⟨_,J,b⟩:=bZ b;replace b8:=b8.k0;replace be:=be.k0;replace b9:=b9.k0;replace ay:=ay.k0;replace h1:=h1.k0;replace c:=(c.grow gs).grow K;refine Zi (Zv2 J (b8.ks c) (be.ks c) (b9.ks c) (ay.ks c) (h1.ks c)) fun _ _ ⟨v,J⟩=>⟨_,v,?_⟩;replace J:=Rr ft J;refine go ?_;replace f:=f.gr J;replace g:=g.gr J;replace c:=c.grow J;refine Zm b (fun n b=>go ?_) fun n b=>go ?_
 ·refine lV (.agg #[.string (⟨#[]⟩),.slice none (([]:List ByteArray).length) 0,.slice none (([]:List R3).length) 0,.slice none (([]:List R2).length) 0,(.slice none (([]:List R4).length) 0)]) (Wo (l:=[_,_,_,_,_]) (qs:=[(0,1),(1,1),(2,1),(3,1),(4,1)]) underlying27 zeroValue27 ⟨rfl,sizeOf9,rfl,sizeOf22,rfl,sizeOf23,rfl,sizeOf24,rfl,sizeOf25,trivial⟩ rfl)<|Xk rfl<|Z6 g ?_;intro _ gw gx gy;refine go ?_;cases b;replace c:=c.kp gw gx;exact ⟨rfl,_,Vm gy.atN,_,none,0,none,0,none,0,none,0,rfl,c.fin (cm []),Sl.nil,Sl.nil,Sl.nil,Sl.nil⟩
 refine Zt [1,2,4,1000000] (fun G Q T=>∃ x bc bl dk ex fo fs gn gr gt gv s u hu K M,M=G∧Zdo N t bb M bc ex gn gv hu K=some r∧St B (Zh col) x T∧Zd 27 1 x T bs (Rq t a7 a3 a8 a4 a9 a5 ba a6)∧Zb Za.str 9 3 x T bl dk ex∧Zb (Za.row 9 Za.str) 22 4 x T fo fs gn∧Zb (Za.row 3 rI) 36 5 x T gr gt gv∧Zb (Za.row 42 (rO 45)) 29 6 x T s u hu∧Zd 27 2 x T bt #[.string bc,.slice bl ex.length dk,.slice fo gn.length fs,.slice gr gv.length gt,.slice s hu.length u]∧[7].map Q=[.int .i64 K]) N ⟨_,_,none,0,_,none,0,_,none,0,_,none,0,_,0,_,rfl,b,c,f,Zb.nil,Zb.nil,Zb.nil,Zb.nil,g,rfl⟩ ?_;clear b;intro G Q T S;obtain ⟨x,bc,bl,dk,ex,fo,fs,gn,gr,gt,gv,s,u,hu,K,M,R,b,c,f,h,i,j,k,g,A⟩:=S;subst R;refine .lL [7] A ?_
 cases M with
 | zero=>rw [Zdo.eq_1] at b;cases b
 | succ M=>
  rw [Zdo.eq_2] at b;refine go ?_;refine Zm b (fun n b=>go ?_) fun n b=>go ?_
  ·refine Wg (col:=x) (by kernel_rfl) (by kernel_rfl)<|qv rfl (fun _ a=>Z5 isAgg27 sizeOf27 (f.gr (a.bl x))) ?_;refine go ?_;obtain ⟨_,K,b⟩:=bZ b;refine qI K ((h1.ks c).addr K) ?_;obtain ⟨_,gz,g0⟩:=(h1.ks c).atN K;obtain ⟨⟨_,_,rfl,g1⟩,_⟩:=gz;refine qW (fun _ a=>g0.one.gr (a.bl x)) ?_;obtain ⟨K,J,b⟩:=bZ b;refine qc (v:=(.int .i64 K)) rfl (fun _ a=>⟨_,_,Tj call51 rfl rfl,(Zv1 J ((b8.ks c).gr (a.bl x)) ((be.ks c).gr (a.bl x)) ((b9.ks c).gr (a.bl x)) ((ay.ks c).gr (a.bl x)) (g1.gr (a.bl x)):).mono fun _ _ y=>⟨y.1,a.trans (.of_below y.2)⟩⟩) ?_;refine go ?_;refine Y1 ?_;intro _ a;replace a:=a.bl x;replace h:=h.gr a;replace i:=i.gr a;replace j:=j.gr a;replace k:=k.gr a;replace f:=f.gr a;replace g:=g.gr a;replace c:=c.grow a;refine Zm b (fun n b=>go ?_) fun n b=>go ?_
   ·refine lV (.agg #[.string (⟨#[]⟩),.slice none (([]:List ByteArray).length) 0,.slice none (([]:List R3).length) 0,.slice none (([]:List R2).length) 0,(.slice none (([]:List R4).length) 0)]) (Wo (l:=[_,_,_,_,_]) (qs:=[(0,1),(1,1),(2,1),(3,1),(4,1)]) underlying27 zeroValue27 ⟨rfl,sizeOf9,rfl,sizeOf22,rfl,sizeOf23,rfl,sizeOf24,rfl,sizeOf25,trivial⟩ rfl)<|Z6 g ?_;intro _ g4 g5 g6;refine go ?_;cases b;replace c:=c.kp g4 g5;exact ⟨rfl,_,Vm g6.atN,_,none,0,none,0,none,0,none,0,rfl,c.fin (cm []),Sl.nil,Sl.nil,Sl.nil,Sl.nil⟩
   exact ⟨M,by omega,rfl,⟨_,_,_,_,_,_,_,_,_,_,_,_,_,_,_,_,rfl,b,c,f,h,i,j,k,g,rfl⟩⟩
  refine Z9 f ?_;refine go ?_;obtain ⟨J,b⟩:=Z4 b;refine Sc (col:=x) (w:=T) (r:=(Za.row 42 (rO 45))) (n:=t.2.1.length) (x0:=([]:List R1)) 7 rfl underlying25 Tryz.t29 rfl rfl rfl rfl rfl rfl rfl J.1 J.2 Ztz fun _ _ _ x g7=>go ?_;replace h:=h.gr x;replace i:=i.gr x;replace j:=j.gr x;replace k:=k.gr x;replace f:=f.gr x;replace g:=g.gr x;replace c:=c.grow x;refine Zt [1,2,4,1000000] (fun G Q K=>∃ M J T x ca cj,cj=G∧Za3 N t bb cj x ca=some r∧St B (Zh col) M K∧Zd 27 1 M K bs (Rq t a7 a3 a8 a4 a9 a5 ba a6)∧Zb Za.str 9 3 M K bl dk ex∧Zb (Za.row 9 Za.str) 22 4 M K fo fs gn∧Zb (Za.row 3 rI) 36 5 M K gr gt gv∧Zb (Za.row 42 (rO 45)) 29 6 M K s u hu∧Zd 27 2 M K bt #[.string bc,.slice bl ex.length dk,.slice fo gn.length fs,.slice gr gv.length gt,.slice s hu.length u]∧Zb (Za.row 42 (rO 45)) 29 7 M K J T x∧[8,9].map Q=[.slice J x.length T,.int .i64 ca]) N ⟨_,_,_,_,0,_,rfl,b,c,f,h,i,j,k,g,g7,rfl⟩ ?_;clear b;intro G Q K S;obtain ⟨M,J,T,x,ca,cj,R,b,c,f,h,i,j,k,g,fw,A⟩:=S;subst R;refine .lL [8,9] A ?_
  cases cj with
  | zero=>rw [Za3.eq_1] at b;cases b
  | succ cj=>
   rw [Za3.eq_2] at b;refine go ?_;refine Z9 f ?_;refine go ?_;refine Zm b (fun n b=>go ?_) fun n b=>go ?_
   ·refine Zt [1,2,4,9,1000000] (fun G Q C=>∃ U M ck cl I cx,cx=G∧Zhz N t ca (Za3 N t bb cj) cx M I=some r∧St B (Zh col) U C∧Zd 27 1 U C bs (Rq t a7 a3 a8 a4 a9 a5 ba a6)∧Zb Za.str 9 3 U C bl dk ex∧Zb (Za.row 9 Za.str) 22 4 U C fo fs gn∧Zb (Za.row 3 rI) 36 5 U C gr gt gv∧Zb (Za.row 42 (rO 45)) 29 6 U C s u hu∧Zd 27 2 U C bt #[.string bc,.slice bl ex.length dk,.slice fo gn.length fs,.slice gr gv.length gt,.slice s hu.length u]∧Zb (Za.row 42 (rO 45)) 29 7 U C ck cl I∧[10,8].map Q=[.int .i64 M,.slice ck I.length cl]) N ⟨_,0,_,_,_,_,rfl,b,c,f,h,i,j,k,g,fw,rfl⟩ ?_;clear b;intro G Q C S;obtain ⟨U,M,ck,cl,I,cx,R,b,c,f,h,i,j,k,g,eb,A⟩:=S;subst R;refine .lL [10,8] A ?_
    cases cx with
    | zero=>rw [Zhz.eq_1] at b;cases b
    | succ cx=>
     rw [Zhz.eq_2] at b;refine go ?_;refine Z9 f<|Xk rfl ?_;obtain ⟨_,M,b⟩:=bZ b;refine lI M ((ay.ks c).addr M) ?_;obtain ⟨_,g8,g9⟩:=(ay.ks c).atN M;obtain ⟨⟨_,_,rfl,_⟩,_⟩:=g8;refine lW g9.one<|go ?_;refine Zm b (fun n b=>go ?_) fun n b=>go ?_
     ·refine Y8 (col:=U) [(0,1),(1,1),(2,1),(3,1),(4,1),(5,0),(6,3),(7,3),(8,2),(9,1),(10,2)] (by kernel_rfl) (by kernel_rfl)<|xu rfl rfl (fun _=>Vd rfl) ?_;refine xu rfl rfl (fun _=>Yd rfl) ?_;refine xu rfl rfl (fun _=>Vd rfl) ?_;refine xu rfl rfl (fun _=>Yd rfl) ?_;obtain ⟨c8,cy,b⟩:=bZ b;refine xu rfl rfl (fun _=>X8 underlying25 sizeOf29 rfl rfl (Z0 cy).1 (Z0 cy).2.1 (eb.addr cy)) ?_;obtain ⟨_,dr,O,Z,ha⟩:=eb.open_ 8 (by decide) cy;obtain ⟨hc,hd,rfl,bz⟩:=ha.row;replace Z:X4 (Za.row 42 (rO 45)) 29 7 dr C ck cl I (aA ca) [.slice hc c8.length hd]:=Z;refine xW (fun _ a=>Z.atN.one.gr (a.bl dr)) ?_;refine xe rfl rfl ?_;intro _ d;have a:=d.bl dr;obtain ⟨C,U,b⟩:=bZ b;refine Zi (Zr6 (col:=dr) 9 10 U) fun _ _ ⟨U,T,x,J,K,v,M,ee,ef⟩=>⟨_,v,?_⟩;refine Zl<|Xo U d M<|xe rfl rfl ?_;intro _ d;replace h:=((h.kpp O).gr a).gr M;replace i:=((i.kpp O).gr a).gr M;replace j:=((j.kpp O).gr a).gr M;replace k:=((k.kpp O).gr a).gr M;replace f:=((f.kpp O).gr a).gr M;replace g:=((g.kpp O).gr a).gr M;replace c:=((c.kpp O).grow a).grow M;replace Z:=(Z.gr a).gr M;replace bz:=(bz.gr a).gr M;have a:=d.bl U;have O:=Yg.join (Yg.joinL (Zaa C.1.1) (ee.gr a).has) (ef.gr a).has (by decide) (by decide);replace h:=h.gr a;replace h:=h.recol 10 9;replace i:=i.gr a;replace i:=i.recol 10 9;replace j:=j.gr a;replace j:=j.recol 10 9;replace k:=k.gr a;replace k:=k.recol 10 9;replace Z:=Z.gr a;replace Z:=Z.recol 10 9;replace bz:=bz.gr a;replace bz:=bz.recol 10 9;replace f:=f.gr a;replace f:=f.recol 10 9;replace g:=g.gr a;replace g:=g.recol 10 9;replace c:=c.grow a;replace c:=c.recol 10 9 (by decide) (by decide);refine U6 (col:=(Xv 10 9 U)) (r:=(rO 45)) (xs:=[((C.1.1,C.1.2),C.2)]) [(.agg #[.bool C.1.1,.slice T C.1.2.length x,.slice J C.2.length K])] 9 (W5.cons1 (cs:=[.bool C.1.1,.slice T C.1.2.length x,.slice J C.2.length K]) O Rows.nil0) ?_;intro _ _ T O U
      refine Zl<|Xo T d O<|xe rfl rfl ?_;intro M d;have a:=d.bl T;obtain ⟨x,b⟩:=Z4 b;refine Sy (col:=T) (w:=M) (r:=(rO 45)) (c:=8) (c2:=9) (((bz.gr O).gr a).ex) ((U.gr a).srcC (by decide)) rfl underlying29 Zww rfl rfl rfl x.1 x.2 (by decide) fun x M _ T U J=>Zl<|xk T ?_;replace Z:=((Z.gr O).gr a).kpp U;refine xu rfl rfl (fun _=>X8 underlying25 sizeOf29 rfl rfl (Z0 cy).1 (Z0 cy).2.1 (Z.addr)) ?_;refine xe rfl rfl ?_;intro _ d;replace h:=((h.gr O).gr a).kpp U;replace i:=((i.gr O).gr a).kpp U;replace j:=((j.gr O).gr a).kpp U;replace k:=((k.gr O).gr a).kpp U;replace f:=((f.gr O).gr a).kpp U;replace g:=((g.gr O).gr a).kpp U;replace c:=((c.grow O).grow a).kpp U;have a:=d.bl T;refine Zx2 (v:=(.slice x ((c8++[((C.1.1,C.1.2),C.2)]).length) M)) (Z.gr a) rfl sizeOf29 rfl (Rs rfl rfl) rfl rfl (by decide) ?_;intro U Z K O;replace O:X4 (Za.row 42 (rO 45)) 29 7 T U ck cl I (aA ca) [(.slice x ((c8++[((C.1.1,C.1.2),C.2)]).length) M)]:=O;refine Zl<|xk T ?_;have U:=((J.gr a).kp Z).new;have x:=O.close U.has (by decide) (by decide);replace h:=(h.gr a).kp Z;replace h:=h.recol 8 7;replace i:=(i.gr a).kp Z;replace i:=i.recol 8 7;replace j:=(j.gr a).kp Z;replace j:=j.recol 8 7;replace k:=(k.gr a).kp Z;replace k:=k.recol 8 7;replace f:=(f.gr a).kp Z;replace f:=f.recol 8 7;replace g:=(g.gr a).kp Z;replace g:=g.recol 8 7;replace c:=(c.grow a).kp Z K;replace c:=c.recol 8 7 (by decide) (by decide);refine .ld (d:=8) (v:=(.slice ck ((I.set (aA ca) (c8++[((C.1.1,C.1.2),C.2)])).length) cl)) (congrArg (fun G=>Value.slice ck G cl) (show I.length=(I.set (aA ca) (c8++[((C.1.1,C.1.2),C.2)])).length by simp only [nS])) ?_;refine Y4 ?_;intro _ a;replace a:=a.bl (Xv 8 7 T);refine go ?_;replace h:=h.gr a;replace i:=i.gr a;replace j:=j.gr a
      replace k:=k.gr a;replace f:=f.gr a;replace g:=g.gr a;replace c:=c.grow a;exact ⟨cx,by omega,rfl,⟨_,_,_,_,_,_,rfl,b,c,f,h,i,j,k,g,x.gr a,rfl⟩⟩
     exact ⟨cj,by omega,rfl,⟨_,_,_,_,_,_,rfl,b,c,f,h,i,j,k,g,eb,rfl⟩⟩
   refine Zt [1,2,4,1000000] (fun G Q O=>∃ Y cz co da db cd bj,bj=G∧Tu N t bb bj cz co cd=some r∧St B (Zh col) Y O∧Zd 27 1 Y O bs (Rq t a7 a3 a8 a4 a9 a5 ba a6)∧Zb Za.str 9 3 Y O bl dk ex∧Zb (Za.row 9 Za.str) 22 4 Y O fo fs gn∧Zb (Za.row 3 rI) 36 5 Y O gr gt gv∧Zb (Za.row 42 (rO 45)) 29 6 Y O s u hu∧Zd 27 2 Y O bt #[.string bc,.slice bl ex.length dk,.slice fo gn.length fs,.slice gr gv.length gt,.slice s hu.length u]∧Zb (Za.row 42 (rO 45)) 29 7 Y O da db cd∧[11,12,8].map Q=[.bool cz,.int .i64 co,.slice da cd.length db]) N ⟨_,_,0,_,_,_,_,rfl,b,c,f,h,i,j,k,g,fw,rfl⟩ ?_;clear b;intro G Q O S;obtain ⟨Y,cz,co,da,db,cd,bj,R,b,c,f,h,i,j,k,g,w,A⟩:=S;subst R;refine .lL [11,12,8] A ?_
   cases bj with
   | zero=>rw [Tu.eq_1] at b;cases b
   | succ bj=>
    rw [Tu.eq_2] at b;refine go ?_;refine Zm b (fun n b=>?_) fun n b=>go ?_
    ·refine Xz<|Zx ?_;refine Wp.cutK [1,12,2,4,1000000] (fun Q I=>∃ J Z x C U,Zfi co (Tu N t bb bj) Z U=some r∧St B (Zh col) J I∧Zd 27 1 J I bs (Rq t a7 a3 a8 a4 a9 a5 ba a6)∧Zb Za.str 9 3 J I bl dk ex∧Zb (Za.row 9 Za.str) 22 4 J I fo fs gn∧Zb (Za.row 3 rI) 36 5 J I gr gt gv∧Zb (Za.row 42 (rO 45)) 29 6 J I s u hu∧Zd 27 2 J I bt #[.string bc,.slice bl ex.length dk,.slice fo gn.length fs,.slice gr gv.length gt,.slice s hu.length u]∧Zb (Za.row 42 (rO 45)) 29 7 J I x C U∧[11,8].map Q=[.bool Z,.slice x U.length C]) ?_ ?_
     ·intro Q I I;obtain ⟨J,Z,x,C,U,b,c,f,h,i,j,k,g,C,A⟩:=I;rw [Zfi.eq_1] at b;refine .lL [11,8] A<|go ?_;exact ⟨bj,by omega,rfl,⟨_,_,_,_,_,_,_,rfl,b,c,f,h,i,j,k,g,C,rfl⟩⟩
     refine go ?_;refine Y8 (col:=Y) [(0,0),(1,1),(2,1),(3,1),(4,0),(5,3),(6,1)] (by kernel_rfl) (by kernel_rfl)<|xv rfl rfl (fun _ a=>Z5 isAgg27 sizeOf27 (f.gr (a.bl Y))) ?_;refine xu rfl rfl (fun _=>Vd rfl) ?_;refine xu rfl rfl (fun _=>Yd rfl) ?_;obtain ⟨_,C,b⟩:=bZ b;refine xu rfl rfl (fun _=>X8 underlying49 sizeOf36 rfl rfl (Z0 C).1 (Z0 C).2.1 ((h1.ks c).addr C)) ?_;obtain ⟨_,hl,ho⟩:=(h1.ks c).atN C;obtain ⟨⟨_,_,rfl,eo⟩,_⟩:=hl;refine xW (fun _ a=>ho.one.gr (a.bl Y)) ?_;refine xe rfl rfl ?_;intro _ d;have a:=d.bl Y;obtain ⟨cp,Y,b⟩:=bZ b;replace c:=c.grow a;refine Zi (Z6n 11 Y (b8.ks c) (be.ks c) (b9.ks c) (ay.ks c) (eo.gr a)) fun _ _ ⟨C,ep,eq,v,Z,l⟩=>⟨_,v,?_⟩;refine Zl<|Xo C d Z<|xu rfl rfl (fun _=>Zqn rfl) ?_;refine Y4 ?_;replace h:=(h.gr a).gr Z;replace i:=(i.gr a).gr Z;replace j:=(j.gr a).gr Z;replace k:=(k.gr a).gr Z;replace w:=(w.gr a).gr Z;replace f:=(f.gr a).gr Z;replace g:=(g.gr a).gr Z;intro _ a;replace a:=a.bl C;refine go ?_;replace c:=(c.grow Z).grow a;replace h:=h.gr a;replace i:=i.gr a;replace j:=j.gr a;replace k:=k.gr a;replace w:=w.gr a;replace l:=l.gr a;replace f:=f.gr a;replace g:=g.gr a
     refine Zt [1,11,12,13,2,4,8,1000000] (fun G Q H=>∃ W cq c0 b4 Y c1,c1=G∧Zh0 N t cz co cd (Tu N t bb bj) cp c1 b4 Y=some r∧St B (Zh col) W H∧Zb (Za.row 3 rI) 36 11 W H ep eq cp∧Zb (rO 45) 42 12 W H cq c0 b4∧Zd 27 1 W H bs (Rq t a7 a3 a8 a4 a9 a5 ba a6)∧Zb Za.str 9 3 W H bl dk ex∧Zb (Za.row 9 Za.str) 22 4 W H fo fs gn∧Zb (Za.row 3 rI) 36 5 W H gr gt gv∧Zb (Za.row 42 (rO 45)) 29 6 W H s u hu∧Zd 27 2 W H bt #[.string bc,.slice bl ex.length dk,.slice fo gn.length fs,.slice gr gv.length gt,.slice s hu.length u]∧Zb (Za.row 42 (rO 45)) 29 7 W H da db cd∧[14,15].map Q=[.slice cq b4.length c0,.int .i64 Y]) N ⟨_,none,0,_,0,_,rfl,b,c,l,Zb.nil,f,h,i,j,k,g,w,rfl⟩ ?_;clear b;intro G Q H S;obtain ⟨W,cq,c0,b4,Y,c1,R,b,c,l,m,f,h,i,j,k,g,w,A⟩:=S;subst R;refine .lL [14,15] A ?_
     cases c1 with
     | zero=>rw [Zh0.eq_1] at b;cases b
     | succ c1=>
      rw [Zh0.eq_2] at b;refine go ?_;refine Zm b (fun n b=>go ?_) fun n b=>go ?_
      ·refine Y8 (col:=W) [(0,1),(1,0),(2,1),(3,1),(4,1),(5,0),(6,3),(7,3),(8,2),(9,1)] (by kernel_rfl) (by kernel_rfl)<|xu rfl rfl (fun _=>Vd rfl) ?_;refine xv rfl rfl (fun _ a=>Z5 isAgg27 sizeOf27 (f.gr (a.bl W))) ?_;refine xu rfl rfl (fun _=>Vd rfl) ?_;refine xu rfl rfl (fun _=>Yd rfl) ?_;obtain ⟨_,Y,b⟩:=bZ b;refine xu rfl rfl (fun _=>X8 underlying24 sizeOf36 rfl rfl (Z0 Y).1 (Z0 Y).2.1 (l.addr Y)) ?_;obtain ⟨_,hq,hr⟩:=l.atN Y;obtain ⟨_,_,rfl,es⟩:=hq.row;refine xW (fun _ a=>hr.one.gr (a.bl W)) ?_;refine xe rfl rfl ?_;intro K d;have a:=d.bl W;obtain ⟨Y,O,b⟩:=bZ b;replace c:=c.grow a;refine Zi (Z6j 13 14 O ((b8.ks c).froz 11) ((be.ks c).froz 11) ((b9.ks c).froz 11) ((ay.ks c).froz 11) ((es.gr a).toSlF (Zg.int .i64))) fun _ _ ⟨Z,C,T,M,x,v,I,U,O⟩=>⟨_,v,?_⟩;replace U:=U.thaw (Z1 .u32) I ((Fz.refl (col:=W)).froz 11);replace O:=O.thaw (Z1 .u32) I ((Fz.refl (col:=W)).froz 11);replace I:=I.thawR (col:=W);generalize Xa K.heap.size W Z=Z at *;refine Zl<|Xo Z d I<|xe rfl rfl ?_;intro _ d;replace l:=(l.gr a).gr I;replace m:=(m.gr a).gr I;replace h:=(h.gr a).gr I;replace i:=(i.gr a).gr I;replace j:=(j.gr a).gr I;replace k:=(k.gr a).gr I;replace w:=(w.gr a).gr I;replace f:=(f.gr a).gr I;replace g:=(g.gr a).gr I;have a:=d.bl Z;have K:=Yg.join (Yg.joinL (Zaa Y.1.1) (U.gr a).has) (O.gr a).has (by decide) (by decide);replace l:=l.gr a;replace l:=l.recol 14 13;replace m:=m.gr a;replace m:=m.recol 14 13;replace h:=h.gr a;replace h:=h.recol 14 13;replace i:=i.gr a;replace i:=i.recol 14 13;replace j:=j.gr a;replace j:=j.recol 14 13;replace k:=k.gr a;replace k:=k.recol 14 13;replace w:=w.gr a;replace w:=w.recol 14 13;replace f:=f.gr a;replace f:=f.recol 14 13;replace g:=g.gr a;replace g:=g.recol 14 13;replace c:=(c.grow I).grow a;replace c:=c.recol 14 13 (by decide) (by decide)
       refine U6 (col:=(Xv 14 13 Z)) (r:=(rO 45)) (xs:=[((Y.1.1,Y.1.2),Y.2)]) [(.agg #[.bool Y.1.1,.slice C Y.1.2.length T,.slice M Y.2.length x])] 13 (W5.cons1 (cs:=[.bool Y.1.1,.slice C Y.1.2.length T,.slice M Y.2.length x]) K Rows.nil0) fun _ _ I K O=>Zl<|Xo I d K<|xe rfl rfl ?_;intro Z d;have a:=d.bl I;obtain ⟨Y,b⟩:=Z4 b;replace m:=(m.gr K).gr a;refine Sy (col:=I) (w:=Z) (r:=(rO 45)) (c:=12) (c2:=13) (m.ex) ((O.gr a).srcC (by decide)) rfl underlying29 Zww rfl rfl rfl Y.1 Y.2 (by decide) fun _ _ _ M x Z=>Zl<|xk M<|xu rfl rfl (fun _=>Zqn rfl) ?_;have I:=Z.new;refine Y4 ?_;replace l:=((l.gr K).gr a).kpp x;replace h:=((h.gr K).gr a).kpp x;replace i:=((i.gr K).gr a).kpp x;replace j:=((j.gr K).gr a).kpp x;replace k:=((k.gr K).gr a).kpp x;replace w:=((w.gr K).gr a).kpp x;replace f:=((f.gr K).gr a).kpp x;replace g:=((g.gr K).gr a).kpp x;replace c:=((c.grow K).grow a).kpp x;intro _ a;replace a:=a.bl M;refine go ?_;replace l:=l.gr a;replace h:=h.gr a;replace i:=i.gr a;replace j:=j.gr a;replace k:=k.gr a;replace w:=w.gr a;replace f:=f.gr a;replace g:=g.gr a;replace c:=c.grow a;exact ⟨c1,by omega,rfl,⟨_,_,_,_,_,_,rfl,b,c,l,I.gr a,f,h,i,j,k,g,w,rfl⟩⟩
      obtain ⟨P,O,b⟩:=bZ b;refine Zi (Zr7 15 16 O (m.toSlF (Zg.pair (Zg.pair Zg.bool (Zg.row (Zg.int .u32))) (Zg.row (Zg.int .u32))))) fun _ _ ⟨Y,de,df,dg,dh,v,T,o,p⟩=>⟨_,v,?_⟩;replace o:=o.thaw (Z1 .u32) T ((Fz.refl (col:=W)).froz 12);replace p:=p.thaw (Z1 .u32) T ((Fz.refl (col:=W)).froz 12);replace T:=T.thawR (col:=W);generalize Xa H.heap.size W Y=W at *;refine Xr (col:=W) #[.bool false,(nI),(nI)] 17 zeroValue42 fun gb _ Y J W=>Z6 W fun _ I W q=>go ?_;refine lV _ (Z5 isAgg42 sizeOf42 q) ?_;obtain ⟨_,H,b⟩:=bZ b;replace o:=(o.gr J).kp I;replace p:=(p.gr J).kp I;refine Zi (Zoo H ((o.toSlF (Zg.int .u32)).froz 16) ((p.froz 15).toSlF (Zg.int .u32))) fun _ _ ⟨v,H⟩=>⟨_,v,?_⟩;replace H:=Rr Y H;refine go ?_;replace l:=(((l.gr T).gr J).kp I).gr H;replace m:=(((m.gr T).gr J).kp I).gr H;replace h:=(((h.gr T).gr J).kp I).gr H;replace i:=(((i.gr T).gr J).kp I).gr H;replace j:=(((j.gr T).gr J).kp I).gr H;replace k:=(((k.gr T).gr J).kp I).gr H;replace w:=(((w.gr T).gr J).kp I).gr H;replace f:=(((f.gr T).gr J).kp I).gr H;replace g:=(((g.gr T).gr J).kp I).gr H;replace c:=(((c.grow T).grow J).kp I W).grow H;replace o:=o.gr H;replace p:=p.gr H;replace q:=q.gr H;refine Zm b (fun n b=>go ?_) fun n b=>go ?_
      ·exact ⟨rfl,_,_,_,_,_,b,c,f,h,i,j,k,g,w,rfl⟩
      refine Zt [1,11,12,13,14,16,2,4,1000000] (fun G Q D=>∃ V c3 H I W cr,cr=G∧Za4 N t cz co (Tu N t bb bj) cp b4 P cr c3 W=some r∧St B (Zh col) V D∧Zb (Za.row 3 rI) 36 11 V D ep eq cp∧Zb (rO 45) 42 12 V D cq c0 b4∧Zb rU 45 15 V D de df P.1.2∧Zb rU 45 16 V D dg dh P.2∧Zd 42 17 V D gb #[.bool P.1.1,.slice de P.1.2.length df,.slice dg P.2.length dh]∧Zd 27 1 V D bs (Rq t a7 a3 a8 a4 a9 a5 ba a6)∧Zb Za.str 9 3 V D bl dk ex∧Zb (Za.row 9 Za.str) 22 4 V D fo fs gn∧Zb (Za.row 3 rI) 36 5 V D gr gt gv∧Zb (Za.row 42 (rO 45)) 29 6 V D s u hu∧Zd 27 2 V D bt #[.string bc,.slice bl ex.length dk,.slice fo gn.length fs,.slice gr gv.length gt,.slice s hu.length u]∧Zb (Za.row 42 (rO 45)) 29 7 V D H I W∧[17,8].map Q=[.int .i64 c3,.slice H W.length I]) N ⟨_,0,_,_,_,_,rfl,b,c,l,m,o,p,q,f,h,i,j,k,g,w,rfl⟩ ?_;clear b;intro G Q D S;obtain ⟨V,c3,H,I,W,cr,R,b,c,l,m,o,p,q,f,h,i,j,k,g,ce,A⟩:=S;subst R;refine .lL [17,8] A ?_
      cases cr with
      | zero=>rw [Za4.eq_1] at b;cases b
      | succ cr=>
       rw [Za4.eq_2] at b;refine go ?_;refine Zm b (fun n b=>go ?_) fun n b=>go ?_
       ·have z:=Zu.clip (fun _=>false) V D;refine Zih (col:=V) [(0,1),(1,1),(2,1),(3,0),(4,0),(5,3),(6,1),(7,1),(8,1),(9,4),(10,2),(11,1)] (by kernel_rfl) (by kernel_rfl) ⟨fun y=>absurd y (by decide),fun y=>absurd y (by decide),fun y=>absurd y (by decide),fun y=>absurd y (by decide),fun y=>absurd y (by decide),fun y=>absurd y (by decide),fun y=>absurd y (by decide),fun y=>absurd y (by decide),fun y=>absurd y (by decide),fun _=>⟨_,_,_,rfl,Sa zeroValue42⟩,fun y=>absurd y (by decide),fun y=>absurd y (by decide),trivial⟩<|Vf (v:=(.slice cq b4.length c0)) rfl rfl (fun _=>Vl rfl) ?_;refine Vf (v:=(.int .i64 c3)) rfl rfl (fun _=>Vl rfl) ?_;obtain ⟨e1,H,b⟩:=bZ b;replace m:=m.kpp z;refine Vf (v:=(Yj cq (aA c3 * 3))) rfl rfl (fun _=>X8 underlying29 sizeOf42 rfl rfl (Z0 H).1 (Z0 H).2.1 (m.addr H)) ?_;obtain ⟨_,h9,ia⟩:=m.atN H;obtain ⟨_,_,rfl,ib,ic⟩:=h9.parts;obtain ⟨_,_,rfl,id,ie⟩:=ib.parts;obtain rfl:=id.bool;obtain ⟨ig,ih,rfl,e2⟩:=ie.row;obtain ⟨ii,ij,rfl,e3⟩:=ic.row;refine Ta (v:=(.agg #[.bool e1.1.1,.slice ig e1.1.2.length ih,.slice ii e1.2.length ij])) rfl rfl (fun _ a=>Yl isAgg42 sizeOf42 rfl rfl (ia.gr (a.bl (Zo D V)))) ?_;replace q:=q.kpp z;refine Ta (v:=(.agg #[.bool P.1.1,.slice de P.1.2.length df,.slice dg P.2.length dh])) rfl rfl (fun _ a=>Yl isAgg42 sizeOf42 rfl rfl (q.atN.gr (a.bl (Zo D V)))) ?_;refine Vz rfl rfl ?_;intro I d;have a:=d.bl (Zo D V);obtain ⟨O,W,b⟩:=bZ b;replace o:=(o.kpp z).gr a;replace p:=(p.kpp z).gr a;refine Zi (Zvs 18 19 W ((((e2.gr a).toSlF (Zg.int .u32)).froz 15).froz 16) ((((e3.gr a).toSlF (Zg.int .u32)).froz 15).froz 16) (((o.froz 12).toSlF (Zg.int .u32)).froz 16) (((p.froz 12).froz 15).toSlF (Zg.int .u32))) fun _ U ⟨W,H,Y,Z,C,v,T,X,h5⟩=>⟨_,v,?_⟩;replace X:=X.thaw (Z1 .u32) T ((((Fz.refl (col:=(Zo D V))).froz 12).froz 15).froz 16) (by decide);replace h5:=h5.thaw (Z1 .u32) T ((((Fz.refl (col:=(Zo D V))).froz 12).froz 15).froz 16) (by decide);replace T:=T.thawR (col:=(Zo D V))
        generalize Xa I.heap.size (Zo D V) W=x at *;refine Zl ?_;refine ⟨fun w'=>Zj (Zo U x) U (Zo U x) w',fun I=>(Zo U x) I=497,Zj.refl _ _,Vt,fun _=>⟨fun _ y=>V4 d T y,fun V n=>T.below.block V n,fun I V D=>Ts T I V (by first | exact D | (simp only [Ya,D];rfl) | (simp only [Ya,Xv,D];rfl))⟩,?_⟩;have M:=Zu.clip (fun _=>false) x U;refine Vf (v:=(.tuple #[(.agg #[.bool O.1.1.1,.slice H O.1.1.2.length Y,.slice Z O.1.2.length C]),.int .i64 O.2])) rfl rfl (fun _=>Vl rfl) ?_;refine Vf (v:=(.agg #[.bool O.1.1.1,.slice H O.1.1.2.length Y,.slice Z O.1.2.length C])) rfl rfl (fun _=>Xt rfl rfl) ?_;refine Vf (v:=(.int .i64 O.2)) rfl rfl (fun _=>Xt rfl rfl) ?_;refine Zik rfl rfl (Sa zeroValue42) fun V D=>Vz rfl rfl ?_;intro W ⟨d,hZ0⟩;replace l:=(((l.kpp z).gr a).gr T).kpp M;replace h:=(((h.kpp z).gr a).gr T).kpp M;replace i:=(((i.kpp z).gr a).gr T).kpp M;replace j:=(((j.kpp z).gr a).gr T).kpp M;replace k:=(((k.kpp z).gr a).gr T).kpp M;replace ce:=(((ce.kpp z).gr a).gr T).kpp M;replace f:=(((f.kpp z).gr a).gr T).kpp M;replace g:=(((g.kpp z).gr a).gr T).kpp M;replace c:=(((c.kpp z).grow a).grow T).kpp M;replace m:=((m.gr a).gr T).kpp M;replace q:=((q.gr a).gr T).kpp M;have a:=d.bl (Zo U x);obtain ⟨K,z⟩:=Zf5 (col:=(Zo U x)) 20 hZ0 D;replace z:Zd 42 20 (Xm V 20 (Zo U x)) W V #[.bool false,(nI),(nI)]:=z;refine Z6 z fun W J z h8=>Zl ?_;refine ⟨fun w'=>Zj (Zo W (Xm V 20 (Zo U x))) W (Zo W (Xm V 20 (Zo U x))) w',fun I=>(Zo W (Xm V 20 (Zo U x))) I=497,Zj.refl _ _,Vt,fun y=>absurd y (by decide),?_⟩;have D:=Zu.clip (fun _=>false) (Xm V 20 (Zo U x)) W;refine Vf (v:=(.int .i64 O.2)) rfl rfl (fun _=>T0 rfl) ?_;refine Zil ?_;replace o:=(((((o.gr T).kpp M).gr a).kpp K).kp J).kpp D;replace p:=(((((p.gr T).kpp M).gr a).kpp K).kp J).kpp D;replace X:=((((X.kpp M).gr a).kpp K).kp J).kpp D;replace h5:=((((h5.kpp M).gr a).kpp K).kp J).kpp D
        replace l:=(((l.gr a).kpp K).kp J).kpp D;replace m:=(((m.gr a).kpp K).kp J).kpp D;replace h:=(((h.gr a).kpp K).kp J).kpp D;replace i:=(((i.gr a).kpp K).kp J).kpp D;replace j:=(((j.gr a).kpp K).kp J).kpp D;replace k:=(((k.gr a).kpp K).kp J).kpp D;replace ce:=(((ce.gr a).kpp K).kp J).kpp D;replace q:=(((q.gr a).kpp K).kp J).kpp D;replace f:=(((f.gr a).kpp K).kp J).kpp D;replace g:=(((g.gr a).kpp K).kp J).kpp D;replace c:=(((c.grow a).kpp K).kp J z).kpp D;intro z a;replace a:Zj (Zo W (Xm V 20 (Zo U x))) W (Zo W (Xm V 20 (Zo U x))) z:=.of_below a.below;refine go ?_;replace h8:=(h8.kpp D).gr a;replace l:=l.gr a;replace m:=m.gr a;replace o:=o.gr a;replace p:=p.gr a;replace h:=h.gr a;replace i:=i.gr a;replace j:=j.gr a;replace k:=k.gr a;replace ce:=ce.gr a;replace X:=X.gr a;replace h5:=h5.gr a;replace q:=q.gr a;replace f:=f.gr a;replace g:=g.gr a;replace c:=c.grow a
        refine Zt [1,11,12,13,14,16,17,18,2,4,1000000] (fun G Q z=>∃ F ct cu cv b7 c4,c4=G∧Zfj N t cp c3 (Za4 N t cz co (Tu N t bb bj) cp b4 P cr) O c4 ct b7=some r∧St B (Zh col) F z∧Zb (Za.row 3 rI) 36 11 F z ep eq cp∧Zb (rO 45) 42 12 F z cq c0 b4∧Zb rU 45 15 F z de df P.1.2∧Zb rU 45 16 F z dg dh P.2∧Zd 42 17 F z gb #[.bool P.1.1,.slice de P.1.2.length df,.slice dg P.2.length dh]∧Zb rU 45 18 F z H Y O.1.1.2∧Zb rU 45 19 F z Z C O.1.2∧Zd 42 20 F z V #[.bool O.1.1.1,.slice H O.1.1.2.length Y,.slice Z O.1.2.length C]∧Zd 27 1 F z bs (Rq t a7 a3 a8 a4 a9 a5 ba a6)∧Zb Za.str 9 3 F z bl dk ex∧Zb (Za.row 9 Za.str) 22 4 F z fo fs gn∧Zb (Za.row 3 rI) 36 5 F z gr gt gv∧Zb (Za.row 42 (rO 45)) 29 6 F z s u hu∧Zd 27 2 F z bt #[.string bc,.slice bl ex.length dk,.slice fo gn.length fs,.slice gr gv.length gt,.slice s hu.length u]∧Zb (Za.row 42 (rO 45)) 29 7 F z cu cv b7∧[20,8].map Q=[.int .i64 ct,.slice cu b7.length cv]) N ⟨_,0,_,_,_,_,rfl,b,c,l,m,o,p,q,X,h5,h8,f,h,i,j,k,g,ce,rfl⟩ ?_;clear b;intro G Q z S;obtain ⟨F,ct,cu,cv,b7,c4,R,b,c,l,m,o,p,q,X,h5,h8,f,h,i,j,k,g,di,A⟩:=S;subst R;refine .lL [20,8] A ?_
        cases c4 with
        | zero=>rw [Zfj.eq_1] at b;cases b
        | succ c4=>
         rw [Zfj.eq_2] at b;refine go ?_;refine Z9 f ?_;refine go ?_;refine Zm b (fun n b=>go ?_) fun n b=>go ?_
         ·refine Wg (col:=F) (by kernel_rfl) (by kernel_rfl)<|qv rfl (fun _ a=>Z5 isAgg27 sizeOf27 (f.gr (a.bl F))) ?_;refine go ?_;obtain ⟨_,z,b⟩:=bZ b;refine qI z (l.addr z) ?_;obtain ⟨_,it,iu⟩:=l.atN z;obtain ⟨_,_,rfl,iv⟩:=it.row;refine qW (fun _ a=>iu.one.gr (a.bl F)) ?_;obtain ⟨gd,D,b⟩:=bZ b;refine qc (v:=(.int .i64 gd)) rfl (fun _ a=>⟨_,_,Zqp call58 rfl rfl rfl,(Z6p D (((b8.ks c).gr (a.bl F)).froz 11) (((be.ks c).gr (a.bl F)).froz 11) (((b9.ks c).gr (a.bl F)).froz 11) (((ay.ks c).gr (a.bl F)).froz 11) ((iv.gr (a.bl F)).toSlF (Zg.int .i64)):).mono fun _ _ y=>⟨y.1,a.trans (.of_below y.2)⟩⟩) ?_;refine go ?_;refine Y1 ?_;intro ix a;replace a:=a.bl F;refine Y8 (col:=F) [(0,1),(1,1),(2,1),(3,0),(4,1),(5,1),(6,1),(7,1),(8,0),(9,1),(10,1),(11,0),(12,0),(13,3),(14,1),(15,2)] (by kernel_rfl) (by kernel_rfl)<|xu rfl rfl (fun _=>Vd rfl) ?_;refine xu rfl rfl (fun _=>Yd rfl) ?_;obtain ⟨e6,c5,b⟩:=bZ b;replace di:=di.gr a;refine xu rfl rfl (fun _=>X8 underlying25 sizeOf29 rfl rfl (Z0 c5).1 (Z0 c5).2.1 (di.addr c5)) ?_;obtain ⟨_,bm,L,E,iy⟩:=di.open_ 21 (by decide) c5;obtain ⟨ge,gf,rfl,bn⟩:=iy.row;replace E:X4 (Za.row 42 (rO 45)) 29 7 bm ix cu cv b7 (aA ct) [.slice ge e6.length gf]:=E;refine xW (fun _ a=>E.atN.one.gr (a.bl bm)) ?_;refine xu rfl rfl (fun _=>Yd rfl) ?_;refine xu rfl rfl (fun _=>Vd rfl) ?_;refine xu rfl rfl (fun _=>Yd rfl) ?_;refine xu rfl rfl (fun _=>X8 underlying25 sizeOf29 rfl rfl (Z0 c5).1 (Z0 c5).2.1 (E.addr)) ?_;refine xW (fun _ a=>E.atN.one.gr (a.bl bm)) ?_;refine xu rfl rfl (fun _=>Yd rfl) ?_;obtain ⟨e7,cg,b⟩:=bZ b;refine xu rfl rfl (fun _=>X8 underlying29 sizeOf42 rfl rfl (Z0 cg).1 (Z0 cg).2.1 (bn.addr cg)) ?_;obtain ⟨_,iz,i0⟩:=bn.atN cg;obtain ⟨_,_,rfl,i1,i2⟩:=iz.parts;obtain ⟨_,_,rfl,i3,i4⟩:=i1.parts;obtain rfl:=i3.bool;obtain ⟨i5,i6,rfl,e8⟩:=i4.row;obtain ⟨i7,i8,rfl,e9⟩:=i2.row
          refine xv (v:=(.agg #[.bool e7.1.1,.slice i5 e7.1.2.length i6,.slice i7 e7.2.length i8])) rfl rfl (fun _ a=>Yl isAgg42 sizeOf42 rfl rfl (i0.gr (a.bl bm))) ?_;replace h8:=(h8.gr a).kpp L;refine xv rfl rfl (fun _ a=>Z5 isAgg42 sizeOf42 (h8.gr (a.bl bm))) ?_;refine xe rfl rfl ?_;intro z d;replace l:=(l.gr a).kpp L;replace m:=(m.gr a).kpp L;replace o:=(o.gr a).kpp L;replace p:=(p.gr a).kpp L;replace X:=(X.gr a).kpp L;replace h5:=(h5.gr a).kpp L;replace h:=(h.gr a).kpp L;replace i:=(i.gr a).kpp L;replace j:=(j.gr a).kpp L;replace k:=(k.gr a).kpp L;replace q:=(q.gr a).kpp L;replace f:=(f.gr a).kpp L;replace g:=(g.gr a).kpp L;replace c:=(c.grow a).kpp L;have a:=d.bl bm;obtain ⟨F,y,b⟩:=bZ b;replace X:=X.gr a;replace h5:=h5.gr a;refine Zi (Zvr 22 23 y ((((e8.gr a).toSlF (Zg.int .u32)).froz 18).froz 19) ((((e9.gr a).toSlF (Zg.int .u32)).froz 18).froz 19) (((X.froz 21).toSlF (Zg.int .u32)).froz 19) (((h5.froz 21).froz 18).toSlF (Zg.int .u32))) fun _ _ ⟨V,D,H,T,C,v,y,L,P⟩=>⟨_,v,?_⟩;replace L:=L.thaw (Z1 .u32) y ((((Fz.refl (col:=bm)).froz 21).froz 18).froz 19);replace P:=P.thaw (Z1 .u32) y ((((Fz.refl (col:=bm)).froz 21).froz 18).froz 19);replace y:=y.thawR (col:=bm);generalize Xa z.heap.size bm V=V at *;refine Zl<|Xo V d y ?_;replace bn:=(bn.gr a).gr y;refine xu rfl rfl (fun _=>X8 underlying29 sizeOf42 rfl rfl (Z0 cg).1 (Z0 cg).2.1 (bn.addr cg)) ?_;refine xe rfl rfl ?_;intro _ d;replace l:=(l.gr a).gr y;replace m:=(m.gr a).gr y;replace o:=(o.gr a).gr y;replace p:=(p.gr a).gr y;replace h:=(h.gr a).gr y;replace i:=(i.gr a).gr y;replace j:=(j.gr a).gr y;replace k:=(k.gr a).gr y;replace E:=(E.gr a).gr y;replace q:=(q.gr a).gr y;replace h8:=(h8.gr a).gr y;replace f:=(f.gr a).gr y;replace g:=(g.gr a).gr y;replace c:=(c.grow a).grow y;have a:=d.bl V;replace L:=L.gr a
          have V:=Yg.join (Yg.joinL (Zaa F.1.1) L.has) (P.gr a).has (by decide) (by decide);replace l:=l.gr a;replace l:=l.recol 23 22;replace m:=m.gr a;replace m:=m.recol 23 22;replace o:=o.gr a;replace o:=o.recol 23 22;replace p:=p.gr a;replace p:=p.recol 23 22;replace X:=(X.gr y).gr a;replace X:=X.recol 23 22;replace h5:=(h5.gr y).gr a;replace h5:=h5.recol 23 22;replace h:=h.gr a;replace h:=h.recol 23 22;replace i:=i.gr a;replace i:=i.recol 23 22;replace j:=j.gr a;replace j:=j.recol 23 22;replace k:=k.gr a;replace k:=k.recol 23 22;replace E:=E.gr a;replace E:=E.recol 23 22;replace bn:=bn.gr a;replace q:=q.gr a;replace q:=q.recol 23 22;replace h8:=h8.gr a;replace h8:=h8.recol 23 22;replace f:=f.gr a;replace f:=f.recol 23 22;replace g:=g.gr a;replace g:=g.recol 23 22;replace c:=c.grow a;replace c:=c.recol 23 22 (by decide) (by decide);obtain ⟨P,y,b⟩:=bZ b;have y:P=e6.set (aA gd) ((F.1.1,F.1.2),F.2):=(Option.some.inj y).symm;refine Zsy (x1:=((F.1.1,F.1.2),F.2)) (v:=(.agg #[.bool F.1.1,.slice D F.1.2.length H,.slice T F.2.length C])) (bn.recol 23 22) cg rfl sizeOf42 V rfl rfl (by decide) ?_;intro D F C L;rw [← y] at L;replace E:=E.kpp C;replace E:X4 (Za.row 42 (rO 45)) 29 7 F D cu cv b7 (aA ct) [.slice ge P.length gf]:=by rw [← (show e6.length=P.length by rw [y,nS])];exact E
          refine Zl<|xk F ?_;have y:=E.close L.has (by decide) (by decide);replace l:=l.kpp C;replace l:=l.recol 21 7;replace m:=m.kpp C;replace m:=m.recol 21 7;replace o:=o.kpp C;replace o:=o.recol 21 7;replace p:=p.kpp C;replace p:=p.recol 21 7;replace X:=X.kpp C;replace X:=X.recol 21 7;replace h5:=h5.kpp C;replace h5:=h5.recol 21 7;replace h:=h.kpp C;replace h:=h.recol 21 7;replace i:=i.kpp C;replace i:=i.recol 21 7;replace j:=j.kpp C;replace j:=j.recol 21 7;replace k:=k.kpp C;replace k:=k.recol 21 7;replace q:=q.kpp C;replace q:=q.recol 21 7;replace h8:=h8.kpp C;replace h8:=h8.recol 21 7;replace f:=f.kpp C;replace f:=f.recol 21 7;replace g:=g.kpp C;replace g:=g.recol 21 7;replace c:=c.kpp C;replace c:=c.recol 21 7 (by decide) (by decide);refine .ld (d:=8) (v:=(.slice cu ((b7.set (aA ct) P).length) cv)) (congrArg (fun G=>Value.slice cu G cv) (show b7.length=(b7.set (aA ct) P).length by simp only [nS])) ?_;refine Y4 ?_;intro _ a;replace a:=a.bl (Xv 21 7 F);refine go ?_;replace l:=l.gr a;replace m:=m.gr a;replace o:=o.gr a;replace p:=p.gr a;replace h:=h.gr a;replace i:=i.gr a;replace j:=j.gr a;replace k:=k.gr a;replace q:=q.gr a;replace f:=f.gr a;replace g:=g.gr a;replace c:=c.grow a;exact ⟨c4,by omega,rfl,⟨_,_,_,_,_,_,rfl,b,c,l,m,o,p,q,X.gr a,h5.gr a,h8.gr a,f,h,i,j,k,g,y.gr a,rfl⟩⟩
         exact ⟨cr,by omega,rfl,⟨_,_,_,_,_,_,rfl,b,c,l,m,o,p,q,f,h,i,j,k,g,di,rfl⟩⟩
       exact ⟨rfl,_,_,_,_,_,b,c,f,h,i,j,k,g,ce,rfl⟩
    refine Zm b (fun n b=>go ?_) fun n b=>go ?_
    ·refine lV (.agg #[.string (⟨#[]⟩),.slice none (([]:List ByteArray).length) 0,.slice none (([]:List R3).length) 0,.slice none (([]:List R2).length) 0,(.slice none (([]:List R4).length) 0)]) (Wo (l:=[_,_,_,_,_]) (qs:=[(0,1),(1,1),(2,1),(3,1),(4,1)]) underlying27 zeroValue27 ⟨rfl,sizeOf9,rfl,sizeOf22,rfl,sizeOf23,rfl,sizeOf24,rfl,sizeOf25,trivial⟩ rfl)<|Z6 g ?_;intro _ ji jj jk;refine go ?_;cases b;replace c:=c.kp ji jj;exact ⟨rfl,_,Vm jk.atN,_,none,0,none,0,none,0,none,0,rfl,c.fin (cm []),Sl.nil,Sl.nil,Sl.nil,Sl.nil⟩
    refine Zt [2,4,8,1000000] (fun G Q m=>∃ jz E l q o c6,c6=G∧Zdp N t cd c6 q o=some r∧St B (Zh col) jz m∧Zd 27 1 jz m bs (Rq t a7 a3 a8 a4 a9 a5 ba a6)∧Zb (Za.row 42 (rO 45)) 29 24 jz m E l q∧Zb Za.str 9 3 jz m bl dk ex∧Zb (Za.row 9 Za.str) 22 4 jz m fo fs gn∧Zb (Za.row 3 rI) 36 5 jz m gr gt gv∧Zb (Za.row 42 (rO 45)) 29 6 jz m s u hu∧Zd 27 2 jz m bt #[.string bc,.slice bl ex.length dk,.slice fo gn.length fs,.slice gr gv.length gt,.slice s hu.length u]∧Zb (Za.row 42 (rO 45)) 29 7 jz m da db cd∧[22,23].map Q=[.slice E q.length l,.int .i64 o]) N ⟨_,none,0,_,0,_,rfl,b,c,f,Zb.nil,h,i,j,k,g,w,rfl⟩ ?_;clear b;intro G Q m S;obtain ⟨jz,E,l,q,o,c6,R,b,c,f,bq,h,i,j,k,g,w,A⟩:=S;subst R;refine .lL [22,23] A ?_
    cases c6 with
    | zero=>rw [Zdp.eq_1] at b;cases b
    | succ c6=>
     rw [Zdp.eq_2] at b;refine go ?_;refine Z9 f ?_;refine go ?_;refine Zm b (fun n b=>go ?_) fun n b=>go ?_
     ·refine Y8 (col:=jz) [(0,1),(1,1),(2,1),(3,1),(4,0),(5,1),(6,0),(7,1),(8,1),(9,0),(10,1),(11,1),(12,0),(13,1),(14,1),(15,0),(16,3),(17,3),(18,2),(19,1)] (by kernel_rfl) (by kernel_rfl)<|xu rfl rfl (fun _=>Vd rfl) ?_;refine xu rfl rfl (fun _=>Vd rfl) ?_;refine xu rfl rfl (fun _=>Yd rfl) ?_;obtain ⟨_,n,b⟩:=bZ b;refine xu rfl rfl (fun _=>X8 underlying25 sizeOf29 rfl rfl (Z0 n).1 (Z0 n).2.1 (w.addr n)) ?_;obtain ⟨_,jl,jm⟩:=w.atN n;obtain ⟨_,_,rfl,ff⟩:=jl.row;refine xW (fun _ a=>jm.one.gr (a.bl jz)) ?_;refine xF ⟨_,_,rfl⟩ ?_;refine xW (fun _ a=>((f.atN).nth (q:=2) rfl).gr (a.bl jz)) ?_;refine xu rfl rfl (fun _=>Yd rfl) ?_;obtain ⟨_,o,b⟩:=bZ b;refine xu rfl rfl (fun _=>X8 underlying23 sizeOf22 rfl rfl (Z0 o).1 (Z0 o).2.1 ((be.ks c).addr o)) ?_;obtain ⟨_,jn,jo⟩:=(be.ks c).atN o;obtain ⟨⟨_,_,rfl,_⟩,_⟩:=jn;refine xW (fun _ a=>jo.one.gr (a.bl jz)) ?_;refine xu rfl rfl (fun _=>Q8 underlying22 rfl) ?_;refine xF ⟨_,_,rfl⟩ ?_;refine xW (fun _ a=>((f.atN).nth (q:=4) rfl).gr (a.bl jz)) ?_;refine xu rfl rfl (fun _=>Yd rfl) ?_;obtain ⟨_,p,b⟩:=bZ b;refine xu rfl rfl (fun _=>X8 underlying25 sizeOf29 rfl rfl (Z0 p).1 (Z0 p).2.1 ((ay.ks c).addr p)) ?_;obtain ⟨_,jp,jq⟩:=(ay.ks c).atN p;obtain ⟨⟨_,_,rfl,fg⟩,_⟩:=jp;refine xW (fun _ a=>jq.one.gr (a.bl jz)) ?_;refine xe rfl rfl ?_;intro s d;have a:=d.bl jz;obtain ⟨B,m,b⟩:=bZ b;refine Zi (Z6q 25 m ((ff.gr a).toSlF (Zg.pair (Zg.pair Zg.bool (Zg.row (Zg.int .u32))) (Zg.row (Zg.int .u32)))) ((fg.gr a).froz 7)) fun _ _ ⟨p,R,S,v,X,A⟩=>⟨_,v,?_⟩;replace A:=A.thaw (Ziw (Ziw Zsm (Qj (Z1 .u32))) (Qj (Z1 .u32))) X ((Fz.refl (col:=jz)).froz 7);replace X:=X.thawR (col:=jz);generalize Xa s.heap.size jz p=s at *;refine Zl<|Xo s d X<|xe rfl rfl ?_;intro _ d;replace bq:=(bq.gr a).gr X;replace h:=(h.gr a).gr X;replace i:=(i.gr a).gr X;replace j:=(j.gr a).gr X;replace k:=(k.gr a).gr X;replace w:=(w.gr a).gr X;replace f:=(f.gr a).gr X;replace g:=(g.gr a).gr X;replace c:=(c.grow a).grow X;have a:=d.bl s
      refine U6 (col:=s) (r:=(Za.row 42 (rO 45))) (xs:=[B]) [.slice R B.length S] 25 (W5.cons1 (cs:=[.slice R B.length S]) (A.gr a).has Rows.nil0) fun _ _ u l A=>Zl<|Xo u d l<|xe rfl rfl ?_;intro q d;replace bq:=(bq.gr a).gr l;replace h:=(h.gr a).gr l;replace i:=(i.gr a).gr l;replace j:=(j.gr a).gr l;replace k:=(k.gr a).gr l;replace w:=(w.gr a).gr l;replace f:=(f.gr a).gr l;replace g:=(g.gr a).gr l;replace c:=(c.grow a).grow l;have a:=d.bl u;obtain ⟨G,b⟩:=Z4 b;replace bq:=bq.gr a;refine Sy (col:=u) (w:=q) (r:=(Za.row 42 (rO 45))) (c:=24) (c2:=25) (bq.ex) ((A.gr a).srcC (by decide)) rfl underlying25 Z71 rfl rfl rfl G.1 G.2 (by decide) fun _ _ _ Q d n=>Zl<|xk Q<|xu rfl rfl (fun _=>Zqn rfl) ?_;have u:=n.new;refine Y4 ?_;replace h:=(h.gr a).kpp d;replace i:=(i.gr a).kpp d;replace j:=(j.gr a).kpp d;replace k:=(k.gr a).kpp d;replace w:=(w.gr a).kpp d;replace f:=(f.gr a).kpp d;replace g:=(g.gr a).kpp d;replace c:=(c.grow a).kpp d;intro _ a;replace a:=a.bl Q;refine go ?_;replace f:=f.gr a;replace g:=g.gr a;replace c:=c.grow a;exact ⟨c6,by omega,rfl,⟨_,_,_,_,_,_,rfl,b,c,f,u.gr a,h.gr a,i.gr a,j.gr a,k.gr a,g,w.gr a,rfl⟩⟩
     refine lV _ (Z5 isAgg27 sizeOf27 f)<|Y3 rfl ?_;replace g:=g.froz 24;replace c:=c.froz 24 (by decide) (by decide);obtain ⟨_,a,b⟩:=bZ b;refine Zi (Z6r a (b8.ks c) (be.ks c) (b9.ks c) (ay.ks c) ((bq).toSlF (Zg.row (Zg.pair (Zg.pair Zg.bool (Zg.row (Zg.int .u32))) (Zg.row (Zg.int .u32)))))) fun _ _ ⟨_,_,_,_,_,_,_,_,_,v,gm,fm,fn,fp,fq⟩=>⟨_,v,?_⟩;refine Z6 (g.gr gm) fun _ dp jx jy=>go ?_;cases b;replace c:=(c.grow gm).kp dp jx;exact ⟨rfl,_,Vm jy.atN,_,_,_,_,_,_,_,_,_,rfl,c.fin (cm []),c.fs (fm.kp dp),c.fs (fn.kp dp),c.fs (fp.kp dp),c.fs (fq.kp dp)⟩
section
variable {N:Nat} {n:Zq} (hf:X2 N n)
include hf
theorem Z12 {w:List Int} (hw:Yk n w) {B:Nat→Nat} (hB:Zad n B) {Q Wl:Nat} (hr:Z3 N (4 * (Q+Wl)+20)) (hlv:∀ x,x<n.2.1.length→(n.2.2.2.1.getD x []).length≤1048576) (hN:1048577<N) (hrv:∀ v,v<n.2.1.length→∀ x ∈ n.2.2.2.2.getD v [],RV Wl x):∀ (m k f:Nat) (q:Rat),k+m=n.2.1.length→m<f→qs q+Vn B m k≤Q→
  Zfd N n w f (Zn q).1.1 (Zn q).1.2 (Zn q).2 (k:Int)=some (Zn (q * Xp n w m k))
 | m,k,0,q,_,h,_=>by omega
 | 0,k,f+1,q,i,_,_=>by
  have c:=hf.le
  rw [Zfd.eq_2,if_neg (dF (by omega)),Xp,dL]
 | m+1,k,f+1,q,i,C,j=>by
  have c:=hf.le
  have a:k<n.2.1.length:=by omega
  obtain ⟨H,I,l⟩:=hf.rows a
  have D:=hw.ok k (by rw [hw.len];exact a)
  have R:=Zt6 hf a (hlv k a) hw N 0 0 1 (aQ _) (by have:=hlv k a;omega) (by omega) (by omega) (by rw [aM];exact l) (by rw [aM];rfl)
  have o:Zkw N (n.1,n.2.1,n.2.2.1,n.2.2.2.1,n.2.2.2.2) (k:Int) w=some ((Wr n w k:Nat):Int):=R
  have b:=Zia hf a hw
  have d:X3 n k w=Wr n w k * cnt n k+(w.getD k 0).toNat:=rfl
  have E:=hf.row hw a
  have p:i64.wrap ((Wr n w k:Int) * ((n.2.2.1.getD k []).length:Int))=((Wr n w k * cnt n k:Nat):Int):=by
   rw [show ((n.2.2.1.getD k []).length:Int)=((cnt n k:Nat):Int) from rfl,← bN]
   exact Zv (by omega)
  have r:i64.wrap (((Wr n w k * cnt n k:Nat):Int)+w.getD k 0)=((X3 n k w:Nat):Int):=by
   rw [d,Int.natCast_add,show (((w.getD k 0).toNat:Nat):Int)=w.getD k 0 by omega]
   exact Zv (by omega)
  have s:=hB k a _ (aB b)
  have e:(w.getD k 0).toNat<cnt n k:=by omega
  have u:ent n w k=Zr ((n.2.2.2.2.getD k []).getD (X3 n k w) ((false,[]),[])):=Z09 (n:=n) (T:=n.2.2.2.2) e
  rw [Vn] at j
  have y:=hrv k a _ (aB b)
  have g:ent n w k=Zr ((n.2.2.2.2.getD k [])[X3 n k w]):=by rw [u,Xl b]
  have A:Zhg N (((Zn q).1.1,(Zn q).1.2),(Zn q).2) (((n.2.2.2.2.getD k [])[X3 n k w].1.1,(n.2.2.2.2.getD k [])[X3 n k w].1.2),(n.2.2.2.2.getD k [])[X3 n k w].2)=some (Zn (q * ent n w k)):=by
   have:=Z1e (N:=N) (Zle q) y (hr.mono (by omega))
   rw [Y5] at this
   rw [g];exact this
  have F:=Znp q (ent n w k)
  have G:qs (ent n w k)≤B k:=by rw [g];exact s
  rw [Zfd.eq_2,if_pos (dT (by omega)),Yo [] (by rw [hf.ev.t];exact a),oB,Yo [] (by rw [hf.ev.v];exact a),oB,Yo 0 (by rw [hw.len];exact a),oB,o,oB,p,r,Zs b,oB,A,oB,wS (by omega),Xp,← bP]
  exact Z12 hw hB hr hlv hN hrv m (k+1) f (q * ent n w k) (by omega) (by omega) (by omega)
end
def Sr:Zq:=(⟨#[]⟩,[],[],[],[])
theorem Z3t:∀ (c:List Int) (i p:Nat),(∀ x ∈ c,0≤x)→Xq (c.set i (c.getD i 0+(p:Int)))≤Xq c+p
 | [],i,p,_=>by rw [List.set_nil,Xq];omega
 | x :: c,0,p,h=>by
  have b:=h x aO
  rw [eA,List.getD_cons_zero,Xq,Xq];omega
 | x :: c,i+1,p,h=>by
  have d:=Z3t c i p fun y a=>h y (aN _ a)
  rw [jL,List.getD_cons_succ,Xq,Xq];omega
theorem Xan {n:Zq} {v:Nat} {c:List Int} {p:Nat×List Int} (h:∀ x ∈ c,0≤x):∀ x ∈ V7 n v c p,0≤x:=fun x b=>by
 rw [V7] at b
 rcases eK b with d | rfl
 ·exact h x d
 ·have:0≤c.getD (X3 n v p.2) 0:=by
   rcases bU (X3 n v p.2) c.length with a | a
   ·rw [Xl a];exact h _ (aB a)
   ·rw [aE,List.getElem?_eq_none a];exact Int.le_refl 0
  omega
theorem Zxh (n:Zq) (v:Nat):∀ (L:List R7) (c:List Int),(∀ x ∈ c,0≤x)→Xq (L.foldl (V7 n v) c)≤Xq c+Yp L
 | [],c,_=>aX _
 | p :: L,c,h=>by
  have a:=Zxh n v L (V7 n v c p) (Xan h)
  have b:=Z3t c (X3 n v p.2) p.1 h
  rw [eP,Yp]
  rw [V7] at a
  rw [V7];omega
theorem Z7k (n:Zq) (v:Nat) (L:List R7):Xq (Wj n v L)≤Yp L:=by
 have:=Zxh n v L (aD (n.2.2.2.2.getD v []).length 0) fun x a=>by rw [cR a];decide
 rw [Z3r,cC] at this
 exact this
theorem Z3u (l:List Int) (i:Nat):Xq (l.take i)≤Xq l:=by
 have:=Znx (l.take i) (l.drop i)
 rw [cT] at this;omega
theorem Xch (l:List Int) (i:Nat):Xq (l.drop i)≤Xq l:=by
 have:=Znx (l.take i) (l.drop i)
 rw [cT] at this;omega
theorem Vg.pb {n:Zq} {D G:Nat} (hD:D≠0) {L:List R7} {E:List (List QV)} (h:Vg n D G L E) {v:Nat} (hv:v<n.2.1.length) (hG1:(Zf (Yp L)).length≤G) (hG2:(Zf D).length≤G) (d k:Nat):PB G (((E.getD v []).drop d).take k):=fun i _=>by
 have c:=h.map hv
 have a:((((E.getD v []).drop d).take k).take i).map Zr=((((Wj n v L).drop d).take k).take i).map fun x:Int=>(x:Rat) / (D:Rat):=by
  rw [eL,eL,fN,c,eL,eL,fN]
 have b:∀ x ∈ (((Wj n v L).drop d).take k).take i,0≤x:=fun x f=>Zlv n v L x (cI (cL (cL f)))
 rw [Zql,a,Zuk _ _ b]
 have g:=Z3u (((Wj n v L).drop d).take k) i
 have j:=Z3u ((Wj n v L).drop d) k
 have m:=Xch (Wj n v L) d
 have o:=Z7k n v L
 generalize Xq ((((Wj n v L).drop d).take k).take i)=z at *
 have e:((z:Nat):Rat) / (D:Rat)=mkRat (z:Int) D:=by rw [cM];rfl
 rw [e]
 exact Zfs (by rw [eH];exact aT (Y7 (by omega)) hG1) hG2 (aT (U8 hD) hG2)
section
variable {N:Nat} {n:Zq} (hf:X2 N n) {D G:Nat} (hD:D≠0) (hv20:∀ l ∈ n.2.2.1,l.length≤1048576) (hN:2000000<N)
include hf hD hv20 hN
theorem Z2h (hr:Z3 N (8 * G+64)) {L:List R7} {E:List (List QV)} (hE:Vg n D G L E) (hG1:(Zf (Yp L)).length≤G) (hG2:(Zf D).length≤G):∀ (f v:Nat) (A:List (List QV)),v≤n.2.1.length→n.2.1.length<f+v→A=(Ud n L).take v→
  Zgs N n E f (v:Int) n.1 n.2.1 n.2.2.1 n.2.2.2.1 (A++((n.2.2.2.2.map (fX Yy)).drop v))=some (Zie n (Ud n L),0)
 | 0,v,A,F,H,_=>by omega
 | f+1,v,A,F,H,d=>by
  have O:=hf.le
  have P:=hf.ev.v;have T:=hf.ev.t
  have U:(Ud n L).length=n.2.1.length:=by rw [Ud,aH,dR]
  have a:A.length=v:=by rw [d,nK];omega
  rw [Zgs.eq_2]
  by_cases hv:v<n.2.1.length
  ·have b:v<n.2.2.1.length:=by omega
   have i:v<n.2.2.2.2.length:=by omega
   obtain ⟨m,X,I⟩:=hf.rows hv
   have o:=Zae hf.ev hv
   have J:=Zox hf.ev hv20 hv
   have V:(A++(n.2.2.2.2.map (fX Yy)).drop v).length=n.2.1.length:=by
    rw [nA,bH,aH];omega
   have e:(A++(n.2.2.2.2.map (fX Yy)).drop v)[v]'(by omega)=(n.2.2.2.2.getD v []).map Yy:=by
    rw [List.getElem_append_right (by omega)]
    simp only [a,eX,List.getElem_drop,bR,cA,Xl i]
   have c:=hE.sz v hv
   have p:=Z9j (N:=N) (B:=G) hr (k:=cnt n v) (q:=E.getD v []) o (fun x M=>hE.rv v hv x M) (by rw [c];omega) (fun j=>hE.pb hD hv hG1 hG2 _ _) (R:=U1 n v) (t:=(n.2.2.2.2.getD v []).map Yy) (by rw [aH];exact m.symm) (by rw [c];exact m.symm) (by omega) (by have:U1 n v≤65536:=I;omega)
   have s:(n.2.2.1[v].length:Int)=(cnt n v:Int):=by rw [cnt,Xl b]
   have u:=Zud (k:=cnt n v) hD (U1 n v) ((n.2.2.2.2.getD v []).map Yy) (E.getD v []) (Wj n v L) (Zlv n v L) (hE.map hv)
   rw [u] at p
   have g:(A++(n.2.2.2.2.map (fX Yy)).drop v).set v (Wv (cnt n v) (U1 n v) ((n.2.2.2.2.getD v []).map Yy) (Ua 0 (Wj n v L)))=(A++[Wv (cnt n v) (U1 n v) ((n.2.2.2.2.getD v []).map Yy) (Ua 0 (Wj n v L))])++(n.2.2.2.2.map (fX Yy)).drop (v+1):=by
    rw [eE _ _ (by omega),a,eX,aF (by rw [aH];omega),eA,bC,gK]
   have y:(Ud n L).take (v+1)=A++[Wv (cnt n v) (U1 n v) ((n.2.2.2.2.getD v []).map Yy) (Ua 0 (Wj n v L))]:=by
    rw [cO,aL (by omega),bX,← d,← Zui hv,Xl (by omega)]
   rw [if_pos (dT (by omega)),Zs (by omega),e,oB,Yo [] (by rw [hE.len];exact hv),oB,Zs b,oB,s,p,oB,wS (by omega),aC,g]
   exact Z2h hr hE hG1 hG2 f (v+1) _ (by omega) (by omega) y.symm
  ·rw [if_neg (dF (by omega)),dB (by rw [aH];omega),cV,d,bA (by omega)];rfl
end
section
variable {N W K:Nat} {n:Zq} (hf:X2 N n) (hs:W8 n W) (hr:Z3 N (8 * K+40)) (hWK:1025 * (W+2)+4≤K) (hN:2000000<N) (hC:Vx N n=some 0)
variable {Q C S:Nat} {B:Nat→Nat} (hch:∀ w,Yk n w→Zan N n w=some (Zn (Ti n w n.2.1.length 0 1),0)) (hB:Zad n B) (hQ:Vn B n.2.1.length 0+1≤Q) (hC6:C≤65536) (hS:C * (Q+2048)≤S) (hrS:Z3 N (26 * S+60)) (hv20:∀ l ∈ n.2.2.1,l.length≤1048576)
variable {r:List R2} (hw:Ul n r=true) (ho:∀ w ∈ r,Xh n w n.2.1.length 0≤C) (hl:r.length≤12)
variable {G:Nat} (hrG:Z3 N (4 * (G+Q+(1+12 * S))+60)) (hrC:Z3 N (8 * G+64))
include hf hs hr hWK hN hC hch hB hQ hC6 hS hrS hv20 hw ho hl hrG hrC
omit hs hr hWK hC hch hS hrS hw ho hl hrG hrC hv20 hC6 hN in
theorem Zth:∀ w,Yk n w→qs (Xp n w n.2.1.length 0)≤Q:=fun w hw=>by
 have:=Ztf hf hB hw n.2.1.length 0 1 (by omega)
 rw [Zqi,Rat.one_mul,Zft] at this
 omega
theorem Xb9 (hpos:∀ w ∈ r,0<Zz n (Xf n n.2.1.length 0 w)) (hne:Wx n r≠0) {D:Nat} (hD:D≠0) (hM:(Zf (12 * D)).length≤G)
  (hI:∀ w ∈ r,∀ x ∈ Xf n n.2.1.length 0 w,∃ z:Nat,(D:Rat) * Xp n x n.2.1.length 0 / Zz n (Xf n n.2.1.length 0 w)=(z:Rat)):
  Sg N n r=some (Zie n (Ud n (Qf D n r)),0):=by
 have a2:=hf.le
 have H:=Zq3 hw
 have d:=Zth hf hB hQ
 have k:Vx N (n.1,n.2.1,n.2.2.1,n.2.2.2.1,n.2.2.2.2)=some 0:=hC
 have I:Qu N (n.1,n.2.1,n.2.2.1,n.2.2.2.1,n.2.2.2.2) r=some 0:=by
  rw [Qu,k,oB,if_neg (by decide)]
  have:=Zl1 (n:=n) hf.ev.v r
  rw [if_pos hw] at this
  exact this
 obtain ⟨J,O⟩:=Zst hf hN hC hch d hC6 hS hrS hw ho hl
 have m:Zaj N (n.1,n.2.1,n.2.2.1,n.2.2.2.1,n.2.2.2.2) r=some (Zn (Wx n r),0):=J
 have P:Qp N (((Zn (Wx n r)).1.1,(Zn (Wx n r)).1.2),(Zn (Wx n r)).2)=some (Tz (Wx n r)):=by
  have:=Zly (N:=N) (W7 O) (hrS.mono (by omega))
  rwa [Y5] at this
 have R:Zjh N (n.1,n.2.1,n.2.2.1,n.2.2.2.1,n.2.2.2.2)=some (Wk n):=Z9a hf hs hr hWK hN
 obtain ⟨E0,T,U,V⟩:=Z2g hf r (Wk n) n.2.1.length 0 N (aD n.2.1.length []) (by omega) (by omega) (aS ..) fun i hi=>by omega
 have o:Vg n D G [] E0:=Vg.none U V
 have X:∀ (l:List R2) (E:List (List QV)) (L:List R7),(∀ w ∈ l,w ∈ r)→Vg n D G L E→Yp L+l.length * D≤12 * D→
   Zcr N n (Wk n) l E=some (Zie n (Ud n (L++Qf D n l)),0):=by
  intro l
  induction l with
  | nil=>
   intro E L _ j _
   rw [Zcr.eq_1,Qf,jT,cV]
   have:=Z2h hf hD hv20 hN hrC j (aT (Y7 (by omega)) hM) (aT (Y7 (by omega)) hM) N 0 [] (aQ _) (by omega) (by rw [eI])
   rw [bF,aM] at this
   exact this
  | cons w l Y=>
   intro E L b j p
   rw [nC,bB,aV] at p
   have a:=b w aO
   have q:=H w a
   have s:=hpos w a
   have f:=ho w a
   have t:Ul n [w]=true:=by
    have:=List.all_eq_true.1 hw w a
    rw [Ul,cN,List.all_nil,this];rfl
   obtain ⟨u,y⟩:=Zst hf hN hC hch d hC6 hS hrS t (fun x c=>by rw [List.mem_singleton] at c;rw [c];exact f) (by rw [aK];omega)
   have Z:Wx n [w]=Zz n (Xf n n.2.1.length 0 w):=by rw [Wx,Wx,dL]
   rw [Z] at u y
   have A:Zaj N (n.1,n.2.1,n.2.2.1,n.2.2.2.1,n.2.2.2.2) [w]=_:=u
   obtain ⟨E',f1,f2⟩:=Z7w hf hD hrG hN hB hQ q (aT f hC6) s y (M:=12 * D) hM (aT (Y7 (by omega)) hM) (hI w a) j (by omega)
   have F:Zji N (n.1,n.2.1,n.2.2.1,n.2.2.2.1,n.2.2.2.2) w (n.1,n.2.1,n.2.2.1,n.2.2.2.1,n.2.2.2.2) ((Wk n).1,(Wk n).2.1,(Wk n).2.2.1,(Wk n).2.2.2.1,(Wk n).2.2.2.2) (((Zn (Zz n (Xf n n.2.1.length 0 w))).1.1,(Zn (Zz n (Xf n n.2.1.length 0 w))).1.2),(Zn (Zz n (Xf n n.2.1.length 0 w))).2) E=some E':=f1
   have g:=Y E' (L++Vo D n (Xf n n.2.1.length 0 w)) (fun x c=>b x (aN _ c)) f2 (by rw [Zij,Zuu s (hI w a)];omega)
   rw [bC] at g
   rw [Zcr.eq_2,A,oB]
   dsimp only
   rw [F,oB,Qf,eG]
   exact g
 have fin:=X r E0 [] (fun w h=>h) o (by rw [Yp,cC];exact bD _ hl)
 rw [bF] at fin
 rw [Sg,I,oB,if_neg (by decide),m,oB]
 dsimp only
 rw [if_neg (by rw [decide_eq_true rfl];decide),P,oB,if_neg (by rw [decide_eq_false fun e=>hne (Zb9.1 e)];decide),R,oB,Z7 (by simp only [maxLen];omega)]
 exact T.trans fin
omit hs hr hWK hv20 hrG hrC in
theorem Xca (hne:Wx n r=0):Sg N n r=some (Sr,52):=by
 have a:=Zth hf hB hQ
 have b:Vx N (n.1,n.2.1,n.2.2.1,n.2.2.2.1,n.2.2.2.2)=some 0:=hC
 have d:Qu N (n.1,n.2.1,n.2.2.1,n.2.2.2.1,n.2.2.2.2) r=some 0:=by
  rw [Qu,b,oB,if_neg (by decide)]
  have:=Zl1 (n:=n) hf.ev.v r
  rw [if_pos hw] at this
  exact this
 obtain ⟨e,f⟩:=Zst hf hN hC hch a hC6 hS hrS hw ho hl
 have c:Zaj N (n.1,n.2.1,n.2.2.1,n.2.2.2.1,n.2.2.2.2) r=some (Zn (Wx n r),0):=e
 have g:Qp N (((Zn (Wx n r)).1.1,(Zn (Wx n r)).1.2),(Zn (Wx n r)).2)=some (Tz (Wx n r)):=by
  have:=Zly (N:=N) (W7 f) (hrS.mono (by omega))
  rwa [Y5] at this
 rw [Sg,d,oB,if_neg (by decide),c,oB]
 dsimp only
 rw [if_neg (by rw [decide_eq_true rfl];decide),g,oB,if_pos (dT (Zb9.2 hne))]
 rfl
end
/-! the probability of an assignment -/
/-! products over some variables -/
/-! it may be -/
theorem Z3s:∀ (q:List Int) (x:Nat) (c:Int) (a:Nat),q[x]?=some c→0≤c→Xq (q.set x (c+(a:Int)))=Xq q+a
 | [],x,c,a,h,_=>by simp at h
 | y :: q,0,c,a,h,b=>by
  simp only [List.getElem?_cons_zero,Option.some.injEq] at h
  subst h
  rw [eA,Xq,Xq];omega
 | y :: q,x+1,c,a,h,b=>by
  rw [jL,Xq,Xq,Z3s q x c a (by simpa using h) b,Nat.add_assoc]
theorem Xcj (m:Nat):Xq (aD m 0)=0:=Z3r m
theorem Zxg (n:Zq) (v:Nat):∀ (L:List R7) (c:List Int),(∀ x ∈ c,0≤x)→Xq (L.foldl (V7 n v) c)≤Xq c+Yp L
 | [],c,_=>by rw [kE,Yp];omega
 | p :: L,c,h=>by
  have b:∀ x ∈ V7 n v c p,0≤x:=fun x d=>Zsq n v [p] c h x d
  have e:=Zxg n v L (V7 n v c p) b
  have:Xq (V7 n v c p)≤Xq c+p.1:=by
   rw [V7]
   rcases bU (X3 n v p.2) c.length with a | a
   ·rw [Xl a,Z3s c _ _ p.1 (aL a) (h _ (aB a))];exact aX _
   ·rw [iP a];omega
  rw [eP,Yp];omega
theorem Z7j (n:Zq) (v:Nat) (L:List R7):Xq (Wj n v L)≤Yp L:=by
 have:=Zxg n v L (aD (n.2.2.2.2.getD v []).length 0) fun x a=>by rw [cR a];exact Int.le_refl _
 rw [Xcj,cC] at this
 exact this
theorem Xck (k:Nat) (l:List Int):Xq (l.take k)≤Xq l:=by
 have:=Znx (l.take k) (l.drop k)
 rw [cT] at this;omega
theorem Xcg (k:Nat) (l:List Int):Xq (l.drop k)≤Xq l:=by
 have:=Znx (l.take k) (l.drop k)
 rw [cT] at this;omega
theorem Xbp {b:Nat} {l:List Int} (hl:∀ x ∈ l,0≤x) (h1:Xq l≠0) (h2:(Zf (Xq l)).length≤b):(∀ x ∈ Zdt ((Xq l:Nat):Int) l,0≤Zr x∧Zr x≤1∧RV b x)∧Xj (Zdt ((Xq l:Nat):Int) l)=1:=by
 constructor
 ·intro x f
  obtain ⟨w,a,rfl⟩:=cY.1 f
  have g:=hl w a
  have c:=Z3q a
  obtain ⟨d,rfl⟩:∃ d:Nat,w=(d:Int):=⟨w.toNat,by omega⟩
  rw [aC] at c
  have e:(((d:Int):Rat) / (((Xq l:Nat):Int):Rat))=mkRat (d:Int) (Xq l):=(cM _ _).symm
  rw [e,Y5]
  have i:=Y7 c
  refine ⟨?_,?_,W7 (Zfs (by rw [eH];omega) h2 (aT (U8 h1) h2))⟩
  ·rw [← Rat.not_lt,show (0:Rat)=mkRat 0 1 from rfl,Zh6 h1 (by decide)];omega
  ·rw [← Rat.not_lt,show (1:Rat)=mkRat 1 1 from rfl,Zh6 (by decide) h1];omega
 ·rw [Z1z _ l hl,bQ]
  exact cW _ (Zh7 h1)
theorem Z3l {b k:Nat}:∀ (m:Nat) (t:List QV) (c:List Int),t.length=m * k→c.length=m * k→(∀ x ∈ c,0≤x)→(Zf (Xq c)).length≤b→(∀ x ∈ t,0≤Zr x∧Zr x≤1∧RV b (Yy x))→(∀ j,j<m→Xj ((t.drop (j * k)).take k)=1)→Zf4 b k m (Wv k m (t.map Yy) (Ua 0 c))
 | 0,t,c,d,_,_,_,_,_=>by
  rw [dP] at d
  rw [Wv,List.length_eq_zero_iff.1 d]
  exact ⟨by rw [dP];rfl,fun x a=>(by cases a),fun j p=>(by omega)⟩
 | m+1,t,c,d,q,f,w,g,hs=>by
  rw [bB,aV] at d q
  have i:(c.take k).length=k:=by rw [nK];omega
  have e:∀ x ∈ c.take k,0≤x:=fun x a=>f x (cL a)
  have l:=hs 0 (by omega)
  rw [dP,aM] at l
  have A:=Y7 (Xck k c)
  have B:=Y7 (Xcg k c)
  have o:=Z3l (b:=b) (k:=k) m (t.drop k) (c.drop k) (by rw [bH];omega) (by rw [bH];omega) (fun x a=>f x (cI a)) (by omega) (fun x a=>g x (cI a)) fun j p=>by
   have:=hs (j+1) (by omega)
   rw [show (j+1) * k=k+j * k by rw [bB,aV,Nat.add_comm],← dK] at this
   exact this
  rw [Wv,Zzd,Zzc,Z2z e,← eL,← fN]
  by_cases h:Xq (c.take k)=0
  ·rw [if_pos h]
   refine Zf4.cons (fun x a=>?_) (by rw [Z0a];exact l) (by rw [aH,nK];omega) o
   obtain ⟨y,r,rfl⟩:=cY.1 a
   have:=g y (cL r)
   rw [Zwg];exact this
  ·obtain ⟨s,u⟩:=Xbp (b:=b) e h (by omega)
   rw [if_neg h]
   exact Zf4.cons s u (by rw [Zdt,aH,i]) o
section
variable {N W:Nat} {n:Zq} (hf:X2 N n) (hs:W8 n W) {L:List R7} {G:Nat} (hG:(Zf (Yp L)).length≤G) (hqG:∀ v,v<n.2.1.length→X6 (n.2.2.2.2.getD v [])+1≤G)
include hf hs hG hqG
theorem Xcb {v:Nat} (hv:v<n.2.1.length):Zf4 G (cnt n v) (U1 n v) ((Ud n L).getD v []):=by
 obtain ⟨a,e,f⟩:=hf.rows hv
 rw [Zui hv]
 refine Z3l _ _ _ a.symm (by rw [Zow];exact a.symm) (Zlv n v L) (aT (Y7 (Z7j n v L)) hG) (fun x b=>?_) ((Xco hf).row v hv)
 have c:=hf.ent hv x b
 have d:=Zwz hf hs hv x b
 exact ⟨c.1,c.2,W7 (aT d (hqG v hv))⟩
end
/-! it is not less likely -/
section
variable {N:Nat} {n:Zq} (hf:X2 N n)
include hf
theorem Xak {w:List Int} (hw:Yk n w):0≤Xp n w n.2.1.length 0:=(Zte hf hw n.2.1.length 0 (by omega)).2
theorem Zuj:∀ C:List R2,(∀ w ∈ C,Yk n w)→0≤Zz n C
 | [],_=>by rw [Zz,dD,Vv];exact Rat.le_refl
 | w :: C,h=>by
  have a:=Zuj C fun x b=>h x (aN _ b)
  rw [Zz,bJ,Vv]
  exact Rat.add_nonneg (Xak hf (h w aO)) a
omit hf in
theorem Zsg {w:List Int} (hw:PV n w):∀ x ∈ Xf n n.2.1.length 0 w,Yk n x:=Zit n.2.1.length 0 w hw (by omega) fun i a=>by omega
variable {D:Nat} (hD:D≠0)
include hD
end
theorem Xbx {α:Type} {l:List α} {i:Nat} (h:i<l.length) (d:α):l.set i (l.getD i d)=l:=by
 rw [Xl h];exact List.set_getElem_self h
section
variable {N:Nat} {n:Zq} (hf:X2 N n) (hr0:Z3 N 8) (hv20:∀ l ∈ n.2.2.1,l.length≤1048576) (hN:2000000<N)
include hf hr0 hv20 hN
/-! nothing yet -/
omit hv20 hN in
theorem Z3g {v:Nat} (hv:v<n.2.1.length) (kk:List (List QV)→Int→Option (Zq×Int)):∀ (f i:Nat) (E:List (List QV)),i≤(n.2.2.2.2.getD v []).length→(n.2.2.2.2.getD v []).length<f+i→E.length=n.2.1.length→E.getD v []=aD i (Zn 0)→
  Zhz N n (v:Int) kk f (i:Int) E=kk (E.set v (aD (n.2.2.2.2.getD v []).length (Zn 0))) ((v+1:Nat):Int)
 | 0,i,E,d,g,_,_=>by omega
 | f+1,i,E,d,g,j,b=>by
  have m:=hf.le
  obtain ⟨o,p,q⟩:=hf.rows hv
  have a:v<E.length:=by omega
  rw [Zhz.eq_2,Yo [] (by rw [hf.ev.t];exact hv),oB]
  by_cases hi:i<(n.2.2.2.2.getD v []).length
  ·have e:((((Zn 0).1.1,(Zn 0).1.2),(Zn 0).2):QV)=Zn 0:=rfl
   have c:=Z3g hv kk f (i+1) (E.set v (aD (i+1) (Zn 0))) (by omega) (by omega) (by rw [nS];exact j) (by rw [Wc _ _ _ _ _ a,if_pos rfl])
   rw [List.set_set] at c
   rw [if_pos (dT (by omega)),Yo [] a,oB,Zue hr0,oB,e,b,Z7 (by simp only [aS,aK,maxLen];omega),wS (by omega),aC,← gL]
   exact c
  ·have k:i=(n.2.2.2.2.getD v []).length:=by omega
   rw [if_neg (dF (by omega)),wS (by omega),← k,← b,Xbx a]
omit hv20 in
theorem Z3f (r:List R2):∀ (m v f:Nat) (E:List (List QV)),v+m=n.2.1.length→m<f→E.length=n.2.1.length→(∀ i,i<v→E.getD i []=aD (n.2.2.2.2.getD i []).length (Zn 0))→(∀ i,v≤i→i<n.2.1.length→E.getD i []=[])→
  ∃ E',Za3 N n r f E (v:Int)=Tu N n r N false 0 E'∧E'.length=n.2.1.length∧∀ i,i<n.2.1.length→E'.getD i []=aD (n.2.2.2.2.getD i []).length (Zn 0)
 | m,v,0,E,_,h,_,_,_=>by omega
 | 0,v,f+1,E,k,_,c,g,_=>by
  have j:=hf.le
  rw [Za3.eq_2,if_neg (dF (by omega))]
  exact ⟨E,rfl,c,fun i o=>g i (by omega)⟩
 | m+1,v,f+1,E,k,w,c,g,d=>by
  have j:=hf.le
  have b:v<n.2.1.length:=by omega
  have e:v<E.length:=by omega
  obtain ⟨x,y,A⟩:=hf.rows b
  obtain ⟨E',p,q,s⟩:=Z3f r m (v+1) f (E.set v (aD (n.2.2.2.2.getD v []).length (Zn 0))) (by omega) (by omega) (by rw [nS];exact c) (fun i o=>by
   rw [Wc _ _ _ _ _ e]
   split
   ·rename_i h;rw [h]
   ·exact g i (by omega)) fun i B t=>by
   rw [Wc _ _ _ _ _ e,if_neg (by omega)];exact d i (by omega) t
  refine ⟨E',?_,q,s⟩
  have u:=Z3g hf hr0 b (Za3 N n r f) N 0 E (aQ _) (by omega) c (by rw [d v (aX _) b];rfl)
  rw [Za3.eq_2,if_pos (dT (by omega))]
  exact u.trans p
/-! a share -/
variable {D G:Nat} (hD:D≠0) (hG2:(Zf D).length≤G) (hrG:Z3 N (8 * G+64))
include hrG
omit hr0 hv20 in
theorem Z3j (hps:∀ v,v<n.2.1.length→(n.2.2.2.1.getD v []).length≤1048576) {C:List R2} {k:Nat} (hk:k<C.length) (hkb:k≤1048576) (hx:Yk n C[k]) {q:Rat} (hq:qs q≤G) (e0:Int) (kk:Int→List (List QV)→Option (Zq×Int)):∀ (m v f:Nat) (E:List (List QV)),v+m=n.2.1.length→m<f→E.length=n.2.1.length→(∀ v,v<n.2.1.length→(E.getD v []).length=(n.2.2.2.2.getD v []).length)→(∀ j,v≤j→j<n.2.1.length→∀ y ∈ E.getD j [],RV G y)→
  ∃ E',Zfj N n C (k:Int) kk (Zn q,e0) f (v:Int) E=kk ((k+1:Nat):Int) E'∧E'.length=n.2.1.length∧(∀ j,j<v→E'.getD j []=E.getD j [])∧∀ j,v≤j→j<n.2.1.length→E'.getD j []=(E.getD j []).set (X3 n j C[k]) (Zn (Zr ((E.getD j []).getD (X3 n j C[k]) ((false,[]),[]))+q))
 | m,v,0,E,_,h,_,_,_=>by omega
 | 0,v,f+1,E,u,_,d,_,_=>by
  have o:=hf.le
  rw [Zfj.eq_2,if_neg (dF (by omega)),wS (by omega)]
  exact ⟨E,rfl,d,fun _ _=>rfl,fun j w p=>by omega⟩
 | m+1,v,f+1,E,u,I,d,e,r=>by
  have o:=hf.le
  have b:v<n.2.1.length:=by omega
  have a:v<E.length:=by omega
  have g:X3 n v C[k]<(E.getD v []).length:=by rw [e v b];exact Zia hf b hx
  have c:=r v (aX _) b _ (aB g)
  have x:Zk4 N (n.1,n.2.1,n.2.2.1,n.2.2.2.1,n.2.2.2.2) (v:Int) C[k]=some ((X3 n v C[k]:Nat):Int):=Xbr hf b (hps v b) hx (by omega)
  have A:Ze5 N (((E.getD v [])[X3 n v C[k]].1.1,(E.getD v [])[X3 n v C[k]].1.2),(E.getD v [])[X3 n v C[k]].2) (((Zn q).1.1,(Zn q).1.2),(Zn q).2)=some (Zn (Zr (E.getD v [])[X3 n v C[k]]+q)):=by
   have:=Zt1 (N:=N) c (W7 hq) (hrG.mono (by omega))
   rwa [Y5] at this
  obtain ⟨E',B,F,s,H⟩:=Z3j hps hk hkb hx hq e0 kk m (v+1) f (E.set v ((E.getD v []).set (X3 n v C[k]) (Zn (Zr (E.getD v [])[X3 n v C[k]]+q)))) (by omega) (by omega) (by rw [nS];exact d) (fun j i=>by
    rw [Wc E [] v j _ a]
    split
    ·rename_i h;subst h;rw [nS];exact e j i
    ·exact e j i) (fun j J t y c=>by
    rw [Wc E [] v j _ a,if_neg (by omega)] at c
    exact r j (by omega) t y c)
  refine ⟨E',?_,F,fun j i=>?_,fun j w p=>?_⟩
  ·rw [Zfj.eq_2,if_pos (dT (by omega)),Zs hk,oB,x,oB,Yo [] a,oB,Zs g,oB,A,oB,oB,aC,aC,wS (by omega)]
   exact B
  ·rw [s j (by omega),Wc E [] v j _ a,if_neg (by omega)]
  ·by_cases e2:j=v
   ·subst e2
    rw [s j (by omega),Wc E [] j j _ a,if_pos rfl,Xl g]
   ·rw [H j (by omega) p,Wc E [] v j _ a,if_neg e2]
include hD hG2
omit hr0 hv20 in
theorem Z3i (hps:∀ v,v<n.2.1.length→(n.2.2.2.1.getD v []).length≤1048576) {C:List R2} (hC:∀ x ∈ C,Yk n x) (hCl:C.length≤65536) {Q:Nat} (hQ:∀ x,Yk n x→qs (Xp n x n.2.1.length 0)≤Q) {S:Nat} (hS:qs (Zz n C)≤S) (hrS:Z3 N (2 * (Q+S)+20)) (hp:0<Zz n C) (hI:∀ x ∈ C,(aW D n (Zz n C) x:Rat) * Zz n C=(D:Rat) * Xp n x n.2.1.length 0)
  (nev:Bool) (i:Int) (kk:Bool→Int→List (List QV)→Option (Zq×Int)) {L:List R7} (hM:(Zf (Yp L+Yp (Vo D n C))).length≤G):∀ (m k f:Nat) (E:List (List QV)),k+m=C.length→m<f→Vg n D G (L++(Vo D n C).take k) E→
  ∃ E',Za4 N n nev i kk C (C.map fun x=>Zn (Xp n x n.2.1.length 0)) (Zn (Zz n C)) f (k:Int) E=Zfi i kk nev E'∧Vg n D G (L++Vo D n C) E'
 | m,k,0,E,_,h,_=>by omega
 | 0,k,f+1,E,F,_,a=>by
  have r:(Vo D n C).length=C.length:=by rw [Vo,aH]
  rw [bA (by omega)] at a
  rw [Za4.eq_2,if_neg (dF (by omega))]
  exact ⟨E,rfl,a⟩
 | m+1,k,f+1,E,F,W,a=>by
  have b:k<C.length:=by omega
  have X:=hf.le
  have q:=hC _ (aB b)
  have r:(Vo D n C).length=C.length:=by rw [Vo,aH]
  have s:k<(Vo D n C).length:=by omega
  have H:(Vo D n C)[k]=(aW D n (Zz n C) C[k],C[k]):=by simp only [Vo,cA]
  have c:Zz n C≠0:=fun e=>by rw [e] at hp;exact absurd hp cZ
  have t:=Zh7 hD
  have u:=hI _ (aB b)
  have d:Xp n C[k] n.2.1.length 0 / Zz n C=(aW D n (Zz n C) C[k]:Rat) / (D:Rat):=by
   have I:Xp n C[k] n.2.1.length 0 * (D:Rat)=(aW D n (Zz n C) C[k]:Rat) * Zz n C:=by rw [u,jJ]
   have J:Xp n C[k] n.2.1.length 0=(aW D n (Zz n C) C[k]:Rat) * Zz n C / (D:Rat):=by
    rw [← I,bQ,bP,cW _ t,dL]
   rw [J,bQ,bQ,bQ,bP _ (Zz n C),jJ (Zz n C),← bP,bP _ (Zz n C),cW _ c,dL]
  have g:(Vo D n C).take (k+1)=(Vo D n C).take k++[(aW D n (Zz n C) C[k],C[k])]:=by rw [cO,aL s,bX,H]
  have w:Yp ((Vo D n C).take (k+1))≤Yp (Vo D n C):=by
   have:=Zij ((Vo D n C).take (k+1)) ((Vo D n C).drop (k+1))
   rw [cT] at this;omega
  rw [g,Zij,Yp,Yp,bR] at w
  have o:(Zf (Yp (L++(Vo D n C).take k)+aW D n (Zz n C) C[k])).length≤G:=aT (Y7 (by rw [Zij];omega)) hM
  have y:qs (Xp n C[k] n.2.1.length 0 / Zz n C)≤G:=by
   have e:(aW D n (Zz n C) C[k]:Rat) / (D:Rat)=mkRat ((aW D n (Zz n C) C[k]:Nat):Int) D:=by rw [cM];rfl
   rw [d,e]
   exact Zfs (by rw [eH];exact aT (Y7 (by omega)) o) hG2 (aT (U8 hD) hG2)
  have A:Zk (C.map fun x=>Zn (Xp n x n.2.1.length 0)) (k:Int)=some (Zn (Xp n C[k] n.2.1.length 0)):=by
   rw [Zs (by rw [aH];exact b),cA]
  have K:Ze6 N (((Zn (Xp n C[k] n.2.1.length 0)).1.1,(Zn (Xp n C[k] n.2.1.length 0)).1.2),(Zn (Xp n C[k] n.2.1.length 0)).2) (((Zn (Zz n C)).1.1,(Zn (Zz n C)).1.2),(Zn (Zz n C)).2)=some (Zn (Xp n C[k] n.2.1.length 0 / Zz n C),0):=by
   have:=Z1d (N:=N) (W7 (hQ _ q)) (W7 hS) (hrS.mono (by omega))
   rwa [Y5,Y5,if_neg c] at this
  obtain ⟨E1,M,O,_,P⟩:=Z3j hf hN hrG hps b (by omega) q y 0 (Za4 N n nev i kk C (C.map fun x=>Zn (Xp n x n.2.1.length 0)) (Zn (Zz n C)) f) n.2.1.length 0 N E (by omega) (by omega) a.len a.sz (fun j _ R=>a.rv j R)
  have B:Vg n D G (L++(Vo D n C).take (k+1)) E1:=by
   rw [g,← bC]
   exact a.put hf hD (p:=(aW D n (Zz n C) C[k],C[k])) q d o hG2 O fun v T=>P v (aQ _) T
  obtain ⟨E',U,V⟩:=Z3i hps hC hCl hQ hS hrS hp hI nev i kk hM m (k+1) f E1 (by omega) (by omega) B
  refine ⟨E',?_,V⟩
  rw [Za4.eq_2,if_pos (dT (by omega)),A,oB,K,oB]
  exact M.trans U
end
theorem Z0c (n:Zq) (C:List R2):Xj (C.map fun x=>Zn (Xp n x n.2.1.length 0))=Zz n C:=by
 have e:(Zr ∘ fun x:List Int=>Zn (Xp n x n.2.1.length 0))=fun x=>Xp n x n.2.1.length 0:=funext fun x=>Y5 _
 rw [Zql,gJ,e,Zz]
def Sk (n:Zq) (w:List Int):Bool:=decide (0<Zz n (Xf n n.2.1.length 0 w))
section
variable {N:Nat} {n:Zq} (hf:X2 N n) (hr0:Z3 N 8) (hv20:∀ l ∈ n.2.2.1,l.length≤1048576) (hN:2000000<N)
variable {D G:Nat} (hD:D≠0) (hG2:(Zf D).length≤G) (hrG:Z3 N (8 * G+64))
variable (hps:∀ v,v<n.2.1.length→(n.2.2.2.1.getD v []).length≤1048576) {Q S:Nat} (hQ:∀ x,Yk n x→qs (Xp n x n.2.1.length 0)≤Q) (hrS:Z3 N (4 * (Q+S)+20)) (hS300:(Q+2) * 300+4≤S)
variable (hprod:∀ x,Yk n x→Zhr N n x=some (Zn (Xp n x n.2.1.length 0)))
include hf hr0 hv20 hN hD hG2 hrG hps hQ hrS hS300 hprod
omit hr0 hv20 hD hG2 hrG hps in
theorem Z3h {C:List R2} (hC:∀ x ∈ C,Yk n x) (hCl:C.length≤300) (nev:Bool) (i:Int) (E:List (List QV)) (kk:Bool→Int→List (List QV)→Option (Zq×Int)):∀ (f k:Nat) (xs:List QV),xs=(C.take k).map (fun x=>Zn (Xp n x n.2.1.length 0))→k≤C.length→C.length<f+k→
  Zh0 N n nev i E kk C f xs (k:Int)=(if Zz n C=0 then Zfi i kk true E else Za4 N n nev i kk C (C.map fun x=>Zn (Xp n x n.2.1.length 0)) (Zn (Zz n C)) N 0 E)∧qs (Zz n C)≤S
 | 0,k,xs,_,r,s=>by omega
 | f+1,k,xs,j,r,s=>by
  have F:=hf.le
  have H:xs.length=k:=by rw [j,aH,nK];omega
  rw [Zh0.eq_2]
  by_cases hk:k<C.length
  ·have t:=hprod _ (hC _ (aB hk))
   have o:Zhr N (n.1,n.2.1,n.2.2.1,n.2.2.2.1,n.2.2.2.2) C[k]=some (Zn (Xp n C[k] n.2.1.length 0)):=t
   have e:((((Zn (Xp n C[k] n.2.1.length 0)).1.1,(Zn (Xp n C[k] n.2.1.length 0)).1.2),(Zn (Xp n C[k] n.2.1.length 0)).2):QV)=Zn (Xp n C[k] n.2.1.length 0):=rfl
   rw [if_pos (dT (by omega)),Zs hk,oB,o,oB,Z7 (by simp only [aK,maxLen];omega),e,wS (by omega)]
   exact Z3h hC hCl nev i E kk f (k+1) _ (by rw [j,cO,aL hk,bX,dI];rfl) (by omega) (by omega)
  ·have a:xs=C.map fun x=>Zn (Xp n x n.2.1.length 0):=by rw [j,bA (by omega)]
   have b:∀ y ∈ xs,RV Q y:=fun y c=>by
    rw [a] at c
    obtain ⟨x,p,rfl⟩:=cY.1 c
    exact W7 (hQ x (hC x p))
   have q:=Zz3 xs b
   have u:(Q+2) * xs.length≤(Q+2) * 300:=aY _ (by omega)
   have w:Zau N xs=some (Zn (Zz n C)):=by
    have:=Z1h (N:=N) (l:=xs) (fun y c=>⟨(b y c).m,(b y c).d⟩) (by omega) (by omega) (hrS.mono (by omega))
    rw [this,a,Z0c]
   have g:qs (Zz n C)≤S:=by
    have:=Zo4 (N:=N) (l:=xs) (fun y c=>⟨(b y c).m,(b y c).d⟩) (hrS.mono (by omega))
    have A:=this.2
    rw [a,Z0c] at A
    rw [a] at q u
    omega
   have B:Zat N (((Zn (Zz n C)).1.1,(Zn (Zz n C)).1.2),(Zn (Zz n C)).2)=some (Tz (Zz n C)):=by
    have:=Zqy (N:=N) (W7 g) (hrS.mono (by omega))
    rwa [Y5] at this
   refine ⟨?_,g⟩
   rw [if_neg (dF (by omega)),w,oB,B,oB,a]
   by_cases h0:Zz n C=0
   ·rw [if_pos (dT (Zb9.2 h0)),if_pos h0]
   ·rw [if_neg (by rw [decide_eq_false fun e=>h0 (Zb9.1 e)];decide),if_neg h0]
omit hr0 in
theorem Zuh {r:List R2} (hrl:r.length≤12) (hR:∀ w ∈ r,PV n w) (ho:∀ w ∈ r,Xh n w n.2.1.length 0≤300) (hI:∀ w ∈ r,0<Zz n (Xf n n.2.1.length 0 w)→∀ x ∈ Xf n n.2.1.length 0 w,∃ z:Nat,(D:Rat) * Xp n x n.2.1.length 0 / Zz n (Xf n n.2.1.length 0 w)=(z:Rat))
  {M:Nat} (hM:(Zf M).length≤G):∀ (l:List R2) (i f:Nat) (nev:Bool) (E:List (List QV)) (L:List R7),r.drop i=l→i≤r.length→r.length<f+i→Vg n D G L E→Yp L+l.length * D≤M→
  ∃ E' L',Tu N n r f nev (i:Int) E=(if (nev||!l.all (Sk n))=true then some (Sr,52) else Zdp N n E' N [] 0)∧Vg n D G L' E'∧Yp L'≤M∧(l.all (Sk n)=true→L'=L++Qf D n l)
 | l,i,0,nev,E,L,_,t,u,_,_=>by omega
 | [],i,f+1,nev,E,L,b,t,u,g,o=>by
  have j:i=r.length:=by
   have:=congrArg List.length b
   rw [bH,nN] at this;omega
  rw [Tu.eq_2,if_neg (dF (by omega))]
  refine ⟨E,L,?_,g,by rw [nN] at o;omega,fun _=>by rw [Qf,jT,cV]⟩
  cases nev with
  | true=>rw [if_pos rfl];rfl
  | false=>rw [if_neg (by decide)];rfl
 | w :: l,i,f+1,nev,E,L,b,t,u,g,o=>by
  have T:=hf.le
  have j:i<r.length:=by
   rcases bU i r.length with h | h
   ·exact h
   ·rw [aG h] at b;cases b
  rw [aF j] at b
  obtain ⟨y,A⟩:=List.cons.inj b
  have c:w ∈ r:=by rw [← y];exact aB j
  have k:=hR w c
  have B:=ho w c
  have ra:=Xa7 (N:=N) hf.ev hv20 (by omega) (by omega) k (by omega)
  have C:Zk0 N (n.1,n.2.1,n.2.2.1,n.2.2.2.1,n.2.2.2.2) w=some (Xf n n.2.1.length 0 w):=ra
  have d:=Zsg k
  have F:(Xf n n.2.1.length 0 w).length≤300:=by rw [Zch];exact B
  obtain ⟨H,K⟩:=Z3h hf hN hQ hrS hS300 hprod d F nev (i:Int) E (Tu N n r f) N 0 [] rfl (aQ _) (by omega)
  rw [nC,bB,aV] at o
  rw [Tu.eq_2,if_pos (dT (by omega)),Zs j,oB,y,C,oB]
  have I:=Zuj hf _ d
  by_cases h0:Zz n (Xf n n.2.1.length 0 w)=0
  ·have a:Sk n w=false:=by rw [Sk,h0];exact decide_eq_false cZ
   obtain ⟨E',L',p,q,s,J⟩:=Zuh hrl hR ho hI hM l (i+1) f true E L A (by omega) (by omega) g (by omega)
   refine ⟨E',L',?_,q,s,fun h=>by rw [cN,a] at h;cases h⟩
   refine Eq.trans H ?_
   rw [if_pos h0,Zfi,wS (by omega)]
   refine Eq.trans p ?_
   rw [cN,a,Bool.false_and,Bool.not_false,Bool.or_true,Bool.true_or]
  ·have e:0<Zz n (Xf n n.2.1.length 0 w):=by
    rcases Rat.le_iff_lt_or_eq.1 I with h | h
    ·exact h
    ·exact absurd h.symm h0
   have a:Sk n w=true:=decide_eq_true e
   have m:=hI w c e
   have U:=Zuu e m
   obtain ⟨O,P,R⟩:=Z3i hf hN hD hG2 hrG hps d (by omega) hQ K (hrS.mono (by omega)) e (Zrq e m) nev (i:Int) (Tu N n r f) (L:=L) (aT (Y7 (by omega)) hM) (Xf n n.2.1.length 0 w).length 0 N E (by omega) (by omega) (by rw [eI,cV];exact g)
   obtain ⟨E',L',p,q,s,J⟩:=Zuh hrl hR ho hI hM l (i+1) f nev O (L++Vo D n (Xf n n.2.1.length 0 w)) A (by omega) (by omega) R (by rw [Zij];omega)
   refine ⟨E',L',?_,q,s,fun h=>?_⟩
   ·refine Eq.trans H ?_
    rw [if_neg h0]
    refine Eq.trans P ?_
    rw [Zfi,wS (by omega)]
    refine Eq.trans p ?_
    rw [cN,a,Bool.true_and]
   ·rw [cN,a,Bool.true_and] at h
    rw [J h,bC,Qf,Qf,eG]
omit hr0 hQ hrS hS300 hprod hps hv20 in
theorem Z3k (tw:Zb4 N n=some n) (hT:∀ v,v<n.2.1.length→∀ x ∈ n.2.2.2.2.getD v [],RV G x) {L:List R7} {E:List (List QV)} (hE:Vg n D G L E) (hG1:(Zf (Yp L)).length≤G):∀ (f v:Nat) (A:List (List QV)),v≤n.2.1.length→n.2.1.length<f+v→A=(Ud n L).take v→
  Zdp N n E f A (v:Int)=some (Zie n (Ud n L),0)
 | 0,v,A,p,r,_=>by omega
 | f+1,v,A,p,r,b=>by
  have w:=hf.le
  have c:Zb4 N (n.1,n.2.1,n.2.2.1,n.2.2.2.1,n.2.2.2.2)=some n:=tw
  have y:(Ud n L).length=n.2.1.length:=by rw [Ud,aH,dR]
  have C:A.length=v:=by rw [b,nK];omega
  rw [Zdp.eq_2]
  by_cases hv:v<n.2.1.length
  ·obtain ⟨s,F,H⟩:=hf.rows hv
   have d:=Zae hf.ev hv
   have e:=hE.sz v hv
   have g:((n.2.2.1.getD v []).length:Int)=(cnt n v:Int):=rfl
   have a:U1 n v * cnt n v=(n.2.2.2.2.getD v []).length:=s
   have i:=Xbs (N:=N) (B:=G) hrG (q:=E.getD v []) (t:=n.2.2.2.2.getD v []) (k:=cnt n v) (R:=U1 n v) d (fun x u=>hE.rv v hv x u) (hT v hv) (by rw [e];exact a.symm) a.symm (by omega) (fun j=>hE.pb hD hv hG1 hG2 _ _) (by omega)
   have m:=Zud (k:=cnt n v) hD (U1 n v) ((n.2.2.2.2.getD v []).map Yy) (E.getD v []) (Wj n v L) (Zlv n v L) (hE.map hv)
   rw [m] at i
   have o:(Ud n L).take (v+1)=A++[Wv (cnt n v) (U1 n v) ((n.2.2.2.2.getD v []).map Yy) (Ua 0 (Wj n v L))]:=by
    rw [cO,aL (by omega),bX,← b,← Zui hv,Xl (by omega)]
   rw [if_pos (dT (by omega)),Yo [] (by rw [hE.len];exact hv),oB,Yo [] (by rw [hf.ev.v];exact hv),oB,Yo [] (by rw [hf.ev.t];exact hv),oB,g,i,oB,Z7 (by simp only [aK,maxLen];omega),wS (by omega)]
   exact Z3k tw hT hE hG1 f (v+1) _ (by omega) (by omega) o.symm
  ·rw [if_neg (dF (by omega)),Zps,c,oB,oB,b,bA (by omega)];rfl
end
def Zgo (N:Nat) (d:Int) (e:List R4) (a:Int) (kk_L4:(ByteArray→R3→Rb→R6→R9→Int→Option Bool)) (f:R4) (g:R1):Nat→ByteArray→R3→Rb→R6→R2→R2→Bool→Int→Option Bool
  | 0,_,_,_,_,_,_,_,_=>none
  | n+1,i,j,k,l,m,b,o,c=>if (decide (c<(b.length:Int)))=true then ((Zk b c).bind fun q=>(some (b.set (aA c) (u32.wrap (i64.wrap ((i64.wrap ((i64.wrap (1000 * d))+a))+100))))).bind fun p=>(Zgo N d e a kk_L4 f g n) i j k l m p o (i64.wrap (c+1))) else (kk_L4 i j k l (e.set (aA d) (f.set (aA a) ((g.1.1,m),b))) (i64.wrap (a+1)))
def Zgn (N:Nat) (c:Int) (d:List R4) (e:Int) (kk_L4:(ByteArray→R3→Rb→R6→R9→Int→Option Bool)) (f:R4) (g:R1):Nat→ByteArray→R3→Rb→R6→R2→R2→Bool→Int→Option Bool
  | 0,_,_,_,_,_,_,_,_=>none
  | o+1,i,j,k,l,a,m,n,b=>if (decide (b<(a.length:Int)))=true then ((Zk a b).bind fun q=>(some (a.set (aA b) 7)).bind fun p=>(Zgn N c d e kk_L4 f g o) i j k l p m n (i64.wrap (b+1))) else (Zgo N c d e kk_L4 f g N i j k l a m n 0)
def Zak (N:Nat) (a:Int) (kk_L1:(ByteArray→R3→Rb→R6→R9→Int→Option Bool)):Nat→ByteArray→R3→Rb→R6→R9→Int→Option Bool
  | 0,_,_,_,_,_,_=>none
  | k+1,f,g,i,j,c,d=>(Zk c a).bind fun e=>if (decide (d<(e.length:Int)))=true then ((Zk e d).bind fun b=>Zgn N a c d (Zak N a kk_L1 k) e b N f g i j b.1.2 b.2 b.1.1 0) else (kk_L1 f g i j c (i64.wrap (a+1)))
def Zek (N:Nat) (a:Int) (kk_L1:(ByteArray→R3→Rb→R6→R9→Int→Option Bool)):Nat→ByteArray→R3→Rb→R6→R9→Int→Option Bool
  | 0,_,_,_,_,_,_=>none
  | j+1,e,f,g,c,i,b=>(Zk c a).bind fun d=>if (decide (b<(d.length:Int)))=true then ((Zk d b).bind fun l=>(some (d.set (aA b) (i64.wrap ((-1) - a)))).bind fun k=>(Zek N a kk_L1 j) e f g (c.set (aA a) k) i (i64.wrap (b+1))) else (Zak N a kk_L1 N e f g c i 0)
def Zgm (N:Nat) (a:Int) (kk_L1:(ByteArray→R3→Rb→R6→R9→Int→Option Bool)):Nat→ByteArray→R3→Rb→R6→R9→Int→Option Bool
  | 0,_,_,_,_,_,_=>none
  | j+1,e,f,c,g,i,b=>(Zk c a).bind fun d=>if (decide (b<(d.length:Int)))=true then ((Zk d b).bind fun l=>(some (d.set (aA b) (⟨#[118,97,108,117,101]⟩))).bind fun k=>(Zgm N a kk_L1 j) e f (c.set (aA a) k) g i (i64.wrap (b+1))) else (Zek N a kk_L1 N e f c g i 0)
def Zgk (N:Nat) (d:Int) (e:ByteArray) (f:List ByteArray) (g:List R3) (i:List R2) (j:List R4) (a:Int) (kk_L8:(ByteArray→R3→Rb→R6→R9→Int→Option Bool)) (b:R1):Nat→Int→Option Bool
  | 0,_=>none
  | k+1,c=>if (decide (c<(b.2.length:Int)))=true then ((Zk b.2 c).bind fun l=>if (!decide (l=(u32.wrap (i64.wrap ((i64.wrap ((i64.wrap (1000 * d))+a))+100)))))=true then (some false) else ((Zgk N d e f g i j a kk_L8 b k) (i64.wrap (c+1)))) else (kk_L8 e f g i j (i64.wrap (a+1)))
def Zgp (N:Nat) (c:Int) (d:ByteArray) (e:List ByteArray) (f:List R3) (g:List R2) (i:List R4) (j:Int) (kk_L8:(ByteArray→R3→Rb→R6→R9→Int→Option Bool)) (a:R1):Nat→Int→Option Bool
  | 0,_=>none
  | k+1,b=>if (decide (b<(a.1.2.length:Int)))=true then ((Zk a.1.2 b).bind fun l=>if (!decide (l=7))=true then (some false) else ((Zgp N c d e f g i j kk_L8 a k) (i64.wrap (b+1)))) else (Zgk N c d e f g i j kk_L8 a N 0)
def Zgl (N:Nat) (a:Int) (kk_L7:(ByteArray→R3→Rb→R6→R9→Int→Option Bool)) (d:ByteArray) (e:List ByteArray) (f:List R3) (b:List R2) (g:List R4):Nat→Int→Option Bool
  | 0,_=>none
  | j+1,c=>(Zk b a).bind fun i=>if (decide (c<(i.length:Int)))=true then ((Zk i c).bind fun k=>if (!decide (k=(i64.wrap ((-1) - a))))=true then (some false) else ((Zgl N a kk_L7 d e f b g j) (i64.wrap (c+1)))) else (kk_L7 d e f b g (i64.wrap (a+1)))
def Zbt (N:Nat) (a:Int) (kk_L7:(ByteArray→R3→Rb→R6→R9→Int→Option Bool)):Nat→ByteArray→R3→Rb→R6→R9→Int→Option Bool
  | 0,_,_,_,_,_,_=>none
  | j+1,d,e,f,g,b,c=>(Zk b a).bind fun i=>if (decide (c<(i.length:Int)))=true then ((Zk i c).bind fun k=>Zgp N a d e f g b c (Zbt N a kk_L7 j) k N 0) else (Zgl N a kk_L7 d e f g b N 0)
def Qt (N:Nat):Nat→ByteArray→R3→Rb→R6→R9→Int→Option Bool
  | 0,_,_,_,_,_,_=>none
  | c+1,d,a,e,f,g,b=>if (decide (b<(a.length:Int)))=true then (Zbt N b (Qt N c) N d a e f g 0) else (some true)
def Qs (N:Nat):Nat→ByteArray→R3→Rb→R6→R9→Int→Option Bool
  | 0,_,_,_,_,_,_=>none
  | g+1,c,a,d,e,f,b=>if (decide (b<(a.length:Int)))=true then ((Zk a b).bind fun j=>(some (a.set (aA b) (⟨#[109,97,114,107]⟩))).bind fun i=>Zgm N b (Qs N g) N c i d e f 0) else (Qt N N c a d e f 0)
def Zl7 (N:Nat) (a:R0):Option Bool:=
  Qs N N a.1 a.2.1 a.2.2.1 a.2.2.2.1 a.2.2.2.2 0
theorem Z5b {N gy gz g0 g1:Nat} {K g3 g4 g5:Option Addr} {col:Ze} {k:World} {S:R0} {r:Bool} (d w x y:Nat) (a:Zl7 N S=some r) (u:Up [d,w,x,y]=true) (c2:Zb Za.str 9 d col k K gy S.2.1) (c3:Zb (Za.row 9 Za.str) 22 w col k g3 gz S.2.2.1) (c4:Zb (Za.row 3 rI) 36 x col k g4 g0 S.2.2.2.1) (c5:Zb (Za.row 42 (rO 45)) 29 y col k g5 g1 S.2.2.2.2):
    Calls prog 22 #[(.agg (Rq S K gy g3 gz g4 g0 g5 g1))] k (fun e w'=>∃ (col':Ze),e= .returned ((.bool r))∧Zu (pS [d,w,x,y]) col k col' w'):=by
 refine Xc 2 (m:=191) func22 rfl rfl rfl rfl rfl ?_;rw [Zl7.eq_1] at a;have c:=St.startL (l:=[d,w,x,y]) rfl col k;replace c2:=c2.startL (Ur u 0 rfl) (Uq u 0 rfl);replace c3:=c3.startL (Ur u 1 rfl) (Uq u 1 rfl);replace c4:=c4.startL (Ur u 2 rfl) (Uq u 2 rfl);replace c5:=c5.startL (Ur u 3 rfl) (Uq u 3 rfl);refine go ?_;refine Xg (col:=(Xe [d,w,x,y] col)) 1 rfl fun p _ _ u b=>go ?_;replace c:=c.grow u;refine Zt [1,1000000] (fun i j K=>∃ J eb ec ed bt ee ef c7 eg eh c8 ei ej c9 l bl,bl=i∧Qs N bl eb bt c7 c8 c9 l=some r∧St k (Xe [d,w,x,y] col) J K∧Zb Za.str 9 440 J K ec ed bt∧Zb (Za.row 9 Za.str) 22 441 J K ee ef c7∧Zb (Za.row 3 rI) 36 442 J K eg eh c8∧Zb (Za.row 42 (rO 45)) 29 443 J K ei ej c9∧Zd 27 1 J K p #[.string eb,.slice ec bt.length ed,.slice ee c7.length ef,.slice eg c8.length eh,.slice ei c9.length ej]∧[3].map j=[.int .i64 l]) N ⟨_,_,_,_,_,_,_,_,_,_,_,_,_,_,0,_,rfl,a,c,c2.gr u,c3.gr u,c4.gr u,c5.gr u,b,rfl⟩ ?_;clear a;intro i j K o;obtain ⟨J,eb,ec,ed,bt,ee,ef,c7,eg,eh,c8,ei,ej,c9,l,bl,h,a,c,fn,ek,el,em,b,g⟩:=o;subst h;refine .lL [3] g ?_
 cases bl with
 | zero=>rw [Qs.eq_1] at a;cases a
 | succ bl=>
  rw [Qs.eq_2] at a;refine go ?_;refine Z9 b ?_;refine go ?_;refine Zm a (fun f a=>go ?_) fun f a=>go ?_
  ·refine Z9 b<|Xk rfl ?_;obtain ⟨_,u,a⟩:=bZ a;refine lI u (fn.addr u) ?_;obtain ⟨fq,K,a⟩:=bZ a;have K:fq=bt.set (aA l) (⟨#[109,97,114,107]⟩):=(Option.some.inj K).symm;refine Zo8 (x1:=⟨#[109,97,114,107]⟩) (v:=(.string (⟨#[109,97,114,107]⟩))) fn u rfl sizeOf9 (Z02 (⟨#[109,97,114,107]⟩)) rfl rfl (by decide) ?_;intro hv u hw g6;rw [← K] at g6;replace b:=b.kp u;replace b:Zd 27 1 J hv p #[.string eb,.slice ec fq.length ed,.slice ee c7.length ef,.slice eg c8.length eh,.slice ei c9.length ej]:=by rw [← (show bt.length=fq.length by rw [K,nS])];exact b
   refine go ?_;replace ek:=ek.kp u;replace el:=el.kp u;replace em:=em.kp u;replace c:=c.kp u hw;refine Zt [1,3,1000000] (fun i j H=>∃ u db dc dd bu bc bd dk de df bv dg dh bw eo bx,bx=i∧Zgm N l (Qs N bl) bx db bu dk bv bw eo=some r∧St k (Xe [d,w,x,y] col) u H∧Zb Za.str 9 440 u H dc dd bu∧Zb (Za.row 9 Za.str) 22 441 u H bc bd dk∧Zb (Za.row 3 rI) 36 442 u H de df bv∧Zb (Za.row 42 (rO 45)) 29 443 u H dg dh bw∧Zd 27 1 u H p #[.string db,.slice dc bu.length dd,.slice bc dk.length bd,.slice de bv.length df,.slice dg bw.length dh]∧[4].map j=[.int .i64 eo]) N ⟨_,_,_,_,_,_,_,_,_,_,_,_,_,_,0,_,rfl,a,c,g6,ek,el,em,b,rfl⟩ ?_;clear a;intro i j H o;obtain ⟨u,db,dc,dd,bu,bc,bd,dk,de,df,bv,dg,dh,bw,eo,bx,h,a,c,bz,di,b0,b1,b,g⟩:=o;subst h;refine .lL [4] g ?_
   cases bx with
   | zero=>rw [Zgm.eq_1] at a;cases a
   | succ bx=>
    rw [Zgm.eq_2] at a;refine go ?_;refine Z9 b<|Xk rfl ?_;obtain ⟨fr,b2,a⟩:=bZ a;refine lI b2 (di.addr b2) ?_;obtain ⟨_,hx,hy⟩:=di.atN b2;obtain ⟨_,_,rfl,_⟩:=hx.row;refine lW hy.one<|go ?_;refine Zm a (fun f a=>go ?_) fun f a=>go ?_
    ·refine Z9 b<|Xk rfl<|lI b2 (di.addr b2) ?_;obtain ⟨_,ep,dj,z,hz⟩:=di.open_ 2 (by decide) b2;obtain ⟨g7,g8,rfl,g9⟩:=hz.row;replace z:X4 (Za.row 9 Za.str) 22 441 ep H bc bd dk (aA l) [.slice g7 fr.length g8]:=z;refine lW z.atN.one<|Xk rfl ?_;obtain ⟨_,J,a⟩:=bZ a;refine lI J (g9.addr J) ?_;obtain ⟨H,K,a⟩:=bZ a;have K:H=fr.set (aA eo) (⟨#[118,97,108,117,101]⟩):=(Option.some.inj K).symm;refine Zo8 (x1:=⟨#[118,97,108,117,101]⟩) (v:=(.string (⟨#[118,97,108,117,101]⟩))) g9 J rfl sizeOf9 (Z02 (⟨#[118,97,108,117,101]⟩)) rfl rfl (by decide) ?_;intro u J h0 ha;rw [← K] at ha;replace b:=(b.kpp dj).kp J;replace b:Zd 27 1 ep u p #[.string db,.slice dc bu.length dd,.slice bc dk.length bd,.slice de bv.length df,.slice dg bw.length dh]:=by rw [];exact b
     replace z:=z.kp J;replace z:X4 (Za.row 9 Za.str) 22 441 ep u bc bd dk (aA l) [.slice g7 H.length g8]:=by rw [← (show fr.length=H.length by rw [K,nS])];exact z
     have K:=z.close ha.has (by decide) (by decide);replace bz:=(bz.kpp dj).kp J;replace bz:=bz.recol 2 441;replace b0:=(b0.kpp dj).kp J;replace b0:=b0.recol 2 441;replace b1:=(b1.kpp dj).kp J;replace b1:=b1.recol 2 441;replace b:=b.recol 2 441;replace c:=(c.kpp dj).kp J h0;replace c:=c.recol 2 441 (by decide) (by decide);replace b:Zd 27 1 (Xv 2 441 ep) u p #[.string db,.slice dc bu.length dd,.slice bc ((dk.set (aA l) H).length) bd,.slice de bv.length df,.slice dg bw.length dh]:=by rw [← (show dk.length=(dk.set (aA l) H).length by simp only [nS])];exact b
     refine go ?_;exact ⟨bx,by omega,rfl,⟨_,_,_,_,_,_,_,_,_,_,_,_,_,_,_,_,rfl,a,c,bz,K,b0,b1,b,rfl⟩⟩
    refine Zt [1,3,1000000] (fun i j I=>∃ z dm dn dp b4 dq dr b5 bf bg ex ds dt b6 er b7,b7=i∧Zek N l (Qs N bl) b7 dm b4 b5 ex b6 er=some r∧St k (Xe [d,w,x,y] col) z I∧Zb Za.str 9 440 z I dn dp b4∧Zb (Za.row 9 Za.str) 22 441 z I dq dr b5∧Zb (Za.row 3 rI) 36 442 z I bf bg ex∧Zb (Za.row 42 (rO 45)) 29 443 z I ds dt b6∧Zd 27 1 z I p #[.string dm,.slice dn b4.length dp,.slice dq b5.length dr,.slice bf ex.length bg,.slice ds b6.length dt]∧[5].map j=[.int .i64 er]) N ⟨_,_,_,_,_,_,_,_,_,_,_,_,_,_,0,_,rfl,a,c,bz,di,b0,b1,b,rfl⟩ ?_;clear a;intro i j I o;obtain ⟨z,dm,dn,dp,b4,dq,dr,b5,bf,bg,ex,ds,dt,b6,er,b7,h,a,c,b8,b9,du,ca,b,g⟩:=o;subst h;refine .lL [5] g ?_
    cases b7 with
    | zero=>rw [Zek.eq_1] at a;cases a
    | succ b7=>
     rw [Zek.eq_2] at a;refine go ?_;refine Z9 b<|Xk rfl ?_;obtain ⟨fv,cb,a⟩:=bZ a;refine lI cb (du.addr cb) ?_;obtain ⟨_,h2,h3⟩:=du.atN cb;obtain ⟨_,_,rfl,_⟩:=h2.row;refine lW h3.one<|go ?_;refine Zm a (fun f a=>go ?_) fun f a=>go ?_
     ·refine Z9 b<|Xk rfl<|lI cb (du.addr cb) ?_;obtain ⟨_,es,dv,v,h4⟩:=du.open_ 3 (by decide) cb;obtain ⟨hc,he,rfl,hf⟩:=h4.row;replace v:X4 (Za.row 3 rI) 36 442 es I bf bg ex (aA l) [.slice hc fv.length he]:=v;refine lW v.atN.one<|go ?_;obtain ⟨_,J,a⟩:=bZ a;refine lI J (hf.addr J) ?_;obtain ⟨z,I,a⟩:=bZ a;have I:z=fv.set (aA er) (i64.wrap ((-1) - l)):=(Option.some.inj I).symm;refine Wb (x1:=i64.wrap ((-1) - l)) hf J ?_;intro J H u K;rw [← I] at K;replace b:=(b.kpp dv).kp H;replace b:Zd 27 1 es J p #[.string dm,.slice dn b4.length dp,.slice dq b5.length dr,.slice bf ex.length bg,.slice ds b6.length dt]:=by rw [];exact b
      replace v:=v.kp H;replace v:X4 (Za.row 3 rI) 36 442 es J bf bg ex (aA l) [.slice hc z.length he]:=by rw [← (show fv.length=z.length by rw [I,nS])];exact v
      have I:=v.close K.has (by decide) (by decide);replace b8:=(b8.kpp dv).kp H;replace b8:=b8.recol 3 442;replace b9:=(b9.kpp dv).kp H;replace b9:=b9.recol 3 442;replace ca:=(ca.kpp dv).kp H;replace ca:=ca.recol 3 442;replace b:=b.recol 3 442;replace c:=(c.kpp dv).kp H u;replace c:=c.recol 3 442 (by decide) (by decide);replace b:Zd 27 1 (Xv 3 442 es) J p #[.string dm,.slice dn b4.length dp,.slice dq b5.length dr,.slice bf ((ex.set (aA l) z).length) bg,.slice ds b6.length dt]:=by rw [← (show ex.length=(ex.set (aA l) z).length by simp only [nS])];exact b
      refine go ?_;exact ⟨b7,by omega,rfl,⟨_,_,_,_,_,_,_,_,_,_,_,_,_,_,_,_,rfl,a,c,b8,b9,I,ca,b,rfl⟩⟩
     refine Zt [1,3,1000000] (fun i j L=>∃ K u H I J f1 f2 v f3 f4 z fo fs s G a4,a4=i∧Zak N l (Qs N bl) a4 u J v z s G=some r∧St k (Xe [d,w,x,y] col) K L∧Zb Za.str 9 440 K L H I J∧Zb (Za.row 9 Za.str) 22 441 K L f1 f2 v∧Zb (Za.row 3 rI) 36 442 K L f3 f4 z∧Zb (Za.row 42 (rO 45)) 29 443 K L fo fs s∧Zd 27 1 K L p #[.string u,.slice H J.length I,.slice f1 v.length f2,.slice f3 z.length f4,.slice fo s.length fs]∧[6].map j=[.int .i64 G]) N ⟨_,_,_,_,_,_,_,_,_,_,_,_,_,_,0,_,rfl,a,c,b8,b9,du,ca,b,rfl⟩ ?_;clear a;intro i j L o;obtain ⟨K,u,H,I,J,f1,f2,v,f3,f4,z,fo,fs,s,G,a4,h,a,c,ez,e0,e1,dx,b,g⟩:=o;subst h;refine .lL [6] g ?_
     cases a4 with
     | zero=>rw [Zak.eq_1] at a;cases a
     | succ a4=>
      rw [Zak.eq_2] at a;refine go ?_;refine Z9 b<|Xk rfl ?_;obtain ⟨t,cd,a⟩:=bZ a;refine lI cd (dx.addr cd) ?_;obtain ⟨_,h7,h8⟩:=dx.atN cd;obtain ⟨_,_,rfl,_⟩:=h7.row;refine lW h8.one<|go ?_;refine Zm a (fun f a=>go ?_) fun f a=>go ?_
      ·refine Z9 b<|Xk rfl<|lI cd (dx.addr cd) ?_;obtain ⟨_,h9,dy,n,ia⟩:=dx.open_ 4 (by decide) cd;obtain ⟨Y,Z,rfl,hh⟩:=ia.row;replace n:X4 (Za.row 42 (rO 45)) 29 443 h9 L fo fs s (aA l) [.slice Y t.length Z]:=n;refine lW n.atN.one<|Xk rfl ?_;obtain ⟨F,H,a⟩:=bZ a;refine lI H (hh.addr H) ?_;obtain ⟨_,_,ce,m,ib⟩:=hh.open_ 5 (by decide) H;obtain ⟨_,_,hi,rfl,bi,ic,id⟩:=ib.split 6 (by decide);obtain ⟨_,_,rfl,ie,ig⟩:=ic.parts;obtain rfl:=ie.bool;obtain ⟨hj,hk,rfl,f6⟩:=ig.row;obtain ⟨hl,ho,rfl,f7⟩:=id.row;replace m:=m.kpp bi;replace m:X4 (rO 45) 42 4 hi L Y Z t (aA G) [.bool F.1.1,.slice hj F.1.2.length hk,.slice hl F.2.length ho]:=m;refine lV (.agg #[.bool F.1.1,.slice hj F.1.2.length hk,.slice hl F.2.length ho]) (Yl isAgg42 sizeOf42 rfl rfl m.atN)<|Xr (col:=hi) #[.bool false,(nI),(nI)] 7 zeroValue42 ?_;intro e2 _ _ K L;refine Z6 L fun _ J v q=>go ?_;replace ez:=((((ez.kpp dy).kpp ce).kpp bi).gr K).kp J;replace e0:=((((e0.kpp dy).kpp ce).kpp bi).gr K).kp J;replace e1:=((((e1.kpp dy).kpp ce).kpp bi).gr K).kp J;replace b:=((((b.kpp dy).kpp ce).kpp bi).gr K).kp J;replace c:=((((c.kpp dy).kpp ce).kpp bi).grow K).kp J v;replace n:=(((n.kpp ce).kpp bi).gr K).kp J;replace m:=(m.gr K).kp J;replace f7:=(f7.gr K).kp J
       refine Zt [1,3,6,7,1000000] (fun i j L=>∃ gn e3 e4 e5 dz e6 e7 d0 e8 e9 d1 cf cg a5 ch ci bj fa fb cj,cj=i∧Zgn N l s G (Zak N l (Qs N bl) a4) t F cj e3 dz d0 d1 a5 bj fa fb=some r∧St k (Xe [d,w,x,y] col) gn L∧Zb Za.str 9 440 gn L e4 e5 dz∧Zb (Za.row 9 Za.str) 22 441 gn L e6 e7 d0∧Zb (Za.row 3 rI) 36 442 gn L e8 e9 d1∧Zb rU 45 5 gn L cf cg a5∧Zb rU 45 6 gn L ch ci bj∧X4 (rO 45) 42 4 gn L Y Z t (aA G) [.bool F.1.1,.slice cf a5.length cg,.slice ch bj.length ci]∧X4 (Za.row 42 (rO 45)) 29 443 gn L fo fs s (aA l) [.slice Y t.length Z]∧Zd 27 1 gn L p #[.string e3,.slice e4 dz.length e5,.slice e6 d0.length e7,.slice e8 d1.length e9,.slice fo s.length fs]∧Zd 42 7 gn L e2 #[.bool fa,.slice cf a5.length cg,.slice ch bj.length ci]∧[8].map j=[.int .i64 fb]) N ⟨_,_,_,_,_,_,_,_,_,_,_,_,_,_,_,_,_,_,0,_,rfl,a,c,ez,e0,e1,(f6.gr K).kp J,f7,m,n,b,q,rfl⟩ ?_;clear a;intro i j L o;obtain ⟨gn,e3,e4,e5,dz,e6,e7,d0,e8,e9,d1,cf,cg,a5,ch,ci,bj,fa,fb,cj,h,a,c,fc,fd,fe,f8,ff,m,n,b,q,g⟩:=o;subst h;refine .lL [8] g ?_
       cases cj with
       | zero=>rw [Zgn.eq_1] at a;cases a
       | succ cj=>
        rw [Zgn.eq_2] at a;refine go ?_;refine Xy ⟨_,_,rfl⟩ ?_;refine Xy (Tl ⟨_,_,rfl⟩) ?_;refine lW ((((q.atN).part 0 2 _ rfl)).nth (q:=1) rfl)<|go ?_;refine Zm a (fun f a=>go ?_) fun f a=>go ?_
        ·refine Xy ⟨_,_,rfl⟩ ?_;refine Xy (Tl ⟨_,_,rfl⟩) ?_;refine lW ((((q.atN).part 0 2 _ rfl)).nth (q:=1) rfl)<|Xk rfl ?_;obtain ⟨_,I,a⟩:=bZ a;refine lI I (f8.addr I) ?_;obtain ⟨v,L,a⟩:=bZ a;have L:v=a5.set (aA fb) 7:=(Option.some.inj L).symm;refine Wb (x1:=7) f8 I ?_;intro z I J H;rw [← L] at H;replace b:=b.kp I;replace b:Zd 27 1 gn z p #[.string e3,.slice e4 dz.length e5,.slice e6 d0.length e7,.slice e8 d1.length e9,.slice fo s.length fs]:=by rw [];exact b
         replace q:=q.kp I;replace q:Zd 42 7 gn z e2 #[.bool fa,.slice cf v.length cg,.slice ch bj.length ci]:=by rw [← (show a5.length=v.length by rw [L,nS])];exact q
         replace m:=m.kp I;replace m:X4 (rO 45) 42 4 gn z Y Z t (aA G) [.bool F.1.1,.slice cf v.length cg,.slice ch bj.length ci]:=by rw [← (show a5.length=v.length by rw [L,nS])];exact m
         refine go ?_;replace fc:=fc.kp I;replace fd:=fd.kp I;replace fe:=fe.kp I;replace n:=n.kp I;replace ff:=ff.kp I;replace c:=c.kp I J;exact ⟨cj,by omega,rfl,⟨_,_,_,_,_,_,_,_,_,_,_,_,_,_,_,_,_,_,_,_,rfl,a,c,fc,fd,fe,H,ff,m,n,b,q,rfl⟩⟩
        refine Zt [1,3,6,7,1000000] (fun i j gr=>∃ C ck cl cn bk co cp bm cq cr bn cs ct ja cu cv jb fg fh cw,cw=i∧Zgo N l s G (Zak N l (Qs N bl) a4) t F cw ck bk bm bn ja jb fg fh=some r∧St k (Xe [d,w,x,y] col) C gr∧Zb Za.str 9 440 C gr cl cn bk∧Zb (Za.row 9 Za.str) 22 441 C gr co cp bm∧Zb (Za.row 3 rI) 36 442 C gr cq cr bn∧Zb rU 45 5 C gr cs ct ja∧Zb rU 45 6 C gr cu cv jb∧X4 (rO 45) 42 4 C gr Y Z t (aA G) [.bool F.1.1,.slice cs ja.length ct,.slice cu jb.length cv]∧X4 (Za.row 42 (rO 45)) 29 443 C gr fo fs s (aA l) [.slice Y t.length Z]∧Zd 27 1 C gr p #[.string ck,.slice cl bk.length cn,.slice co bm.length cp,.slice cq bn.length cr,.slice fo s.length fs]∧Zd 42 7 C gr e2 #[.bool fg,.slice cs ja.length ct,.slice cu jb.length cv]∧[9].map j=[.int .i64 fh]) N ⟨_,_,_,_,_,_,_,_,_,_,_,_,_,_,_,_,_,_,0,_,rfl,a,c,fc,fd,fe,f8,ff,m,n,b,q,rfl⟩ ?_;clear a;intro i j gr o;obtain ⟨C,ck,cl,cn,bk,co,cp,bm,cq,cr,bn,cs,ct,ja,cu,cv,jb,fg,fh,cw,h,a,c,jc,jd,je,fi,gb,m,n,b,q,g⟩:=o;subst h;refine .lL [9] g ?_
        cases cw with
        | zero=>rw [Zgo.eq_1] at a;cases a
        | succ cw=>
         rw [Zgo.eq_2] at a;refine go ?_;refine Z9 q ?_;refine go ?_;refine Zm a (fun f a=>go ?_) fun f a=>go ?_
         ·refine Z9 q ?_;refine go ?_;obtain ⟨_,L,a⟩:=bZ a;refine lI L (gb.addr L) ?_;obtain ⟨I,v,a⟩:=bZ a;have v:I=jb.set (aA fh) (u32.wrap (i64.wrap ((i64.wrap ((i64.wrap (1000 * l))+G))+100))):=(Option.some.inj v).symm;refine Wb (x1:=u32.wrap (i64.wrap ((i64.wrap ((i64.wrap (1000 * l))+G))+100))) gb L ?_;intro L H J z;rw [← v] at z;replace b:=b.kp H;replace b:Zd 27 1 C L p #[.string ck,.slice cl bk.length cn,.slice co bm.length cp,.slice cq bn.length cr,.slice fo s.length fs]:=by rw [];exact b
          replace q:=q.kp H;replace q:Zd 42 7 C L e2 #[.bool fg,.slice cs ja.length ct,.slice cu I.length cv]:=by rw [← (show jb.length=I.length by rw [v,nS])];exact q
          replace m:=m.kp H;replace m:X4 (rO 45) 42 4 C L Y Z t (aA G) [.bool F.1.1,.slice cs ja.length ct,.slice cu I.length cv]:=by rw [← (show jb.length=I.length by rw [v,nS])];exact m
          refine go ?_;replace jc:=jc.kp H;replace jd:=jd.kp H;replace je:=je.kp H;replace n:=n.kp H;replace fi:=fi.kp H;replace c:=c.kp H J;exact ⟨cw,by omega,rfl,⟨_,_,_,_,_,_,_,_,_,_,_,_,_,_,_,_,_,_,_,_,rfl,a,c,jc,jd,je,fi,z,m,n,b,q,rfl⟩⟩
         have q:=Yg.join (Yg.joinL (Zaa F.1.1) fi.has) gb.has (by decide) (by decide);replace jc:=jc.recol 6 5;replace jd:=jd.recol 6 5;replace je:=je.recol 6 5;replace n:=n.recol 6 5;replace b:=b.recol 6 5;replace c:=c.recol 6 5 (by decide) (by decide);have L:=(m.recol 6 5).close q (by decide) (by decide);replace jc:=jc.recol 5 4;replace jd:=jd.recol 5 4;replace je:=je.recol 5 4;replace n:=n.recol 5 4;replace b:=b.recol 5 4;replace c:=c.recol 5 4 (by decide) (by decide);replace b:Zd 27 1 (Xv 5 4 (Xv 6 5 C)) gr p #[.string ck,.slice cl bk.length cn,.slice co bm.length cp,.slice cq bn.length cr,.slice fo s.length fs]:=by rw [];exact b
         replace n:X4 (Za.row 42 (rO 45)) 29 443 (Xv 5 4 (Xv 6 5 C)) gr fo fs s (aA l) [(.slice Y ((t.set (aA G) ((F.1.1,ja),jb)).length) Z)]:=by rw [← (show t.length=(t.set (aA G) ((F.1.1,ja),jb)).length by simp only [nS])];exact n
         have Z:=n.close L.has (by decide) (by decide);replace b:=b.recol 4 443;replace c:=c.recol 4 443 (by decide) (by decide);replace b:Zd 27 1 (Xv 4 443 (Xv 5 4 (Xv 6 5 C))) gr p #[.string ck,.slice cl bk.length cn,.slice co bm.length cp,.slice cq bn.length cr,(.slice fo ((s.set (aA l) (t.set (aA G) ((F.1.1,ja),jb))).length) fs)]:=by rw [← (show s.length=(s.set (aA l) (t.set (aA G) ((F.1.1,ja),jb))).length by simp only [nS])];exact b
         refine go ?_;exact ⟨a4,by omega,rfl,⟨_,_,_,_,_,_,_,_,_,_,_,_,_,_,_,_,rfl,a,c,jc.recol 4 443,jd.recol 4 443,je.recol 4 443,Z,b,rfl⟩⟩
      exact ⟨bl,by omega,rfl,⟨_,_,_,_,_,_,_,_,_,_,_,_,_,_,_,_,rfl,a,c,ez,e0,e1,dx,b,rfl⟩⟩
  refine Zt [1,1000000] (fun i j s=>∃ F t C m G n q Y v H Z I K l X jf,jf=i∧Qt N jf t G Y Z l X=some r∧St k (Xe [d,w,x,y] col) F s∧Zb Za.str 9 440 F s C m G∧Zb (Za.row 9 Za.str) 22 441 F s n q Y∧Zb (Za.row 3 rI) 36 442 F s v H Z∧Zb (Za.row 42 (rO 45)) 29 443 F s I K l∧Zd 27 1 F s p #[.string t,.slice C G.length m,.slice n Y.length q,.slice v Z.length H,.slice I l.length K]∧[10].map j=[.int .i64 X]) N ⟨_,_,_,_,_,_,_,_,_,_,_,_,_,_,0,_,rfl,a,c,fn,ek,el,em,b,rfl⟩ ?_;clear a;intro i j s o;obtain ⟨F,t,C,m,G,n,q,Y,v,H,Z,I,K,l,X,jf,h,a,c,ip,iq,ir,it,b,g⟩:=o;subst h;refine .lL [10] g ?_
  cases jf with
  | zero=>rw [Qt.eq_1] at a;cases a
  | succ jf=>
   rw [Qt.eq_2] at a;refine go ?_;refine Z9 b ?_;refine go ?_;refine Zm a (fun f a=>go ?_) fun f a=>go ?_
   ·refine Zt [1,10,1000000] (fun i j C=>∃ a6 M O P jg Q R jh T U ji V W jj d6 a7,a7=i∧Zbt N X (Qt N jf) a7 M jg jh ji jj d6=some r∧St k (Xe [d,w,x,y] col) a6 C∧Zb Za.str 9 440 a6 C O P jg∧Zb (Za.row 9 Za.str) 22 441 a6 C Q R jh∧Zb (Za.row 3 rI) 36 442 a6 C T U ji∧Zb (Za.row 42 (rO 45)) 29 443 a6 C V W jj∧Zd 27 1 a6 C p #[.string M,.slice O jg.length P,.slice Q jh.length R,.slice T ji.length U,.slice V jj.length W]∧[11].map j=[.int .i64 d6]) N ⟨_,_,_,_,_,_,_,_,_,_,_,_,_,_,0,_,rfl,a,c,ip,iq,ir,it,b,rfl⟩ ?_;clear a;intro i j C o;obtain ⟨a6,M,O,P,jg,Q,R,jh,T,U,ji,V,W,jj,d6,a7,h,a,c,jk,jl,D,E,b,g⟩:=o;subst h;refine .lL [11] g ?_
    cases a7 with
    | zero=>rw [Zbt.eq_1] at a;cases a
    | succ a7=>
     rw [Zbt.eq_2] at a;refine go ?_;refine Z9 b<|Xk rfl ?_;obtain ⟨_,cx,a⟩:=bZ a;refine lI cx (E.addr cx) ?_;obtain ⟨_,iu,iv⟩:=E.atN cx;obtain ⟨_,_,rfl,_⟩:=iu.row;refine lW iv.one<|go ?_;refine Zm a (fun f a=>go ?_) fun f a=>go ?_
     ·refine Z9 b<|Xk rfl<|lI cx (E.addr cx) ?_;obtain ⟨_,iw,ix⟩:=E.atN cx;obtain ⟨_,_,rfl,hr⟩:=iw.row;refine lW ix.one<|Xk rfl ?_;obtain ⟨jm,q,a⟩:=bZ a;refine lI q (hr.addr q) ?_;obtain ⟨_,iy,iz⟩:=hr.atN q;obtain ⟨_,_,rfl,i0,i1⟩:=iy.parts;obtain ⟨_,_,rfl,i2,i3⟩:=i0.parts;obtain rfl:=i2.bool;obtain ⟨d7,d8,rfl,jn⟩:=i3.row;obtain ⟨d9,ea,rfl,B⟩:=i1.row;refine lV (.agg #[.bool jm.1.1,.slice d7 jm.1.2.length d8,.slice d9 jm.2.length ea]) (Yl isAgg42 sizeOf42 rfl rfl iz)<|Xr (col:=a6) #[.bool false,(nI),(nI)] 8 zeroValue42 ?_;intro ht _ _ m G;refine Z6 G fun _ l Y A=>go ?_;replace jk:=(jk.gr m).kp l;replace jl:=(jl.gr m).kp l;replace D:=(D.gr m).kp l;replace E:=(E.gr m).kp l;replace jn:=(jn.gr m).kp l;replace B:=(B.gr m).kp l;replace b:=(b.gr m).kp l;replace c:=(c.grow m).kp l Y;refine Zt [1,10,11,12,1000000] (fun i j t=>∃ v s cy,cy=i∧Zgp N X M jg jh ji jj d6 (Zbt N X (Qt N jf) a7) jm cy s=some r∧St k (Xe [d,w,x,y] col) v t∧Zb Za.str 9 440 v t O P jg∧Zb (Za.row 9 Za.str) 22 441 v t Q R jh∧Zb (Za.row 3 rI) 36 442 v t T U ji∧Zb (Za.row 42 (rO 45)) 29 443 v t V W jj∧Zd 27 1 v t p #[.string M,.slice O jg.length P,.slice Q jh.length R,.slice T ji.length U,.slice V jj.length W]∧Zb rU 45 443 v t d7 d8 jm.1.2∧Zb rU 45 443 v t d9 ea jm.2∧Zd 42 8 v t ht #[.bool jm.1.1,.slice d7 jm.1.2.length d8,.slice d9 jm.2.length ea]∧[13].map j=[.int .i64 s]) N ⟨_,0,_,rfl,a,c,jk,jl,D,E,b,jn,B,A,rfl⟩ ?_;clear a;intro i j t o;obtain ⟨v,s,cy,h,a,c,jk,jl,D,E,b,jn,B,A,g⟩:=o;subst h;refine .lL [13] g ?_
      cases cy with
      | zero=>rw [Zgp.eq_1] at a;cases a
      | succ cy=>
       rw [Zgp.eq_2] at a;refine go ?_;refine Xy ⟨_,_,rfl⟩ ?_;refine Xy (Tl ⟨_,_,rfl⟩) ?_;refine lW ((((A.atN).part 0 2 _ rfl)).nth (q:=1) rfl)<|go ?_;refine Zm a (fun f a=>go ?_) fun f a=>go ?_
       ·refine Xy ⟨_,_,rfl⟩ ?_;refine Xy (Tl ⟨_,_,rfl⟩) ?_;refine lW ((((A.atN).part 0 2 _ rfl)).nth (q:=1) rfl)<|Xk rfl ?_;obtain ⟨_,m,a⟩:=bZ a;refine lI m (jn.addr m)<|lW (jn.atInt m) ?_;refine go ?_;refine Zm a (fun f a=>go ?_) fun f a=>go ?_
        ·cases a;exact ⟨rfl,_,rfl,c.finL rfl (cm [])⟩
        exact ⟨cy,by omega,rfl,⟨_,_,_,rfl,a,c,jk,jl,D,E,b,jn,B,A,rfl⟩⟩
       refine Zt [1,10,11,12,1000000] (fun i j u=>∃ z F cz,cz=i∧Zgk N X M jg jh ji jj d6 (Zbt N X (Qt N jf) a7) jm cz F=some r∧St k (Xe [d,w,x,y] col) z u∧Zb Za.str 9 440 z u O P jg∧Zb (Za.row 9 Za.str) 22 441 z u Q R jh∧Zb (Za.row 3 rI) 36 442 z u T U ji∧Zb (Za.row 42 (rO 45)) 29 443 z u V W jj∧Zd 27 1 z u p #[.string M,.slice O jg.length P,.slice Q jh.length R,.slice T ji.length U,.slice V jj.length W]∧Zb rU 45 443 z u d7 d8 jm.1.2∧Zb rU 45 443 z u d9 ea jm.2∧Zd 42 8 z u ht #[.bool jm.1.1,.slice d7 jm.1.2.length d8,.slice d9 jm.2.length ea]∧[14].map j=[.int .i64 F]) N ⟨_,0,_,rfl,a,c,jk,jl,D,E,b,jn,B,A,rfl⟩ ?_;clear a;intro i j u o;obtain ⟨z,F,cz,h,a,c,jk,jl,D,E,b,jn,B,A,g⟩:=o;subst h;refine .lL [14] g ?_
       cases cz with
       | zero=>rw [Zgk.eq_1] at a;cases a
       | succ cz=>
        rw [Zgk.eq_2] at a;refine go ?_;refine Z9 A ?_;refine go ?_;refine Zm a (fun f a=>go ?_) fun f a=>go ?_
        ·refine Z9 A<|Xk rfl ?_;obtain ⟨_,n,a⟩:=bZ a;refine lI n (B.addr n)<|lW (B.atInt n) ?_;refine go ?_;refine Zm a (fun f a=>go ?_) fun f a=>go ?_
         ·cases a;exact ⟨rfl,_,rfl,c.finL rfl (cm [])⟩
         exact ⟨cz,by omega,rfl,⟨_,_,_,rfl,a,c,jk,jl,D,E,b,jn,B,A,rfl⟩⟩
        exact ⟨a7,by omega,rfl,⟨_,_,_,_,_,_,_,_,_,_,_,_,_,_,_,_,rfl,a,c,jk,jl,D,E,b,rfl⟩⟩
     refine Zt [1,10,1000000] (fun i j n=>∃ q A c0,c0=i∧Zgl N X (Qt N jf) M jg jh ji jj c0 A=some r∧St k (Xe [d,w,x,y] col) q n∧Zb Za.str 9 440 q n O P jg∧Zb (Za.row 9 Za.str) 22 441 q n Q R jh∧Zb (Za.row 3 rI) 36 442 q n T U ji∧Zb (Za.row 42 (rO 45)) 29 443 q n V W jj∧Zd 27 1 q n p #[.string M,.slice O jg.length P,.slice Q jh.length R,.slice T ji.length U,.slice V jj.length W]∧[15].map j=[.int .i64 A]) N ⟨_,0,_,rfl,a,c,jk,jl,D,E,b,rfl⟩ ?_;clear a;intro i j n o;obtain ⟨q,A,c0,h,a,c,jk,jl,D,E,b,g⟩:=o;subst h;refine .lL [15] g ?_
     cases c0 with
     | zero=>rw [Zgl.eq_1] at a;cases a
     | succ c0=>
      rw [Zgl.eq_2] at a;refine go ?_;refine Z9 b<|Xk rfl ?_;obtain ⟨_,c1,a⟩:=bZ a;refine lI c1 (D.addr c1) ?_;obtain ⟨_,i6,i7⟩:=D.atN c1;obtain ⟨_,_,rfl,_⟩:=i6.row;refine lW i7.one<|go ?_;refine Zm a (fun f a=>go ?_) fun f a=>go ?_
      ·refine Z9 b<|Xk rfl<|lI c1 (D.addr c1) ?_;obtain ⟨_,i8,i9⟩:=D.atN c1;obtain ⟨_,_,rfl,hu⟩:=i8.row;refine lW i9.one<|Xk rfl ?_;obtain ⟨_,d,a⟩:=bZ a;refine lI d (hu.addr d)<|lW (hu.atInt d) ?_;refine go ?_;refine Zm a (fun f a=>go ?_) fun f a=>go ?_
       ·cases a;exact ⟨rfl,_,rfl,c.finL rfl (cm [])⟩
       exact ⟨c0,by omega,rfl,⟨_,_,_,rfl,a,c,jk,jl,D,E,b,rfl⟩⟩
      exact ⟨jf,by omega,rfl,⟨_,_,_,_,_,_,_,_,_,_,_,_,_,_,_,_,rfl,a,c,jk,jl,D,E,b,rfl⟩⟩
   cases a;exact ⟨rfl,_,rfl,c.finL rfl (cm [])⟩
def Zci (v i:Nat):Int:=u32.wrap (i64.wrap (i64.wrap (i64.wrap (1000 * (v:Int))+(i:Int))+100))
def Zdy (v i:Nat) (x:QV):Prop:=(∀ y ∈ x.1.2,y=7)∧∀ y ∈ x.2,y=Zci v i
def Zn3 (v:Nat) (t:List QV):Prop:=∀ i,i<t.length→Zdy v i (t.getD i ((false,[]),[]))
def Zll (v:Nat) (p:List Int):Prop:=∀ y ∈ p,y=i64.wrap (-1 - (v:Int))
def Zdz (x:QV):Prop:=x.1.2.length≤1099511627776∧x.2.length≤1099511627776
theorem Zua {l:List Int} {k:Nat} {c:Int} (h:l.take k=aD k c) (hk:k<l.length):(l.set k c).take (k+1)=aD (k+1) c:=by
 rw [cO,List.take_set_of_le (aX _),h,List.getElem?_set_self hk,bX,← gL]
theorem Z8v {v i:Nat} {t:List QV} {x:QV} (hx:Zdy v i x):∀ j,j<t.length→(j<i→Zdy v j (t.getD j ((false,[]),[])))→j<i+1→Zdy v j ((t.set i x).getD j ((false,[]),[])):=fun j c b d=>by
 rcases bU i t.length with a | a
 ·rw [Wc _ _ _ _ _ a]
  split
  ·rename_i e;subst e;exact hx
  ·exact b (by omega)
 ·rw [iP a];exact b (by omega)
section
variable {N:Nat} (hN:1099511627777<N) {m:Nat} (hm:m≤1048576)
include hN hm
/-! looked at again -/
omit hN hm in
theorem Z25 {a:ByteArray} {b:List ByteArray} {V:List R3} {P:List R2} {T:List (List QV)} {v i:Nat} (hib:i≤1048576) (kk) {x:QV} (hx:Zdy v i x) (hl:Zdz x):∀ (f k:Nat),k≤x.2.length→x.2.length<f+k→Zgk N (v:Int) a b V P T (i:Int) kk x f (k:Int)=kk a b V P T ((i+1:Nat):Int)
 | 0,k,c,d=>by omega
 | f+1,k,c,d=>by
  have g:=hl.2
  rw [Zgk.eq_2]
  by_cases hk:k<x.2.length
  ·have e:=hx.2 _ (aB hk)
   rw [Zci] at e
   rw [if_pos (dT (by omega)),Zs hk,oB,decide_eq_true e,if_neg (by decide),wS (by omega)]
   exact Z25 hib kk hx hl f (k+1) (by omega) (by omega)
  ·rw [if_neg (dF (by omega)),wS (by omega)]
omit hm in
theorem Z3e {a:ByteArray} {b:List ByteArray} {V:List R3} {P:List R2} {T:List (List QV)} {v i:Nat} (hib:i≤1048576) (kk) {x:QV} (hx:Zdy v i x) (hl:Zdz x):∀ (f k:Nat),k≤x.1.2.length→x.1.2.length<f+k→Zgp N (v:Int) a b V P T (i:Int) kk x f (k:Int)=kk a b V P T ((i+1:Nat):Int)
 | 0,k,c,d=>by omega
 | f+1,k,c,d=>by
  have g:=hl.1;have j:=hl.2
  rw [Zgp.eq_2]
  by_cases hk:k<x.1.2.length
  ·have e:=hx.1 _ (aB hk)
   rw [if_pos (dT (by omega)),Zs hk,oB,decide_eq_true e,if_neg (by decide),wS (by omega)]
   exact Z3e hib kk hx hl f (k+1) (by omega) (by omega)
  ·rw [if_neg (dF (by omega))]
   exact Z25 hib kk hx hl N 0 (aQ _) (by omega)
omit hN hm in
theorem Z26 {a:ByteArray} {b:List ByteArray} {V:List R3} {P:List R2} {T:List (List QV)} {v:Nat} (hv:v<P.length) (hvb:v≤1048576) (kk) (hp:Zll v (P.getD v [])) (hl:(P.getD v []).length≤1048576):∀ (f k:Nat),k≤(P.getD v []).length→(P.getD v []).length<f+k→Zgl N (v:Int) kk a b V P T f (k:Int)=kk a b V P T ((v+1:Nat):Int)
 | 0,k,c,d=>by omega
 | f+1,k,c,d=>by
  rw [Zgl.eq_2,Yo [] hv,oB]
  by_cases hk:k<(P.getD v []).length
  ·have e:=hp _ (aB hk)
   rw [if_pos (dT (by omega)),Zs hk,oB,decide_eq_true e,if_neg (by decide),wS (by omega)]
   exact Z26 hv hvb kk hp hl f (k+1) (by omega) (by omega)
  ·rw [if_neg (dF (by omega)),wS (by omega)]
omit hm in
theorem Z3d {a:ByteArray} {b:List ByteArray} {V:List R3} {P:List R2} {T:List (List QV)} {v:Nat} (hv:v<P.length) (hv2:v<T.length) (hvb:v≤1048576) (kk) (hp:Zll v (P.getD v [])) (hl:(P.getD v []).length≤1048576) (ht:Zn3 v (T.getD v [])) (htl:(T.getD v []).length≤1048576) (hte:∀ x ∈ T.getD v [],Zdz x):∀ (f i:Nat),i≤(T.getD v []).length→(T.getD v []).length<f+i→Zbt N (v:Int) kk f a b V P T (i:Int)=kk a b V P T ((v+1:Nat):Int)
 | 0,i,e,g=>by omega
 | f+1,i,e,g=>by
  rw [Zbt.eq_2,Yo [] hv2,oB]
  by_cases hi:i<(T.getD v []).length
  ·have c:=ht i hi
   rw [Xl hi] at c
   have d:=hte _ (aB hi)
   have j:=d.1
   rw [if_pos (dT (by omega)),Zs hi,oB]
   refine (Z3e hN (by omega) (Zbt N (v:Int) kk f) c d N 0 (aQ _) (by omega)).trans ?_
   exact Z3d hv hv2 hvb kk hp hl ht htl hte f (i+1) (by omega) (by omega)
  ·rw [if_neg (dF (by omega))]
   exact Z26 hv hvb kk hp hl N 0 (aQ _) (by omega)
theorem Z3c {a:ByteArray} {b:List ByteArray} {V:List R3} {P:List R2} {T:List (List QV)} (hb:b.length=m) (hP:P.length=m) (hT:T.length=m) (hp:∀ v,v<m→Zll v (P.getD v [])∧(P.getD v []).length≤1048576) (ht:∀ v,v<m→Zn3 v (T.getD v [])∧(T.getD v []).length≤1048576∧∀ x ∈ T.getD v [],Zdz x):∀ (f v:Nat),v≤m→m<f+v→Qt N f a b V P T (v:Int)=some true
 | 0,v,c,d=>by omega
 | f+1,v,c,d=>by
  rw [Qt.eq_2]
  by_cases hv:v<m
  ·obtain ⟨p1,p2⟩:=hp v hv
   obtain ⟨e,g,i⟩:=ht v hv
   rw [if_pos (dT (by omega))]
   refine (Z3d hN (by omega) (by omega) (by omega) (Qt N f) p1 p2 e g i N 0 (aQ _) (by omega)).trans ?_
   exact Z3c hb hP hT hp ht f (v+1) (by omega) (by omega)
  ·rw [if_neg (dF (by omega))]
/-! written over -/
omit hN hm in
theorem Z3b {a:ByteArray} {b:List ByteArray} {V:List R3} {P:List R2} {T:List (List QV)} {v i:Nat} (hib:i≤1048576) (kk) {t:List QV} {x:QV} (s:Bool) (M:List Int):∀ (f k:Nat) (d:List Int),d.length≤1099511627776→k≤d.length→d.length<f+k→d.take k=aD k (Zci v i)→
  Zgo N (v:Int) T (i:Int) kk t x f a b V P M d s (k:Int)=kk a b V P (T.set v (t.set i ((x.1.1,M),aD d.length (Zci v i)))) ((i+1:Nat):Int)
 | 0,k,d,_,j,l,_=>by omega
 | f+1,k,d,n,j,l,c=>by
  rw [Zgo.eq_2]
  by_cases hk:k<d.length
  ·have e:=Z3b (a:=a) (b:=b) (V:=V) (P:=P) (T:=T) hib kk (t:=t) (x:=x) s M f (k+1) (d.set k (Zci v i)) (by rw [nS];exact n) (by rw [nS];omega) (by rw [nS];omega) (Zua c hk)
   rw [nS] at e
   rw [if_pos (dT (by omega)),Zs hk,oB,oB,aC,wS (k:=k) (by omega)]
   exact e
  ·have g:k=d.length:=by omega
   rw [g,dY] at c
   rw [if_neg (dF (by omega)),wS (by omega),aC,aC,← c]
omit hm in
theorem Z3a {a:ByteArray} {b:List ByteArray} {V:List R3} {P:List R2} {T:List (List QV)} {v i:Nat} (hib:i≤1048576) (kk) {t:List QV} {x:QV} (s:Bool) {d:List Int} (hd:d.length≤1099511627776):∀ (f k:Nat) (M:List Int),M.length≤1099511627776→k≤M.length→M.length<f+k→M.take k=aD k 7→
  Zgn N (v:Int) T (i:Int) kk t x f a b V P M d s (k:Int)=kk a b V P (T.set v (t.set i ((x.1.1,aD M.length 7),aD d.length (Zci v i)))) ((i+1:Nat):Int)
 | 0,k,M,_,j,l,_=>by omega
 | f+1,k,M,n,j,l,c=>by
  rw [Zgn.eq_2]
  by_cases hk:k<M.length
  ·have e:=Z3a (a:=a) (b:=b) (V:=V) (P:=P) (T:=T) (v:=v) hib kk (t:=t) (x:=x) s hd f (k+1) (M.set k 7) (by rw [nS];exact n) (by rw [nS];omega) (by rw [nS];omega) (Zua c hk)
   rw [nS] at e
   rw [if_pos (dT (by omega)),Zs hk,oB,oB,aC,wS (by omega)]
   exact e
  ·have g:k=M.length:=by omega
   rw [g,dY] at c
   have o:=Z3b (N:=N) (a:=a) (b:=b) (V:=V) (P:=P) (T:=T) (v:=v) hib kk (t:=t) (x:=x) s M N 0 d hd (aQ _) (by omega) rfl
   rw [if_neg (dF (by omega))]
   refine o.trans ?_
   rw [← c]
omit hm in
theorem Z29 {a:ByteArray} {b:List ByteArray} {V:List R3} {P:List R2} {v:Nat} (hvb:v≤1048576) (kk):∀ (f i:Nat) (T:List (List QV)),v<T.length→(T.getD v []).length≤1048576→(∀ x ∈ T.getD v [],Zdz x)→i≤(T.getD v []).length→(T.getD v []).length<f+i→(∀ j,j<i→Zdy v j ((T.getD v []).getD j ((false,[]),[])))→
  (∀ T':List (List QV),T'.length=T.length→(∀ j,j≠v→T'.getD j []=T.getD j [])→(T'.getD v []).length≤1048576→(∀ x ∈ T'.getD v [],Zdz x)→Zn3 v (T'.getD v [])→kk a b V P T' ((v+1:Nat):Int)=some true)→Zak N (v:Int) kk f a b V P T (i:Int)=some true
 | 0,i,T,_,_,_,u,w,_,_=>by omega
 | f+1,i,T,k,p,e,u,w,q,l=>by
  rw [Zak.eq_2,Yo [] k,oB]
  by_cases hi:i<(T.getD v []).length
  ·have r:=e _ (aB hi)
   have n:=r.1;have o:=r.2
   have A:Zdz (((T.getD v [])[i].1.1,aD (T.getD v [])[i].1.2.length 7),aD (T.getD v [])[i].2.length (Zci v i)):=⟨by simp only [aS];exact n,by simp only [aS];exact o⟩
   have s:Zdy v i (((T.getD v [])[i].1.1,aD (T.getD v [])[i].1.2.length 7),aD (T.getD v [])[i].2.length (Zci v i)):=⟨fun y d=>cR d,fun y d=>cR d⟩
   have B:=Z3a hN (a:=a) (b:=b) (V:=V) (P:=P) (T:=T) (v:=v) (i:=i) (by omega) (Zak N (v:Int) kk f) (t:=T.getD v []) (x:=(T.getD v [])[i]) (T.getD v [])[i].1.1 o N 0 (T.getD v [])[i].1.2 n (aQ _) (by omega) rfl
   rw [if_pos (dT (by omega)),Zs hi,oB]
   refine B.trans ?_
   generalize ((((T.getD v [])[i].1.1,aD (T.getD v [])[i].1.2.length (7:Int)),aD (T.getD v [])[i].2.length (Zci v i)):QV)=x at *
   have c:(T.set v ((T.getD v []).set i x)).getD v []=(T.getD v []).set i x:=by rw [Wc _ _ _ _ _ k,if_pos rfl]
   refine Z29 hvb kk f (i+1) _ (by rw [nS];exact k) (by rw [c,nS];exact p) (fun y d=>?_) (by rw [c,nS];omega) (by rw [c,nS];omega) (fun j g=>?_) fun T' C D E F G=>l T' (by rw [C,nS]) (fun j g=>by rw [D j g,Wc _ _ _ _ _ k,if_neg g]) E F G
   ·rw [c] at d
    rcases eK d with H | rfl
    ·exact e y H
    ·exact A
   ·rw [c]
    exact Z8v s j (by omega) (fun h=>q j h) g
  ·rw [if_neg (dF (by omega)),wS (by omega)]
   exact l T rfl (fun _ _=>rfl) p e fun j g=>q j (by omega)
omit hN hm in
theorem Z28 {a:ByteArray} {b:List ByteArray} {V:List R3} {T:List (List QV)} {v:Nat} (hvb:v≤1048576) (kk):∀ (f i:Nat) (P:List R2),v<P.length→(P.getD v []).length≤1048576→i≤(P.getD v []).length→(P.getD v []).length<f+i→(P.getD v []).take i=aD i (i64.wrap (-1 - (v:Int)))→
  (∀ P':List R2,P'.length=P.length→(∀ j,j≠v→P'.getD j []=P.getD j [])→(P'.getD v []).length≤1048576→Zll v (P'.getD v [])→Zak N (v:Int) kk N a b V P' T 0=some true)→Zek N (v:Int) kk f a b V P T (i:Int)=some true
 | 0,i,P,_,_,q,r,_,_=>by omega
 | f+1,i,P,d,l,q,r,g,e=>by
  rw [Zek.eq_2,Yo [] d,oB]
  by_cases hi:i<(P.getD v []).length
  ·rw [if_pos (dT (by omega)),Zs hi,oB,oB,aC,aC,wS (k:=i) (by omega)]
   have c:(P.set v ((P.getD v []).set i (i64.wrap (-1 - (v:Int))))).getD v []=(P.getD v []).set i (i64.wrap (-1 - (v:Int))):=by rw [Wc _ _ _ _ _ d,if_pos rfl]
   exact Z28 hvb kk f (i+1) _ (by rw [nS];exact d) (by rw [c,nS];exact l) (by rw [c,nS];omega) (by rw [c,nS];omega) (by rw [c];exact Zua g hi) fun P' s t u w=>e P' (by rw [s,nS]) (fun j n=>by rw [t j n,Wc _ _ _ _ _ d,if_neg n]) u w
  ·have o:i=(P.getD v []).length:=by omega
   rw [o,dY] at g
   rw [if_neg (dF (by omega))]
   exact e P rfl (fun _ _=>rfl) l fun y p=>by rw [g] at p;exact cR p
omit hN hm in
theorem Z27 {a:ByteArray} {b:List ByteArray} {P:List R2} {T:List (List QV)} {v:Nat} (kk):∀ (f i:Nat) (V:List R3),v<V.length→(V.getD v []).length≤1048576→i≤(V.getD v []).length→(V.getD v []).length<f+i→
  (∀ V':List R3,V'.length=V.length→(∀ j,j≠v→V'.getD j []=V.getD j [])→(V'.getD v []).length≤1048576→Zek N (v:Int) kk N a b V' P T 0=some true)→Zgm N (v:Int) kk f a b V P T (i:Int)=some true
 | 0,i,V,_,_,l,n,_=>by omega
 | f+1,i,V,d,g,l,n,e=>by
  rw [Zgm.eq_2,Yo [] d,oB]
  by_cases hi:i<(V.getD v []).length
  ·have c:∀ y,(V.set v ((V.getD v []).set i y)).getD v []=(V.getD v []).set i y:=fun y=>by rw [Wc _ _ _ _ _ d,if_pos rfl]
   rw [if_pos (dT (by omega)),Zs hi,oB,oB,aC,aC,wS (by omega)]
   exact Z27 kk f (i+1) _ (by rw [nS];exact d) (by rw [c,nS];exact g) (by rw [c,nS];omega) (by rw [c,nS];omega) fun V' o p q=>e V' (by rw [o,nS]) (fun j k=>by rw [p j k,Wc _ _ _ _ _ d,if_neg k]) q
  ·rw [if_neg (dF (by omega))]
   exact e V rfl (fun _ _=>rfl) g
theorem Z24 {a:ByteArray}:∀ (f v:Nat) (b:List ByteArray) (V:List R3) (P:List R2) (T:List (List QV)),b.length=m→V.length=m→P.length=m→T.length=m→(∀ j,j<m→(V.getD j []).length≤1048576)→(∀ j,j<m→(P.getD j []).length≤1048576)→(∀ j,j<m→(T.getD j []).length≤1048576∧∀ x ∈ T.getD j [],Zdz x)→
  (∀ j,j<v→Zll j (P.getD j [])∧Zn3 j (T.getD j []))→v≤m→m<f+v→Qs N f a b V P T (v:Int)=some true
 | 0,v,b,V,P,T,_,_,_,_,_,_,_,_,s,t=>by omega
 | f+1,v,b,V,P,T,k,J,u,w,l,d,g,i,s,t=>by
  rw [Qs.eq_2]
  by_cases hv:v<m
  ·rw [if_pos (dT (by omega)),Zs (by omega),oB,oB]
   have n:=l v hv;have o:=d v hv
   obtain ⟨p,q⟩:=g v hv
   refine Z27 _ N 0 V (by omega) n (aQ _) (by omega) fun y K A B=>?_
   refine Z28 (by omega) _ N 0 P (by omega) o (aQ _) (by omega) rfl fun C p1 p2 D E=>?_
   refine Z29 hN (by omega) _ N 0 T (by omega) p q (aQ _) (by omega) (fun j c=>by omega) fun F L r G H I=>?_
   refine Z24 f (v+1) _ y C F (by rw [nS];exact k) (by omega) (by omega) (by omega) (fun j c=>?_) (fun j c=>?_) (fun j c=>?_) (fun j c=>?_) (by omega) (by omega)
   ·by_cases e:j=v
    ·subst e;exact B
    ·rw [A j e];exact l j c
   ·by_cases e:j=v
    ·subst e;exact D
    ·rw [p2 j e];exact d j c
   ·by_cases e:j=v
    ·subst e;exact ⟨G,H⟩
    ·rw [r j e];exact g j c
   ·by_cases e:j=v
    ·subst e;exact ⟨E,I⟩
    ·rw [p2 j e,r j e];exact i j (by omega)
  ·rw [if_neg (dF (by omega))]
   exact Z3c hN hm k u w (fun j c=>⟨(i j (by omega)).1,d j c⟩) (fun j c=>⟨(i j (by omega)).2,g j c⟩) N 0 (aQ _) (by omega)
end
structure Zux (n:Zq):Prop where
 nm:n.2.1.length≤1048576
 vn:n.2.2.1.length≤1048576
 vl:∀ l ∈ n.2.2.1,l.length≤1048576
 pn:n.2.2.2.1.length≤1048576
 pl:∀ l ∈ n.2.2.2.1,l.length≤1048576
 tn:n.2.2.2.2.length≤1048576
 tl:∀ t ∈ n.2.2.2.2,t.length≤1048576
 tm:∀ t ∈ n.2.2.2.2,∀ x ∈ t,x.1.2.length≤13000000∧x.2.length≤13000000
section
variable {N:Nat} {n:Zq} (hb:Zux n) (hN:1099511627777<N)
include hb hN
variable (hlim:∀ t ∈ n.2.2.2.2,∀ x ∈ t,W2 x) (hr:Z3 N 800000000000)
include hlim hr
omit hN in
theorem Z2r {i:Nat} (hi:i<n.2.2.2.2.length) (kk:Bool→Int→Option Bool):∀ (f k:Nat),k≤n.2.2.2.2[i].length→n.2.2.2.2[i].length<f+k→Zaz N n n (i:Int) kk f true (k:Int)=kk true ((i+1:Nat):Int)
 | 0,k,c,d=>by omega
 | f+1,k,c,d=>by
  have g:=hb.tn
  have j:=hb.tl _ (aB hi)
  rw [Zaz.eq_2,if_pos rfl,Zs hi,oB]
  by_cases hk:k<n.2.2.2.2[i].length
  ·have l:=hb.tm _ (aB hi) _ (aB hk)
   have a:=hlim _ (aB hi) _ (aB hk)
   have e:=Z2r hi kk f (k+1) (by omega) (by omega)
   have cm:=Zqx (N:=N) (Zab a.1 a.2) (Zab a.1 a.2) (hr.mono (by omega))
   have z:Ty (Zr n.2.2.2.2[i][k]) (Zr n.2.2.2.2[i][k])=0:=by rw [Ty,if_neg cZ,if_neg cZ]
   rw [z] at cm
   have b:Zc7 N ((n.2.2.2.2[i][k].1.1,n.2.2.2.2[i][k].1.2),n.2.2.2.2[i][k].2) ((n.2.2.2.2[i][k].1.1,n.2.2.2.2[i][k].1.2),n.2.2.2.2[i][k].2)=some 0:=cm
   rw [decide_eq_true (by omega),Zfe,if_pos rfl,Zs hi,oB,Zs hk,oB,oB,Zs hk,oB,b,oB,wS (by omega)]
   exact e
  ·rw [decide_eq_false (by omega),Zfe,if_neg (by decide),Zm6,wS (by omega)]
theorem Z2p:∀ (f i:Nat),i≤n.2.2.2.2.length→n.2.2.2.2.length<f+i→U9 N n n f true (i:Int)=some true
 | 0,i,a,b=>by omega
 | f+1,i,a,b=>by
  have c:=hb.tn
  rw [U9.eq_2]
  by_cases hi:i<n.2.2.2.2.length
  ·have d:=hb.tl _ (aB hi)
   rw [if_pos (dT (by omega)),if_pos rfl,Zs hi,oB,oB,decide_eq_true rfl,Zkz]
   exact (Z2r hb hlim hr hi (U9 N n n f) N 0 (aQ _) (by omega)).trans (Z2p f (i+1) (by omega) (by omega))
  ·rw [if_neg (dF (by omega))]
theorem Z2n:∀ (f i:Nat),i≤n.2.2.1.length→n.2.2.1.length<f+i→Zay N n n f true (i:Int)=some true
 | 0,i,b,c=>by omega
 | f+1,i,b,c=>by
  have d:=hb.vn
  rw [Zay.eq_2]
  by_cases hi:i<n.2.2.1.length
  ·have a:=hb.vl _ (aB hi)
   rw [if_pos (dT (by omega)),if_pos rfl,Zs hi,oB,oB,Zq9 hN a,oB,Zky,wS (by omega)]
   exact Z2n f (i+1) (by omega) (by omega)
  ·have e:=hb.tn
   rw [if_neg (dF (by omega))]
   exact Z2p hb hN hlim hr N 0 (aQ _) (by omega)
theorem Xbw:Zdk N n n=some true:=by
 have d:=hb.vn
 have a:=Zq9 (N:=N) hN hb.nm
 have b:=Zyj (N:=N) hN hb.pn hb.pl
 have c:=Z2n hb hN hlim hr N 0 (aQ _) (by omega)
 rw [Zdk,if_neg (by rw [decide_eq_true rfl];decide),if_neg (by rw [decide_eq_true rfl];decide),decide_eq_true rfl,Zht,if_neg (by decide),a,oB,if_pos rfl,b,oB,Zkx]
 exact c
omit hb hlim hr in
theorem Xb3 {t:List QV} (ht:t.length≤1048576) (hx:∀ x ∈ t,x.1.2.length≤13000000∧x.2.length≤13000000):Zhh N t t=some true:=by
 have L:∀ (f i:Nat),i≤t.length→t.length<f+i→Zc8 N t t f (i:Int)=some true:=by
  intro f
  induction f with
  | zero=>intro i a b;omega
  | succ f c=>
   intro i a b
   rw [Zc8.eq_2]
   by_cases hi:i<t.length
   ·have d:=hx _ (aB hi)
    rw [if_pos (dT (by omega)),Zs hi,oB,oB,Z2k ⟨by omega,by omega⟩ hN,oB,if_neg (by decide),wS (by omega)]
    exact c (i+1) (by omega) (by omega)
   ·rw [if_neg (dF (by omega))]
 rw [Zhh,if_neg (by rw [decide_eq_true rfl];decide)]
 exact L N 0 (aQ _) (by omega)
theorem Z8h:Q2 N n n=some true:=by
 have e:=hb.tn
 have L:∀ (f i:Nat),i≤n.2.2.2.2.length→n.2.2.2.2.length<f+i→Zax N n n f true (i:Int)=some true:=by
  intro f
  induction f with
  | zero=>intro i a b;omega
  | succ f c=>
   intro i a b
   rw [Zax.eq_2,if_pos rfl]
   by_cases hi:i<n.2.2.2.2.length
   ·rw [decide_eq_true (by omega),Zfc,if_pos rfl,Zs hi,oB,oB,Xb3 hN (hb.tl _ (aB hi)) (hb.tm _ (aB hi)),oB,wS (by omega)]
    exact c (i+1) (by omega) (by omega)
   ·rw [decide_eq_false (by omega),Zfc,if_neg (by decide)]
 have s:=Xbw hb hN hlim hr
 have d:Zdk N (n.1,n.2.1,n.2.2.1,n.2.2.2.1,n.2.2.2.2) (n.1,n.2.1,n.2.2.1,n.2.2.2.1,n.2.2.2.2)=some true:=s
 rw [Q2,d,oB]
 exact L N 0 (aQ _) (by omega)
end

end Go.Proofs.YthclpfhncgpnmaaGreat
