/-
  What functions of the program compute, as plain Lean functions (m_..), and proofs that they compute it (c_..). Printed by a program of the author; no conditions.
-/
import Derived.Test.YtpkknichfgooaaaGreatTopBitsBFloat
import Derived.Test.YtpkknichfgooaaaGreatProg
import Derived.Test.YtpkknichfgooaaaGreatTopBitsBBrief
import Derived.Test.YtpkknichfgooaaaGreatTopBitsBThree
import Derived.Test.YtpkknichfgooaaaGreatTopBitsBView
import Derived.Test.YtpkknichfgooaaaGreatTopBitsF5
set_option linter.unusedVariables false
set_option maxRecDepth 100000
set_option maxHeartbeats 2000000
namespace Go.Proofs.YtpkknichfgooaaaGreat
open Go Go.RowKit
open Nat renaming le_trans→aN,pow_succ→aW,add_zero→bV,mod_two_eq_zero_or_one→eJ,le_refl→aV,div_le_div_right→iM,zero_le→bL,mul_le_mul_right→aX,le_max_right→cU,le_max_left→dB,mul_le_mul_left→aU,lt_of_lt_of_le→aG,beq→aH
open Int renaming natAbs_natCast→eW,add_mul→eT,one_mul→fS,natCast_add→cS,mul_one→eZ,natCast_mul→bH,toNat→aA,tmod→aS
open Rat renaming not_lt→bQ,le_refl→dX,le_trans→bR,mkRat_one→gF,mkRat_self→dH,intCast_neg→jO,le_of_lt→dS,le_iff_lt_or_eq→fY,lt_irrefl→fJ,le_total→kM
open List renaming map_cons→bX,getElem_map→fG,mem_cons_self→aK,mem_cons_of_mem→aE,replicate→aC,drop_eq_nil_iff→aF,countP_cons→gK,take_succ_eq_append_getElem→bC,length_singleton→aL,take_of_length_le→bG,getElem_mem→aJ,length_map→bE
open Go.IntKind (i8 i16 i32 i64 u8 u16 u32 u64)
open Go.Proofs.Tryz

/-! numbers of bits -/
theorem Zwz (s:ByteArray) (i:Nat):qs (Xe s i).1≤i / 32+1∧qs (Xe s i).2≤i / 32+1:=by
 have h:=Zwx s i
 have a:=Zpq i
 exact ⟨Zc4 (aN (Ws (by rw [eW];omega)) a) a (by omega),Zc4 (aN (Ws (by rw [show ((Wr s i:Int)+1).natAbs=Wr s i+1 by omega];exact h)) a) a (by omega)⟩
theorem Z6l (s:ByteArray) (i:Nat):(Xe s i).1≤(Xe s (i+1)).1∧(Xe s (i+1)).2≤(Xe s i).2:=by
 have h:=Zc3 i
 have a:Zb2 s i=0∨Zb2 s i=1:=by rw [Zb2];split <;> simp
 rw [Xe,Xe,Wr,aW]
 generalize (2 ^ i:Nat)=Z at *
 generalize Wr s i=d at *
 simp only
 rw [← bQ,← bQ,Vs (by omega) h,Vs h (by omega)]
 have k:((Z * 2:Nat):Int)=(Z:Int) * 2:=by simp
 rw [k]
 have c:(d:Int) * ((Z:Int) * 2)=(d:Int) * Z+(d:Int) * Z:=by rw [← Int.mul_assoc];omega
 have j:((d:Int)+1) * ((Z:Int) * 2)=(d:Int) * Z+(d:Int) * Z+(Z:Int) * 2:=by rw [eT,fS,c]
 rcases a with a | a
 ·rw [a,c,j]
  have b:((d+d+0:Nat):Int) * (Z:Int)=(d:Int) * Z+(d:Int) * Z:=by rw [bV,cS,eT]
  have g:(((d+d+0:Nat):Int)+1) * (Z:Int)=(d:Int) * Z+(d:Int) * Z+Z:=by rw [eT,b,fS]
  rw [b,g]
  exact ⟨by omega,by omega⟩
 ·rw [a,c,j]
  have b:((d+d+1:Nat):Int) * (Z:Int)=(d:Int) * Z+(d:Int) * Z+Z:=by rw [cS,cS,eT,eT];simp
  have g:(((d+d+1:Nat):Int)+1) * (Z:Int)=(d:Int) * Z+(d:Int) * Z+Z+Z:=by rw [eT,b,fS]
  rw [b,g]
  exact ⟨by omega,by omega⟩
theorem Zro (s:ByteArray) (j:Nat):∀ m,(Xe s j).1≤(Xe s (j+m)).1∧(Xe s (j+m)).2≤(Xe s j).2
 | 0=>⟨dX,dX⟩
 | m+1=>by
  obtain ⟨a,b⟩:=Zro s j m
  obtain ⟨c,d⟩:=Z6l s (j+m)
  exact ⟨bR a c,bR d b⟩
theorem Z6k (s:ByteArray) (i:Nat):(Xe s i).2≤1:=by
 have h:=(Zro s 0 i).2
 rw [Nat.zero_add,Zw0] at h
 exact h
theorem Zww {s:ByteArray} {b k:Nat} (hb:b<2 ^ k) (hs:∀ j,j<k→Si s (j:Int)=some (48+((b / 2 ^ (k - 1 - j) % 2:Nat):Int))):∀ j,j≤k→Wr s j=b / 2 ^ (k - j)
 | 0,_=>by rw [Wr,Nat.sub_zero,Nat.div_eq_of_lt hb]
 | j+1,d=>by
  have a:=Zww hb hs j (by omega)
  have e:k - j=(k - 1 - j)+1:=by omega
  have c:k - (j+1)=k - 1 - j:=by omega
  rw [Wr,a,c,e,aW,← Nat.div_div_eq_div_mul,Zb2,hs j (by omega)]
  generalize b / 2 ^ (k - 1 - j)=x
  have h:(if some (48+((x % 2:Nat):Int))=some 49 then 1 else 0)=x % 2:=by
   rcases eJ x with h | h
   ·rw [h];rfl
   ·rw [h];rfl
  rw [h];omega
/-! texts of bits -/
theorem Zqt:∀ (xs:List Int) (a:ByteArray),(xs.foldl (fun r n=>r.push (UInt8.ofNat n.toNat)) a).data=a.data++(xs.map fun n=>UInt8.ofNat n.toNat).toArray
 | [],a=>by simp
 | x :: xs,a=>by
  rw [List.foldl_cons,Zqt xs,ByteArray.data_push,bX]
  simp
theorem Zuo (xs:List Int):(Vc xs).size=xs.length:=by
 rw [← ByteArray.size_data,Vc,Zqt];simp
theorem Znu (v:Nat):∀ k,(Wq v k).length=k
 | 0=>rfl
 | k+1=>by rw [Wq,nC,Znu v k]
theorem Zuk (v:Nat):∀ (k j:Nat) (h:j<(Wq v k).length),(Wq v k)[j]=48+((v / 2 ^ (k - 1 - j) % 2:Nat):Int)
 | 0,j,h=>by rw [Wq] at h;simp at h
 | k+1,0,h=>by simp [Wq]
 | k+1,j+1,h=>by
  have a:j<(Wq v k).length:=by rw [Wq,nC] at h;omega
  have:=Zuk v k j a
  simp only [Wq,List.getElem_cons_succ]
  rw [this,show k+1 - 1 - (j+1)=k - 1 - j by omega]
theorem Z26 (v k:Nat) (rest:ByteArray) {j:Nat} (hj:j<k):Si (Vc (Wq v k)++rest) (j:Int)=some (48+((v / 2 ^ (k - 1 - j) % 2:Nat):Int)):=by
 have hs:(Vc (Wq v k)).size=k:=by rw [Zuo,Znu]
 have a:j<(Vc (Wq v k)++rest).size:=by rw [ByteArray.size_append];omega
 have b:j<(Vc (Wq v k)).size:=by omega
 have e:(Vc (Wq v k))[j]=UInt8.ofNat (48+v / 2 ^ (k - 1 - j) % 2):=by
  have c:j<(Wq v k).length:=by rw [Znu];exact hj
  have d:(Vc (Wq v k)).data=((Wq v k).map fun n=>UInt8.ofNat n.toNat).toArray:=by
   rw [Vc,Zqt];simp
  rw [ByteArray.getElem_eq_getElem_data]
  simp only [d,List.getElem_toArray,fG]
  rw [Zuk v k j c]
  congr 1
 rw [Si,if_pos (by omega),Int.toNat_natCast,getElem?_pos _ j a,ByteArray.getElem_append_left b,e]
 rcases eJ (v / 2 ^ (k - 1 - j)) with h | h
 ·rw [h];rfl
 ·rw [h];rfl
/-! which bits fit -/
theorem Z7h (q:Rat):(Ud q:Rat)≤q:=by
 have c:(0:Int)<q.den:=by have:=q.den_nz;omega
 have e:(Ud q:Rat)=mkRat (Ud q) 1:=by rw [gF]
 rw [e]
 conv=>rhs;rw [← dH q]
 rw [← bQ,Vs q.den_nz (by decide)]
 have:=Int.ediv_mul_le q.num (b:=(q.den:Int)) (by omega)
 rw [Ud]
 have a:((1:Nat):Int)=1:=rfl
 rw [a,eZ]
 omega
theorem Z78 {z:Int} {q:Rat} (h:(z:Rat)≤q):z≤Ud q:=by
 have a:(0:Int)<q.den:=by have:=q.den_nz;omega
 have e:(z:Rat)=mkRat z 1:=by rw [gF]
 rw [e,← dH q,← bQ,Vs q.den_nz (by decide)] at h
 rw [Ud,Int.le_ediv_iff_mul_le a]
 have b:((1:Nat):Int)=1:=rfl
 rw [b,eZ] at h
 omega
theorem Zzh {f:Rat} {c:Int} {Z:Nat} (hZ:Z≠0):f≤mkRat c Z↔f * mkRat (Z:Int) 1≤(c:Rat):=by
 have ht:=dH f
 have a:=f.den_nz
 generalize f.num=m at ht
 generalize f.den=d at ht a
 subst ht
 rw [show (c:Rat)=mkRat c 1 by rw [gF],Rat.mkRat_mul_mkRat,← bQ,← bQ,Vs hZ a,Vs (by decide) (by omega)]
 simp
theorem Zui (f:Rat) (k:Nat):f≤mkRat (bN f k) (2 ^ k):=by
 rw [Zzh (Zc3 k),bN]
 have:=Z7h (-(f * We k))
 rw [jO]
 generalize (Ud (-(f * We k)):Rat)=F at *
 show f * We k≤ -F
 grind
theorem Z2z {f:Rat} {k:Nat} {c:Int} (h:f≤mkRat c (2 ^ k)):bN f k≤c:=by
 rw [Zzh (Zc3 k)] at h
 have a:((-c:Int):Rat)≤ -(f * We k):=by
  rw [jO]
  have b:f * We k≤(c:Rat):=h
  grind
 have:=Z78 a
 rw [bN];omega
theorem Z8n {a b:Int} {Z:Nat} (hZ:Z≠0) (h:a≤b):mkRat a Z≤mkRat b Z:=by
 rw [← bQ,Vs hZ hZ]
 have:=Int.mul_le_mul_of_nonneg_right h (show (0:Int)≤Z by omega)
 omega
theorem Z7c {f t:Rat} {k:Nat} {c:Int} (h1:f≤mkRat c (2 ^ k)) (h2:mkRat (c+1) (2 ^ k)≤t):mkRat (bN f k+1) (2 ^ k)≤t:=
 bR (Z8n (Zc3 k) (by have:=Z2z h1;omega)) h2
theorem Z7b {f t:Rat} {k:Nat} (hlt:f<t) (h:mkRat (bN f k+1) (2 ^ k)≤t):Xf (t - f).den≤Xf (t - f).num.natAbs+k:=by
 have j:=Zui f k
 have a:=Zc3 k
 have e:mkRat (bN f k+1) (2 ^ k)=mkRat (bN f k) (2 ^ k)+mkRat 1 (2 ^ k):=(Zph _ _ a).symm
 rw [e] at h
 have c:mkRat 1 (2 ^ k)≤t - f:=by
  generalize mkRat (bN f k) (2 ^ k)=x at *
  generalize mkRat 1 (2 ^ k)=y at *
  grind
 have d:0<t - f:=by grind
 generalize t - f=q at *
 have b:mkRat 0 1<mkRat q.num q.den:=by rw [dH];exact d
 rw [Vs (by decide) q.den_nz] at b
 rw [← dH q,← bQ,Vs q.den_nz a,fS] at c
 have i:0<q.num:=by simp at b;omega
 have l:q.den≤q.num.natAbs * 2 ^ k:=by
  generalize (2 ^ k:Nat)=Z at *
  have:(q.num.natAbs:Int)=q.num:=by omega
  have m:((q.num.natAbs * Z:Nat):Int)=q.num * (Z:Int):=by rw [bH,this]
  omega
 rw [V4,Nat.pow_add]
 have g:=V4.1 (aV (Xf q.num.natAbs))
 have o:q.num.natAbs * 2 ^ k<2 ^ Xf q.num.natAbs * 2 ^ k:=Nat.mul_lt_mul_of_pos_right g (Nat.pow_pos (by decide))
 omega
section
variable {N K:Nat} {f t:Rat} (hf:qs f≤K) (ht:qs t≤K) (hr:Z8 N (13 * K+64)) (hKc:K≤17000000000) (hN:2199023255552<N) {e:Nat} (he:e / 32+1≤2 * K+3) (hT:mkRat (bN f e+1) (2 ^ e)≤t)
include hf ht hr hKc hN he hT
theorem Z63:∀ (m k h:Nat),k+m=e→m<h→∃ q,k≤q∧q≤e∧mkRat (bN f q+1) (2 ^ q)≤t∧(∀ j,k≤j→j<q→¬ mkRat (bN f j+1) (2 ^ j)≤t)∧Zb6 N ((Zm f,Zm t),0) h (k:Int)=some (Vc (Wq (bN f q).natAbs q),0):=by
 intro m
 induction m with
 | zero=>
  intro k h d g
  obtain ⟨h,rfl⟩:∃ h',h=h'+1:=⟨h - 1,by omega⟩
  have:k=e:=by omega
  subst this
  exact ⟨k,aV _,aV _,hT,fun j a b=>by omega,by rw [Zw1 hf ht hr he hKc hN,if_pos hT]⟩
 | succ m i=>
  intro k h d g
  obtain ⟨h,rfl⟩:∃ h',h=h'+1:=⟨h - 1,by omega⟩
  have c:k / 32+1≤2 * K+3:=by
   have:k / 32≤e / 32:=iM (by omega)
   omega
  rw [Zw1 hf ht hr c hKc hN]
  by_cases hh:mkRat (bN f k+1) (2 ^ k)≤t
  ·exact ⟨k,aV _,by omega,hh,fun j a b=>by omega,by rw [if_pos hh]⟩
  ·obtain ⟨q,q1,l,o,p,r⟩:=i (k+1) h (by omega) (by omega)
   refine ⟨q,by omega,l,o,fun j a b=>?_,by rw [if_neg hh];exact r⟩
   by_cases ej:j=k
   ·subst ej;exact hh
   ·exact p j (by omega) b
end
/-! the interval of an assignment,by the program -/
section
variable {N W K:Nat} {n:Z4} (hf:Y7 N n) (hs:Ww n W)
include hf hs
theorem Zye {w:List Int} (hw:Xr n w) {ord:List Int} (ho:Ug n.2.2.2.1 ord):∀ (l:List Int) (s:Rat×Rat) (D M:Nat),(∀ y ∈ l,y ∈ ord)→Tj D M s→∃ D' M',Tj D' M' (Xm n w l s)∧(Zf M').length+(Zf D').length≤(Zf M).length+(Zf D).length+l.length * (W+2)
 | [],s,D,M,_,h=>⟨D,M,h,by simp⟩
 | v :: l,s,D,M,he,h=>by
  have b:=ho.rg v (he v aK)
  rw [hf.ev.p] at b
  have a:v.toNat<n.2.1.length:=by omega
  have m:=hw.ok v.toNat (by rw [hw.len];exact a)
  obtain ⟨D',M',o,c,q⟩:=Zr7 hf hs hw a h
  have d:(Xv (s.2 - s.1) (Z7 n w v.toNat) s.1).getD (w.getD v.toNat 0).toNat (0,0) ∈ Xv (s.2 - s.1) (Z7 n w v.toNat) s.1:=Zeu (by rw [Su,hf.rowT_len hw a];omega)
  obtain ⟨g,i,j,r⟩:=Zye hw ho l _ D' M' (fun y k=>he y (aE _ k)) (c _ d)
  refine ⟨g,i,by rw [Xm];exact j,?_⟩
  rw [nC,Nat.add_mul,Nat.one_mul];omega
theorem Ztv {w:List Int} (hw:Xr n w) {ord:List Int} (ho:Ug n.2.2.2.1 ord):qs (Xm n w ord (0,1)).1≤ord.length * (W+2)+2∧qs (Xm n w ord (0,1)).2≤ord.length * (W+2)+2:=by
 obtain ⟨D,M,c,d⟩:=Zye hf hs hw ho ord (0,1) 1 1 (fun _ h=>h) Tj.zero
 have g:(Zf 1).length=1:=by rw [Uj];rfl
 have a:=c.qa
 have b:=c.qb
 exact ⟨by omega,by omega⟩
variable (hr:Z8 N (8 * K+40)) (hWK:1025 * (W+2)+4≤K) (hN:2000000<N) (hC:Ue N n=some 0) {ord:List Int} (o1:Tr N n.2.2.2.1=some (ord,0)) (ho:Ug n.2.2.2.1 ord) (hol:ord.length≤1024)
include hr hWK hN hC o1 ho hol
theorem Ztu (w:List Int):((decide (w.length=n.2.1.length)&&Vr n w 0)=false→Za8 N n w=some (Zrq 3))∧(Xr n w→(decide (w.length=n.2.1.length)&&Vr n w 0)=true→Za8 N n w=some (Xn (Xm n w ord (0,1)),0)):=by
 have a:Ue N (n.1,n.2.1,n.2.2.1,n.2.2.2.1,n.2.2.2.2)=some 0:=hC
 have l:=hf.le
 rw [Za8,a,oB,if_neg (by decide)]
 by_cases hlen:w.length=n.2.1.length
 ·rw [if_neg (show ¬ (!decide ((w.length:Int)=(n.2.1.length:Int)))=true by rw [decide_eq_true (by omega)];decide),Z1q hf.ev (by omega) w hlen w 0 false [] [] false [] [] rfl (bL _),decide_eq_true hlen,Bool.true_and]
  cases hin:Vr n w 0 with
  | false=>
   rw [if_neg (show ¬ false=true by decide)]
   exact ⟨fun _=>rfl,fun _ h=>Bool.noConfusion h⟩
  | true=>
   refine ⟨fun h=>Bool.noConfusion h,fun b _=>?_⟩
   obtain ⟨d,g⟩:=Z59 hf hs hr hWK (by omega) b ho hol
   obtain ⟨qa,qb⟩:=Ztv hf hs b ho
   have i:ord.length * (W+2)≤1024 * (W+2):=aX _ hol
   have c:Zh0 N (n.1,n.2.1,n.2.2.1,n.2.2.2.1,n.2.2.2.2) ord w=some (d,Xn (Xm n w ord (0,1)),true):=g
   rw [if_pos rfl,Zae.eq_1,o1,oB,c,oB]
   have j:=Zxj hr (q:=(Xm n w ord (0,1)).1) (by omega)
   have k:=Zxj hr (q:=(Xm n w ord (0,1)).2) (by omega)
   exact (by
    show (Zdr N (((Zm (Xm n w ord (0,1)).1).1.1,(Zm (Xm n w ord (0,1)).1).1.2),(Zm (Xm n w ord (0,1)).1).2)).bind _=_
    rw [j,oB]
    show (Zdr N (((Zm (Xm n w ord (0,1)).2).1.1,(Zm (Xm n w ord (0,1)).2).1.2),(Zm (Xm n w ord (0,1)).2).2)).bind _=_
    rw [k];rfl)
 ·rw [if_pos (show (!decide ((w.length:Int)=(n.2.1.length:Int)))=true by rw [decide_eq_false (by omega)];rfl),decide_eq_false hlen,Bool.false_and]
  exact ⟨fun _=>rfl,fun _ h=>Bool.noConfusion h⟩
end
section
variable {N W K:Nat} {n:Z4} (hf:Y7 N n) (hs:Ww n W) (hr:Z8 N (8 * K+40)) (hWK:1025 * (W+2)+15≤K) (hN:2199023255552<N) {ord:List Int} (ho:Ug n.2.2.2.1 ord) (hol:ord.length≤1024) (hKL:2 * (1024 * (W+2)+2)+40≤K) (hWc:1024 * (W+2)+2≤17000000000)
include hf hs hr hWK hN ho hol hKL hWc
omit hKL hWc in
theorem Zwe (s:ByteArray) {k:Nat} (hk:k / 32+1≤K):Zdo N n ord (Xn (Xe s k))=Ze3 (Vi n (fun P=>Vj (Vq (Xe s k)) P 0 (-1)) ord (aC n.2.1.length 0) (0,1)):=by
 obtain ⟨q1,a⟩:=Zwz s k
 have h:=Z6a (x:=Xe s k) (X:=Xn (Xe s k)) hf hs hr (by omega) (by omega) ho (by omega) (Yi (aN q1 hk)) (Yi (aN a hk)) (Xz _) (Xz _)
 rw [h,Zrk hf ho (Z2t (Zrn s k)) ord _ (0,1) (fun _ h=>h) (Zwy s k) (show (0:Rat)≤1 by decide)]
omit hKL hWc in
theorem Z6b {e2:Int} {s:ByteArray} {k:Nat} (hk:k≤s.size) (hkK:k / 32+1≤K) (hss:s.size≤1099511627776) {w:List Int} {S:Rat×Rat} (hd:Vi n (fun P=>Vj (Vq (Xe s k)) P 0 (-1)) ord (aC n.2.1.length 0) (0,1)=some (w,S))
  (hn:∀ j,j<k→Vi n (fun P=>Vj (Vq (Xe s j)) P 0 (-1)) ord (aC n.2.1.length 0) (0,1)=none) (hb:∀ j,j<k→∃ c,Si s (j:Int)=some c∧(c=48∨c=49)):∀ (m j g:Nat),j+m=k→m<g→
  Sp N n s (ord,e2) g (Zm (Xe s j).1).1.1 (Zm (Xe s j).1).1.2 (Zm (Xe s j).1).2 (Zm (Xe s j).2).1.1 (Zm (Xe s j).2).1.2 (Zm (Xe s j).2).2 (j:Int)=some (w,(k:Int),0):=by
 intro m
 induction m with
 | zero=>
  intro j g o p
  obtain ⟨g,rfl⟩:∃ g',g=g'+1:=⟨g - 1,by omega⟩
  have:j=k:=by omega
  subst this
  have a:Zdo N (n.1,n.2.1,n.2.2.1,n.2.2.2.1,n.2.2.2.2) ((ord,e2):List Int×Int).1 ((((Zm (Xe s j).1).1.1,(Zm (Xe s j).1).1.2),(Zm (Xe s j).1).2),(((Zm (Xe s j).2).1.1,(Zm (Xe s j).2).1.2),(Zm (Xe s j).2).2))=_:=Zwe hf hs hr hWK hN ho hol s hkK
  rw [Sp.eq_2,Zle,oB,a,hd,Ze3,oB,if_pos rfl]
 | succ m q=>
  intro j g o p
  obtain ⟨g,rfl⟩:∃ g',g=g'+1:=⟨g - 1,by omega⟩
  have e:j / 32+1≤K:=by
   have:j / 32≤k / 32:=iM (by omega)
   omega
  have a:Zdo N (n.1,n.2.1,n.2.2.1,n.2.2.2.1,n.2.2.2.2) ((ord,e2):List Int×Int).1 ((((Zm (Xe s j).1).1.1,(Zm (Xe s j).1).1.2),(Zm (Xe s j).1).2),(((Zm (Xe s j).2).1.1,(Zm (Xe s j).2).1.2),(Zm (Xe s j).2).2))=_:=Zwe hf hs hr hWK hN ho hol s e
  obtain ⟨c,d,f⟩:=hb j (by omega)
  obtain ⟨q1,t⟩:=Zwz s j
  have r:=Z7s (L:=K) (hr.mono (by omega)) s (i:=j) (by omega) (by omega) d
  have l:Zh5 N ((((Zm (Xe s j).1).1.1,(Zm (Xe s j).1).1.2),(Zm (Xe s j).1).2),(((Zm (Xe s j).2).1.1,(Zm (Xe s j).2).1.2),(Zm (Xe s j).2).2)) (decide (c=49))=some (Xn (Xe s (j+1))):=r
  rw [Sp.eq_2,Zle,oB,a,hn j (by omega),Ze3,oB,if_neg (by decide),if_neg (dF (by omega)),d,oB,oB]
  have b:Zfa N s (Zm (Xe s j).1).1.1 (Zm (Xe s j).1).1.2 (Zm (Xe s j).1).2 (Zm (Xe s j).2).1.1 (Zm (Xe s j).2).1.2 (Zm (Xe s j).2).2 (j:Int) (Sp N n s (ord,e2) g) false=some (w,(k:Int),0):=by
   rw [Zfa,if_neg (by decide),Zoo,d,oB,l,oB,Zon,wS (by omega)]
   exact q (j+1) g (by omega) (by omega)
  rcases f with rfl | rfl
  ·rw [if_neg (by decide)];exact b
  ·rw [if_pos (by decide)];exact b
variable (hC:Ue N n=some 0) (o1:Tr N n.2.2.2.1=some (ord,0)) (hall:∀ i,i<n.2.1.length→(i:Int) ∈ ord)
include hC o1 hall
omit hall in
theorem Z64 {w:List Int} (hw:Xr n w) (hin:(decide (w.length=n.2.1.length)&&Vr n w 0)=true):
  ((Xm n w ord (0,1)).1=(Xm n w ord (0,1)).2→S5 N n w=some (⟨#[]⟩,52))∧
  ((Xm n w ord (0,1)).1≠(Xm n w ord (0,1)).2→∃ q b:Nat,S5 N n w=some (Vc (Wq b q),0)∧q / 32+1≤K∧q≤64 * (1024 * (W+2)+2)+65∧b<2 ^ q∧
   (Xm n w ord (0,1)).1≤mkRat (b:Int) (2 ^ q)∧mkRat ((b:Int)+1) (2 ^ q)≤(Xm n w ord (0,1)).2∧∀ j,j<q→¬ mkRat (bN (Xm n w ord (0,1)).1 j+1) (2 ^ j)≤(Xm n w ord (0,1)).2):=by
 have S:ord.length * (W+2)≤1024 * (W+2):=aX _ hol
 obtain ⟨c1,T⟩:=Ztu hf hs hr (by omega) (by omega) hC o1 ho (by omega) w
 have J:Za8 N (n.1,n.2.1,n.2.2.1,n.2.2.2.1,n.2.2.2.2) w=some (Xn (Xm n w ord (0,1)),0):=T hw hin
 obtain ⟨qa,qb⟩:=Ztv hf hs hw ho
 obtain ⟨E,F,G⟩:=Zbx hf ho hw ord (0,1) (fun _ h=>h) (show (0:Rat)≤1 by decide)
 obtain ⟨c,L⟩:∃ c,c=ord.length * (W+2)+2:=⟨_,rfl⟩
 rw [← L] at qa qb
 have g:Z8 N (13 * c+64):=hr.mono (by omega)
 have enc:∀ f t:Rat,qs f≤c→qs t≤c→Xm n w ord (0,1)=(f,t)→f≤t→0≤f→t≤1→
   (f=t→S5 N n w=some (⟨#[]⟩,52))∧(f≠t→∃ q,q / 32+1≤2 * c+3∧q≤64 * c+65∧mkRat (bN f q+1) (2 ^ q)≤t∧(∀ j,j<q→¬ mkRat (bN f j+1) (2 ^ j)≤t)∧S5 N n w=some (Vc (Wq (bN f q).natAbs q),0)):=by
  intro f t v y m M h0 d
  have U:Qu N (((Zm t).1.1,(Zm t).1.2),(Zm t).2) (((Zm f).1.1,(Zm f).1.2),(Zm f).2)=some (Zm (t - f)):=by
   have:=Zrv (Yi y) (Yi v) (g.mono (by omega))
   rwa [Xz,Xz] at this
  have ql:=Zs4 t f
  have V:Zbh N (((Zm (t - f)).1.1,(Zm (t - f)).1.2),(Zm (t - f)).2)=some (Qf (t - f)):=by
   have:=Zru (Yi (aV (qs (t - f)))) (N:=N) (g.mono (by omega))
   rwa [Xz] at this
  have R:=g.2
  rw [S5,J,m,oB]
  dsimp only [Xn]
  rw [if_neg (show ¬ (!decide ((0:Int)=0))=true by decide),U,oB,V,oB]
  refine ⟨fun X=>?_,fun o=>?_⟩
  ·subst X
   have:Qf (f - f)≤0:=Zpt.2 (by grind)
   rw [if_pos (dT this)]
  ·have p:f<t:=Rat.not_le.1 fun h=>o (Rat.le_antisymm M h)
   have Y:¬ Qf (t - f)≤0:=fun h=>by
    have d:t - f≤0:=Zpt.1 h
    exact absurd p (bQ.2 (by grind))
   have Z:Zcj N (Zm (t - f)).2=some ((Xf (t - f).den:Nat):Int):=by
    have hl:(Zm (t - f)).2.length≤qs (t - f):=cU _ _
    have:=Zqq (N:=N) (a:=(Zm (t - f)).2) (Z9 _) (by omega) (by omega)
    rwa [show Za (Zm (t - f)).2=(t - f).den from Z6 _] at this
   have b2:Zcj N (Zm (t - f)).1.2=some ((Xf (t - f).num.natAbs:Nat):Int):=by
    have hl:(Zm (t - f)).1.2.length≤qs (t - f):=dB _ _
    have:=Zqq (N:=N) (a:=(Zm (t - f)).1.2) (Z9 _) (by omega) (by omega)
    rwa [show Za (Zm (t - f)).1.2=(t - f).num.natAbs from Z6 _] at this
   have l1:Xf (t - f).den≤32 * qs (t - f):=aN (Zhd _).2 (aU 32 (cU _ _))
   have l2:Xf (t - f).num.natAbs≤32 * qs (t - f):=aN (Zhd _).2 (aU 32 (dB _ _))
   have hT:=Z7e p
   have u:∀ k,mkRat (bN f k+1) (2 ^ k)≤t→Xf (t - f).den≤Xf (t - f).num.natAbs+k:=fun k h=>Z7b p h
   rw [if_neg (by rw [decide_eq_false Y];decide),Z,oB,b2,oB]
   generalize Xf (t - f).den=A at *
   generalize Xf (t - f).num.natAbs=B at *
   have H:i64.wrap (i64.wrap ((A:Int) - (B:Int)) - 1)=(A:Int) - (B:Int) - 1:=by
    rw [Zy (x:=(A:Int) - (B:Int)) (by omega),Zy (by omega)]
   have e2:(if 0>(A:Int) - (B:Int) - 1 then 0 else (A:Int) - (B:Int) - 1)=((A - B - 1:Nat):Int):=by
    split <;> omega
   rw [H,e2]
   obtain ⟨q,q1,q2,q3,q4,q5⟩:=Z63 v y g (by omega) hN (e:=A+1) (by omega) hT (A+1 - (A - B - 1)) (A - B - 1) N (by omega) (by omega)
   refine ⟨q,by omega,by omega,q3,fun j hj r=>?_,q5⟩
   by_cases hjk:A - B - 1≤j
   ·exact q4 j hjk hj r
   ·have:=u j r
    omega
 obtain ⟨f,t,m⟩:∃ f t,Xm n w ord (0,1)=(f,t):=⟨_,_,rfl⟩
 have C:(Xm n w ord (0,1)).1=f:=by rw [m]
 have D:(Xm n w ord (0,1)).2=t:=by rw [m]
 rw [C] at qa E F
 rw [D] at qb F G
 obtain ⟨n1,n2⟩:=enc f t qa qb m F E G
 rw [C,D]
 refine ⟨n1,fun o=>?_⟩
 obtain ⟨q,g1,g2,I,g4,O⟩:=n2 o
 have s:=Zui f q
 have l:=Zc3 q
 have b3:0≤bN f q:=by
  have d:mkRat 0 (2 ^ q)≤mkRat (bN f q) (2 ^ q):=by rw [Rat.zero_mkRat];exact bR E s
  rw [← bQ,Vs l l] at d
  rcases Int.lt_or_le (bN f q) 0 with h | h
  ·exact absurd (Int.mul_lt_mul_of_pos_right h (Int.ofNat_lt.2 (Nat.pos_of_ne_zero l))) d
  ·exact h
 obtain ⟨b,P⟩:∃ b:Nat,bN f q=(b:Int):=⟨(bN f q).natAbs,by omega⟩
 rw [P,eW] at O
 rw [P] at I s
 have Q:b<2 ^ q:=by
  have d:mkRat ((b:Int)+1) (2 ^ q)≤mkRat 1 1:=bR I G
  rw [← bQ,Vs (by decide) l] at d
  have H:((1:Nat):Int)=1:=rfl
  rw [H,fS,eZ] at d
  omega
 exact ⟨q,b,O,by omega,by omega,Q,s,I,g4⟩
theorem Z22 (w:List Int):((decide (w.length=n.2.1.length)&&Vr n w 0)=false→S5 N n w=some (⟨#[]⟩,3))∧
  (Xr n w→(decide (w.length=n.2.1.length)&&Vr n w 0)=true→
   ((Xm n w ord (0,1)).1=(Xm n w ord (0,1)).2→S5 N n w=some (⟨#[]⟩,52))∧
   ((Xm n w ord (0,1)).1≠(Xm n w ord (0,1)).2→∃ bits:ByteArray,S5 N n w=some (bits,0)∧bits.size≤64 * (1024 * (W+2)+2)+65∧∀ rest:ByteArray,(bits++rest).size≤1099511627776→Ze9 N n (bits++rest)=some (w,(bits.size:Int),0))):=by
 refine ⟨fun h=>?_,fun p r=>?_⟩
 ·obtain ⟨B,I⟩:=Ztu hf hs hr (by omega) (by omega) hC o1 ho (by omega) w
  have t:Za8 N (n.1,n.2.1,n.2.2.1,n.2.2.2.1,n.2.2.2.2) w=some (Zrq 3):=B h
  rw [S5,t,oB,Zrq,if_pos (by decide)]
 ·obtain ⟨C,D⟩:=Z64 hf hs hr hWK hN ho hol hKL hWc hC o1 p r
  refine ⟨C,fun u=>?_⟩
  obtain ⟨q,b,E,J,L,v,x,F,G⟩:=D u
  have c:(Vc (Wq b q)).size=q:=by rw [Zuo,Znu]
  refine ⟨_,E,by rw [c];omega,fun rest l=>?_⟩
  rw [c]
  have a:∀ j,j<q→Si (Vc (Wq b q)++rest) (j:Int)=some (48+((b / 2 ^ (q - 1 - j) % 2:Nat):Int)):=fun j d=>Z26 b q rest d
  have y:q≤(Vc (Wq b q)++rest).size:=by rw [ByteArray.size_append,c];omega
  generalize Vc (Wq b q)++rest=s at *
  have m:Xe s q=(mkRat (b:Int) (2 ^ q),mkRat ((b:Int)+1) (2 ^ q)):=by
   have:=Zww v a q (aV _)
   rw [Nat.sub_self,Nat.pow_zero,Nat.div_one] at this
   rw [Xe,this]
  have e:(Xm n w ord (0,1)).1≤(Xe s q).1:=by rw [m];exact x
  have f:(Xe s q).2≤(Xm n w ord (0,1)).2:=by rw [m];exact F
  have H:=Zwf hf ho hall (Zrn s q) p e f
  have A:Ue N (n.1,n.2.1,n.2.2.1,n.2.2.2.1,n.2.2.2.2)=some 0:=hC
  have o:=Z6b (e2:=0) hf hs hr hWK hN ho hol y (by omega) l H (fun j d=>?_) (fun j d=>?_) q 0 N (by omega) (by have:=hr.1;omega)
  ·rw [Zw0] at o
   rw [Ze9,A,oB,if_neg (by decide),o1,oB,Zoe (hr.mono (by omega)),oB,Zhn,oB]
   exact o
  ·have g:=Zro s j (q - j)
   rw [show j+(q - j)=q by omega] at g
   refine Z6c hf ho hall (Zrn s q) p e f g.1 g.2 (Zwy s j) (Z6k s j) fun k=>?_
   exact G j d (Z7c k.1 k.2)
  ·refine ⟨_,a j d,?_⟩
   rcases eJ (b / 2 ^ (q - 1 - j)) with h | h
   ·rw [h];exact .inl rfl
   ·rw [h];exact .inr rfl
end
def Ze8 (N:Nat) (a:R0):List (R0×R0)→Nat→Option Int
  | [],b=>some (-1)
  | c :: d,b=>(U1 N ((a.1.1,a.1.2),a.2) ((c.2.1.1,c.2.1.2),c.2.2)).bind fun e=>if (decide (e<0))=true then (some (b:Int)) else ((Ze8 N a d) (b+1))
def Zom (N:Nat) (c:Int) (a:Rc) (b:R0):Option Int:=
  Ze8 N b a 0
theorem Z29 (N:Nat) (col:Zg) (e:World) (i:Nat) (h:i≠0) (B:Int) (y:Option Addr) (C:Nat) (d:Rc) (n:Nat) (b:R0) (p:Option Addr) (q:Nat) (s:Option Addr) (t:Nat) (k:Sl (Zc.pair rQ rQ) col e y C d) (u:Sl rU col e p q b.1.2) (v:Sl rU col e s t b.2) (a:Zi 42 i col e n #[.bool b.1.1,.slice p b.1.2.length q,.slice s b.2.length t]) (r:Int) (c:Zom N B d b=some r):
    Calls prog 48 #[.int .i64 B,.slice y d.length C,.pointer (some ⟨n,0,none⟩)] e (W8 e r):=by
 refine Xk 5 (m:=22) func48 O O O O O ?_;rw [Zom.eq_1] at c;have f:=St.start col e;replace a:=a.start0 h;refine go ?_;refine Z0 [2,8,9,1000000] (fun T U F=>∃ D l o,T=o.length∧d.drop l=o∧Ze8 N b o l=some r∧St e (Zk col) D F∧Zi 42 999 D F n #[.bool b.1.1,.slice p b.1.2.length q,.slice s b.2.length t]∧[10].map U=[.int .i64 l]) d.length ⟨_,0,_,O,O,c,f,a,O⟩ ?_;clear c;intro T U F e;obtain ⟨D,l,o,J,x,c,f,a,L⟩:=e;subst J;refine .lL [10] L ?_;replace k:=k.k0;replace v:=v.k0
 cases o with
 | nil=>
  have m:¬ ((l:Int)<(d.length:Int)):=by have:=aF.1 x;omega
  have g:=decide_eq_false m;rw [Ze8.eq_1] at c;refine go ?_;refine Yd (congrArg Value.bool g)<|go ?_;cases c;exact ⟨O,O,f.below⟩
 | cons j ae=>
  obtain ⟨E,ai,aj⟩:=Yo x;have m:(l:Int)<(d.length:Int):=by omega
  have g:=decide_eq_true m;rw [Ze8.eq_2] at c;refine go ?_;refine Ye (congrArg Value.bool g)<|go ?_;refine lI E ((k.ks f).addr E) ?_;obtain ⟨_,H,ak⟩:=(k.ks f).atN E;obtain ⟨_,_,rfl,z,R⟩:=Yw H;obtain ⟨_,_,rfl,A,P⟩:=Yw z;obtain ⟨_,_,rfl,Z,I⟩:=Yw A;obtain ⟨rfl,_⟩:=Z;obtain ⟨⟨S,al,rfl,_⟩,_⟩:=I;obtain ⟨⟨am,an,rfl,_⟩,_⟩:=P;obtain ⟨_,_,rfl,G,Q⟩:=Yw R;obtain ⟨_,_,rfl,K,M⟩:=Yw G;obtain ⟨rfl,_⟩:=K;obtain ⟨⟨W,Y,rfl,ao⟩,_⟩:=M;obtain ⟨⟨V,X,rfl,ap⟩,_⟩:=Q;refine lV (.agg #[.bool j.1.1.1,.slice S j.1.1.2.length al,.slice am j.1.2.length an,.bool j.2.1.1,.slice W j.2.1.2.length Y,.slice V j.2.2.length X]) (Xi isAgg44 sizeOf44 O O ak)<|Xc (col:=D) #[.bool false,(nI),(nI),.bool false,(nI),(nI)] 1 zeroValue44 ?_;intro _ _ g A I;refine Yr O<|Zs I ?_;intro _ z S R;refine go ?_;replace a:=(a.gr A).kp z;refine lV _ (Zz isAgg42 sizeOf42 a)<|Xt ⟨_,_,O⟩ ?_;refine lV (.agg #[.bool j.2.1.1,.slice W j.2.1.2.length Y,.slice V j.2.2.length X]) (Xi isAgg42 sizeOf42 O O ((R.atN).part 3 3 _ O)) ?_;obtain ⟨_,P,c⟩:=bZ c;replace f:=(f.grow A).kp z S;refine Zh (Zdb P (u.k0.ks f) (v.ks f) ((ao.gr A).kp z) ((ap.gr A).kp z)) fun _ _ ⟨G,w⟩=>⟨_,G,?_⟩;replace w:=Ru g w;refine go ?_;replace f:=f.grow w;refine Zp c (fun H c=>go ?_) fun H c=>go ?_
  ·cases c;exact ⟨O,O,f.below⟩
  exact ⟨ae.length,by simp,O,⟨_,_,_,O,ai,c,f,a.gr w,(Yv (congrArg (Value.int .i64) (Yp (aG aj (k.ks f).1.1))) O)⟩⟩
def Zfd (N:Nat) (j:R1) (k:Bool) (l m:List Int) (s:Bool) (t u:List Int) (v:Bool) (w y n:List Int) (kk_L1:(Bool→R2→R2→Bool→R2→R2→Bool→R2→R2→Bool→R2→R2→Bool→R2→R2→R2→Option R7)) (b A:Int) (e:R0) (B:List ByteArray):Nat→Bool→R2→R2→Rc→Int→Option R7
  | 0,_,_,_,_,_=>none
  | C+1,f,g,i,d,o=>if (decide (o<(B.length:Int)))=true then ((Zn j.2.2.2.2 b).bind fun D=>(Zn j.2.2.1 b).bind fun E=>(Zn D (i64.wrap ((i64.wrap (A * (E.length:Int)))+o))).bind fun p=>(U2 N ((e.1.1,e.1.2),e.2) ((p.1.1,p.1.2),p.2)).bind fun q=>(Uk N ((f,g),i) ((q.1.1,q.1.2),q.2)).bind fun a=>Z1 ((d.length+[(((f,g),i),((a.1.1,a.1.2),a.2))].length) * 112≤140737488355328∧d.length+[(((f,g),i),((a.1.1,a.1.2),a.2))].length≤maxLen) ((Zfd N j k l m s t u v w y n kk_L1 b A e B C) a.1.1 a.1.2 a.2 (d++[(((f,g),i),((a.1.1,a.1.2),a.2))]) (i64.wrap (o+1)))) else ((Zom N b d ((k,l),m)).bind fun r=>if (decide (r<0))=true then (some (([]:List Int),(((false,([]:List Int)),([]:List Int)),((false,([]:List Int)),([]:List Int))),false)) else ((Zn d r).bind fun c=>(Zn n b).bind fun G=>(some (n.set (aA b) r)).bind fun F=>kk_L1 c.1.1.1 c.1.1.2 c.1.2 c.2.1.1 c.2.1.2 c.2.2 k l m s t u v w y F))
termination_by structural x=>x
def Zdq (N:Nat) (a:R1) (b:Bool) (c d:List Int) (i:Bool) (j k:List Int) (l:Bool) (m n:List Int) (o:Bool) (p q:List Int) (r:Bool) (s t e:List Int) (kk_L1:(Bool→R2→R2→Bool→R2→R2→Bool→R2→R2→Bool→R2→R2→Bool→R2→R2→R2→Option R7)) (f:Int):List Int→Int→Option R7
  | [],g=>(Qu N ((i,j),k) ((b,c),d)).bind fun v=>(Zn a.2.2.1 f).bind fun w=>Zfd N a l m n o p q r s t e kk_L1 f g v w N b c d ([]:List (R0×R0)) 0
  | u :: y,g=>(Zn a.2.2.1 u).bind fun A=>(Zn e u).bind fun B=>(Zdq N a b c d i j k l m n o p q r s t e kk_L1 f y) (i64.wrap ((i64.wrap (g * (A.length:Int)))+B))
termination_by structural x=>x
def Zah (N:Nat) (a:R1):List Int→Bool→R2→R2→Bool→R2→R2→Bool→R2→R2→Bool→R2→R2→Bool→R2→R2→R2→Option R7
  | [],b,c,d,e,f,g,j,k,l,m,n,o,p,q,r,i=>some (i,(((b,c),d),((e,f),g)),true)
  | s :: t,b,c,d,e,f,g,j,k,l,m,n,o,p,q,r,i=>(Zn a.2.2.2.1 s).bind fun u=>Zdq N a b c d e f g j k l m n o p q r i (Zah N a t) s u 0
termination_by structural x=>x
def Zh1 (N:Nat) (a:R1) (e:List Int) (b:R0):Option R7:=
  Z1 (a.2.1.length * 8≤281474976710656∧a.2.1.length≤maxLen) ((Zam N ([]:List R0)).bind fun c=>(Za9).bind fun d=>Zah N a e c.1.1 c.1.2 c.2 d.1.1 d.1.2 d.2 b.1.1 b.1.2 b.2 false ([]:List Int) ([]:List Int) false ([]:List Int) ([]:List Int) (aC a.2.1.length (0:Int)))
theorem Z3f {N c3 b8 c4 b9 er g3 es et:Nat} {c5 bs c6 bt a1 eu ew:Option Addr} {col:Zg} {Y:World} {s:R1} {ca:R2} {x:R0} {r:R7} (c1 qc3:Nat) (c:Zh1 N s ca x=some r) (hqqc3:qc3≠0) (ia:Sl Zc.str col Y c5 c3 s.2.1) (bu:Sl rV col Y bs b8 s.2.2.1) (dh:Sl rP col Y c6 c4 s.2.2.2.1) (di:Sl (Zc.slice rQ) col Y bt b9 s.2.2.2.2) (h1:Sl rI col Y a1 er ca) (dt:Sl rU col Y eu es x.1.2) (du:Sl rU col Y ew et x.2) (b:Zi 42 qc3 col Y g3 #[.bool x.1.1,.slice eu x.1.2.length es,.slice ew x.2.length et]):
    Calls prog 32 #[(.agg (Rt s c5 c3 bs b8 c6 c4 bt b9)),.slice a1 ca.length er,(.func (.func 48) #[] #[.pointer (some ⟨g3,0,none⟩)])] Y (fun e K=>∃ (col':Zg) (ra1:Option Addr) (rc2:Nat) (ra4:Option Addr) (rc5:Nat) (ra7:Option Addr) (rc8:Nat) (ra10:Option Addr) (x:Nat) (ra13:Option Addr) (rc14:Nat),e= .returned (.tuple #[.slice ra1 r.1.length rc2,(.agg #[.bool r.2.1.1.1.1,.slice ra4 r.2.1.1.1.2.length rc5,.slice ra7 r.2.1.1.2.length rc8,.bool r.2.1.2.1.1,.slice ra10 r.2.1.2.1.2.length x,.slice ra13 r.2.1.2.2.length rc14]),.bool r.2.2])∧Zl col Y col' K∧Zb rI 3 c1 col' K ra1 rc2 r.1∧Sl rU col' K ra4 rc5 r.2.1.1.1.2∧Sl rU col' K ra7 rc8 r.2.1.1.2∧Sl rU col' K ra10 x r.2.1.2.1.2∧Sl rU col' K ra13 rc14 r.2.1.2.2):=by
 refine Yb (m:=122) func32 O O O ?_;rw [Zh1.eq_1] at c;have d:=St.start col Y;replace b:=b.start0 hqqc3;refine go ?_;refine Xj (col:=(Zk col)) 1 O fun c7 _ x ey g=>So O<|Xc (col:=x) #[.bool false,(nI),(nI),.bool false,(nI),(nI)] 2 zeroValue44 ?_;intro dv e3 e4 dw i;refine go ?_;refine Xt ⟨_,_,O⟩ ?_;replace g:=g.gr dw;refine lW ((g.atN).nth (q:=1) O)<|go ?_;obtain ⟨x,c⟩:=Z5 c;refine T6 (col:=e4) (w:=e3) (r:=rI) (n:=s.2.1.length) (x0:=0) 3 O underlying28 Tryz.t3 O O O O O O O x.1 x.2 (Tx .i64 0) fun _ _ e5 dj au=>go ?_;obtain ⟨dx,x,c⟩:=bZ c;refine Zh (Zhj (col:=e5) 4 5 x Sl.nil) fun _ _ ⟨e7,e8,e9,fa,fb,e',c8,av,aw⟩=>⟨_,e',?_⟩;obtain ⟨x,fc,c⟩:=bZ c;refine lc O O (Sv call47) (Zhg (col:=e7) 6 7 fc:) fun _ _ ⟨fd,fe,ff,fg,fh,e',cb,ax,ay⟩=>⟨_,e',?_⟩;refine lV (.agg #[.bool dx.1.1,.slice e8 dx.1.2.length e9,.slice fa dx.2.length fb,.bool x.1.1,.slice fe x.1.2.length ff,.slice fg x.2.length fh]) (Yc (l:=[_,_]) (qs:=[(0,3),(3,3)]) underlying44 zeroValue44 ⟨O,sizeOf42,O,sizeOf42,trivial⟩ O)<|Xc (col:=fd) #[.bool false,(nI),(nI),.bool false,(nI),(nI)] 8 zeroValue44 ?_;intro dz _ _ bh x;refine Zs x fun _ x fj h=>go ?_;replace au:=(((au.gr c8).gr cb).gr bh).kp x;replace au:=au.froz 4;replace av:=((av.gr cb).gr bh).kp x;replace av:=(av).toSlF (Ze.int .u32);replace aw:=((aw.gr cb).gr bh).kp x;replace aw:=aw.froz 4;replace ax:=(ax.gr bh).kp x;replace ax:=ax.froz 4;replace ay:=(ay.gr bh).kp x;replace ay:=ay.froz 4;replace b:=((((((b.gr ey).gr dw).gr dj).gr c8).gr cb).gr bh).kp x;replace b:=b.froz 4;replace g:=((((g.gr dj).gr c8).gr cb).gr bh).kp x;replace g:=g.froz 4;replace i:=((((i.gr dj).gr c8).gr cb).gr bh).kp x;replace i:=i.froz 4;replace h:=h.froz 4
 replace d:=((((((d.grow ey).grow dw).grow dj).grow c8).grow cb).grow bh).kp x fj;replace d:=d.froz 4 (by decide) (by decide);replace au:=au.froz 5;replace av:=av.froz 5;replace aw:=(aw).toSlF (Ze.int .u32);replace ax:=ax.froz 5;replace ay:=ay.froz 5;replace b:=b.froz 5;replace g:=g.froz 5;replace i:=i.froz 5;replace h:=h.froz 5;replace d:=d.froz 5 (by decide) (by decide);replace au:=au.froz 6;replace av:=av.froz 6;replace aw:=aw.froz 6;replace ax:=(ax).toSlF (Ze.int .u32);replace ay:=ay.froz 6;replace b:=b.froz 6;replace g:=g.froz 6;replace i:=i.froz 6;replace h:=h.froz 6;replace d:=d.froz 6 (by decide) (by decide);replace b:=b.froz 7;replace g:=g.froz 7;replace i:=i.froz 7;replace h:=h.froz 7;replace d:=d.froz 7 (by decide) (by decide);replace du:=du.k0
 refine Z0 [10,2,29,3,30,7,1000000] (fun bl dk x=>∃ q bv bj bk w bm bn F cc bw bx Q bz b0 S b1 b2 b3 a2 b4 b5 a3 c9 cd ce cf T cg ch U ci cj ck V cl cn W co cp ba da,bl=da.length∧ca.drop c9=da∧Zah N s da bv w F cc Q S b1 a2 a3 cd T U ci V W ba=some r∧St Y (Zk col) q x∧Sl rU q x bj bk w∧Sl rU q x bm bn F∧Sl rU q x bw bx Q∧Sl rU q x bz b0 S∧Zi 44 8 q x dz #[.bool bv,.slice bj w.length bk,.slice bm F.length bn,.bool cc,.slice bw Q.length bx,.slice bz S.length b0]∧Sl rU q x b2 b3 a2∧Sl rU q x b4 b5 a3∧Zi 42 999 q x g3 #[.bool b1,.slice b2 a2.length b3,.slice b4 a3.length b5]∧Zi 27 1 q x c7 (Rt s c5 c3 bs b8 c6 c4 bt b9)∧Zb rU 119 9 q x ce cf T∧Zb rU 119 10 q x cg ch U∧Zb rU 119 11 q x cj ck V∧Zb rU 119 12 q x cl cn W∧Zi 44 2 q x dv #[.bool cd,.slice ce T.length cf,.slice cg U.length ch,.bool ci,.slice cj V.length ck,.slice cl W.length cn]∧Zb rI 3 3 q x co cp ba∧[31,9].map dk=[.int .i64 c9,.slice co ba.length cp]) ca.length ⟨_,_,_,_,_,_,_,_,_,_,_,_,_,_,_,_,_,_,_,_,_,_,0,_,none,0,_,none,0,_,_,none,0,_,none,0,_,_,_,_,_,O,O,c,d,av.froz 7,aw.froz 7,ax.froz 7,(ay).toSlF (Ze.int .u32),h,(dt.k0.ks d),(du.ks d),b,g,Zb.nil,Zb.nil,Zb.nil,Zb.nil,i,au.froz 7,O⟩ ?_;clear c;intro bl dk x hI;obtain ⟨q,bv,bj,bk,w,bm,bn,F,cc,bw,bx,Q,bz,b0,S,b1,b2,b3,a2,b4,b5,a3,c9,cd,ce,cf,T,cg,ch,U,ci,cj,ck,V,cl,cn,W,co,cp,ba,da,hn,hl,c,d,y,z,A,B,h,C,D,b,g,G,H,I,J,i,o,hs⟩:=hI;subst hn;refine .lL [31,9] hs ?_;replace bu:=bu.k0;replace dh:=dh.k0;replace di:=di.k0;replace h1:=h1.k0
 cases da with
 | nil=>
  have hk:¬ ((c9:Int)<(ca.length:Int)):=by have:=aF.1 hl;omega
  have R:=decide_eq_false hk;rw [Zah.eq_1] at c;refine go ?_;refine Yd (congrArg Value.bool R)<|go ?_;refine Ym (col:=q) [(0,1),(1,0),(2,1),(3,2),(4,1)] (by kernel_rfl) (by kernel_rfl)<|xu O O (fun _=>V8 O) ?_;refine xv O O (fun _ a=>Zz isAgg44 sizeOf44 (h.gr (a.bl q))) ?_;refine xu O O (fun _=>Zm6 O) ?_;refine xe O O ?_;intro _ p;have a:=p.bl q;replace i:=i.gr a;refine Zs i fun _ x fk d0=>Zj<|xk q<|xu O O (fun _=>Zbv O) ?_;refine Yf ?_;replace y:=(y.gr a).kp x;replace z:=(z.gr a).kp x;replace A:=(A.gr a).kp x;replace B:=(B.gr a).kp x;replace o:=(o.gr a).kp x;replace d:=(d.grow a).kp x fk;intro _ a;replace a:=a.bl q;refine Y5 ?_;cases c;replace y:=y.gr a;replace z:=z.gr a;replace A:=A.gr a;replace B:=B.gr a;replace o:=o.gr a;replace d:=d.grow a;exact ⟨O,_,Zki O O O O isAgg44 sizeOf44 O O (d0.gr a).atN O O,_,_,_,_,_,_,_,_,_,_,_,O,d.fin (cm [(3,c1)]),d.fo o,d.fs y,d.fs z,d.fs A,d.fs B⟩
 | cons b6 d1=>
  obtain ⟨cq,fl,fm⟩:=Yo hl;have hk:(c9:Int)<(ca.length:Int):=by omega
  have R:=decide_eq_true hk;rw [Zah.eq_2] at c;refine go ?_;refine Ye (congrArg Value.bool R)<|go ?_;refine lI cq ((h1.ks d).addr cq)<|lW ((h1.ks d).atInt cq) ?_;refine go ?_;refine Xp g<|Xy O ?_;obtain ⟨db,q,c⟩:=bZ c;refine lI q ((dh.ks d).addr q) ?_;obtain ⟨_,fn,fp⟩:=(dh.ks d).atN q;obtain ⟨⟨fq,fr,rfl,b7⟩,_⟩:=fn;refine lW fp.one<|go ?_;refine Z0 [10,12,2,29,3,30,31,39,40,7,9,1000000] (fun bl dk q=>∃ ex X dc dd,bl=dd.length∧db.drop dc=dd∧Zdq N s bv w F cc Q S b1 a2 a3 cd T U ci V W ba (Zah N s d1) b6 dd X=some r∧St Y (Zk col) ex q∧Sl rU ex q bj bk w∧Sl rU ex q bm bn F∧Sl rU ex q bw bx Q∧Sl rU ex q bz b0 S∧Zi 44 8 ex q dz #[.bool bv,.slice bj w.length bk,.slice bm F.length bn,.bool cc,.slice bw Q.length bx,.slice bz S.length b0]∧Sl rU ex q b2 b3 a2∧Sl rU ex q b4 b5 a3∧Zi 42 999 ex q g3 #[.bool b1,.slice b2 a2.length b3,.slice b4 a3.length b5]∧Zi 27 1 ex q c7 (Rt s c5 c3 bs b8 c6 c4 bt b9)∧Sl rI ex q fq fr db∧Zb rU 119 9 ex q ce cf T∧Zb rU 119 10 ex q cg ch U∧Zb rU 119 11 ex q cj ck V∧Zb rU 119 12 ex q cl cn W∧Zi 44 2 ex q dv #[.bool cd,.slice ce T.length cf,.slice cg U.length ch,.bool ci,.slice cj V.length ck,.slice cl W.length cn]∧Zb rI 3 3 ex q co cp ba∧[41,13].map dk=[.int .i64 dc,.int .i64 X]) db.length ⟨_,0,0,_,O,O,c,d,y,z,A,B,h,C,D,b,g,b7,G,H,I,J,i,o,O⟩ ?_;clear c;intro bl dk q hI;obtain ⟨ex,X,dc,dd,hn,hl,c,d,y,z,A,B,h,C,D,b,g,b7,G,H,I,J,i,o,hs⟩:=hI;subst hn;refine .lL [41,13] hs ?_
  cases dd with
  | nil=>
   have hk:¬ ((dc:Int)<(db.length:Int)):=by have:=aF.1 hl;omega
   have R:=decide_eq_false hk;rw [Zdq.eq_1] at c;refine go ?_;refine Yd (congrArg Value.bool R)<|go ?_;refine Xt ⟨_,_,O⟩ ?_;refine lV (.agg #[.bool cc,.slice bw Q.length bx,.slice bz S.length b0]) (Xi isAgg42 sizeOf42 O O ((h.atN).part 3 3 _ O))<|Xt ⟨_,_,O⟩ ?_;refine lV (.agg #[.bool bv,.slice bj w.length bk,.slice bm F.length bn]) (Xi isAgg42 sizeOf42 O O ((h.atN).part 0 3 _ O)) ?_;obtain ⟨bo,q,c⟩:=bZ c;refine Zh (Zn2 13 14 q A B y z) fun _ _ ⟨q,d3,d4,d5,d6,e',E,fo,fs⟩=>⟨_,e',?_⟩;refine Xc (col:=q) #[.bool false,(nI),(nI)] 15 zeroValue42 fun fv _ x u q=>Zs q fun _ t fy P=>go ?_;refine Xt ⟨_,_,O⟩ ?_;replace h:=((h.gr E).gr u).kp t;refine lV (.agg #[.bool bv,.slice bj w.length bk,.slice bm F.length bn]) (Xi isAgg42 sizeOf42 O O ((h.atN).part 0 3 _ O))<|Xc (col:=x) #[.bool false,(nI),(nI)] 16 zeroValue42 ?_;intro fz _ _ n q;refine Zs q fun _ m x gn=>go ?_;refine Xt ⟨_,_,O⟩ ?_;replace g:=((((g.gr E).gr u).kp t).gr n).kp m;refine lW ((g.atN).nth (q:=2) O)<|Xy O ?_;obtain ⟨f2,q,c⟩:=bZ c;replace d:=((((d.grow E).grow u).kp t fy).grow n).kp m x;refine lI q ((bu.ks d).addr q) ?_;obtain ⟨_,f3,f4⟩:=(bu.ks d).atN q;obtain ⟨⟨_,_,rfl,_⟩,_⟩:=f3;refine lW f4.one<|go ?_;replace y:=((((y.gr E).gr u).kp t).gr n).kp m;replace z:=((((z.gr E).gr u).kp t).gr n).kp m;replace A:=((((A.gr E).gr u).kp t).gr n).kp m;replace B:=((((B.gr E).gr u).kp t).gr n).kp m;replace C:=((((C.gr E).gr u).kp t).gr n).kp m;replace D:=((((D.gr E).gr u).kp t).gr n).kp m;replace G:=((((G.gr E).gr u).kp t).gr n).kp m;replace H:=((((H.gr E).gr u).kp t).gr n).kp m;replace I:=((((I.gr E).gr u).kp t).gr n).kp m;replace J:=((((J.gr E).gr u).kp t).gr n).kp m;replace o:=((((o.gr E).gr u).kp t).gr n).kp m
   replace b:=((((b.gr E).gr u).kp t).gr n).kp m;replace i:=((((i.gr E).gr u).kp t).gr n).kp m;replace fo:=(((fo.gr u).kp t).gr n).kp m;replace fs:=(((fs.gr u).kp t).gr n).kp m;replace h:=(h.gr n).kp m;replace P:=(P.gr n).kp m
   refine Z0 [10,12,13,16,17,2,29,3,30,31,7,71,9,1000000] (fun bl dk k=>∃ j bc cr ct Z cu cv be dl dm de cw c0,c0=bl∧Zfd N s b1 a2 a3 cd T U ci V W ba (Zah N s d1) b6 X bo f2 c0 bc Z be de cw=some r∧St Y (Zk col) j k∧Sl rU j k bj bk w∧Sl rU j k bm bn F∧Sl rU j k bw bx Q∧Sl rU j k bz b0 S∧Zi 44 8 j k dz #[.bool bv,.slice bj w.length bk,.slice bm F.length bn,.bool cc,.slice bw Q.length bx,.slice bz S.length b0]∧Zb rU 119 13 j k d3 d4 bo.1.2∧Zb rU 119 14 j k d5 d6 bo.2∧Zi 42 15 j k fv #[.bool bo.1.1,.slice d3 bo.1.2.length d4,.slice d5 bo.2.length d6]∧Sl rU j k cr ct Z∧Sl rU j k cu cv be∧Zi 42 16 j k fz #[.bool bc,.slice cr Z.length ct,.slice cu be.length cv]∧Zb (Zc.pair rQ rQ) 44 17 j k dl dm de∧Sl rU j k b2 b3 a2∧Sl rU j k b4 b5 a3∧Zi 42 999 j k g3 #[.bool b1,.slice b2 a2.length b3,.slice b4 a3.length b5]∧Zi 27 1 j k c7 (Rt s c5 c3 bs b8 c6 c4 bt b9)∧Zb rU 119 9 j k ce cf T∧Zb rU 119 10 j k cg ch U∧Zb rU 119 11 j k cj ck V∧Zb rU 119 12 j k cl cn W∧Zi 44 2 j k dv #[.bool cd,.slice ce T.length cf,.slice cg U.length ch,.bool ci,.slice cj V.length ck,.slice cl W.length cn]∧Zb rI 3 3 j k co cp ba∧[18,72].map dk=[.slice dl de.length dm,.int .i64 cw]) N ⟨_,_,_,_,_,_,_,_,none,0,_,0,_,O,c,d,y,z,A,B,h,fo,fs,P,y,z,gn,Zb.nil,C,D,b,g,G,H,I,J,i,o,O⟩ ?_;clear c;intro bl dk k hI
   obtain ⟨j,bc,cr,ct,Z,cu,cv,be,dl,dm,de,cw,c0,hn,c,d,y,z,A,B,h,fo,fs,P,L,M,gn,l,C,D,b,g,G,H,I,J,i,o,hs⟩:=hI;subst hn;refine .lL [18,72] hs ?_
   cases c0 with
   | zero=>rw [Zfd.eq_1] at c;cases c
   | succ c0=>
    rw [Zfd.eq_2] at c;refine go ?_;refine Zp c (fun hb c=>go ?_) fun hb c=>go ?_
    ·have v:=Zu.clip (fun _=>false) j k;refine Zbz (col:=j) [(0,0),(1,0),(2,1),(3,0),(4,1),(5,1),(6,0),(7,1),(8,1),(9,0),(10,1),(11,1),(12,0),(13,1),(14,1),(15,1),(16,1),(17,1),(18,0),(19,3),(20,3),(21,4),(22,2)] (by kernel_rfl) (by kernel_rfl) ⟨fun f=>absurd f (by decide),fun f=>absurd f (by decide),fun f=>absurd f (by decide),fun f=>absurd f (by decide),fun f=>absurd f (by decide),fun f=>absurd f (by decide),fun f=>absurd f (by decide),fun f=>absurd f (by decide),fun f=>absurd f (by decide),fun f=>absurd f (by decide),fun f=>absurd f (by decide),fun f=>absurd f (by decide),fun f=>absurd f (by decide),fun f=>absurd f (by decide),fun f=>absurd f (by decide),fun f=>absurd f (by decide),fun f=>absurd f (by decide),fun f=>absurd f (by decide),fun f=>absurd f (by decide),fun f=>absurd f (by decide),fun f=>absurd f (by decide),fun _=>⟨_,_,_,O,V5 zeroValue42⟩,fun f=>absurd f (by decide),trivial⟩ ?_;replace gn:=gn.kpp v;refine Wa (v:=(.agg #[.bool bc,.slice cr Z.length ct,.slice cu be.length cv])) O O (fun _ a=>Xi isAgg42 sizeOf42 O O (gn.atN.gr (a.bl (Zd k j)))) ?_;replace P:=P.kpp v;refine Wa (v:=(.agg #[.bool bo.1.1,.slice d3 bo.1.2.length d4,.slice d5 bo.2.length d6])) O O (fun _ a=>Xi isAgg42 sizeOf42 O O (P.atN.gr (a.bl (Zd k j)))) ?_;refine X3 (v:=(.pointer ((some (⟨c7,0,none⟩:Addr)).map (·.add 4)))) O O (fun _=>Un (sz:=1) (off:=4) underlying27 O sizeOf25 (by decide) O O ⟨_,_,O⟩) ?_;replace g:=g.kpp v;refine Wa (v:=(.slice bt s.2.2.2.2.length b9)) O O (fun _ a=>Tu isAgg25 O (((g.atN).nth (q:=4) (v:=(.slice bt s.2.2.2.2.length b9)) O).gr (a.bl (Zd k j)))) ?_;refine X3 (v:=(.int .i64 b6)) O O (fun _=>Wn O) ?_;obtain ⟨f5,n,c⟩:=bZ c;replace d:=d.kpp v;refine X3 (v:=(X5 bt (aA b6 * 1))) O O (fun _=>Wd underlying25 sizeOf58 O O (Xo n).1 (Xo n).2.1 ((di.ks d).addr n)) ?_;obtain ⟨_,f6,f7⟩:=(di.ks d).atN n;obtain ⟨⟨e0,f8,rfl,e1⟩,_⟩:=f6;refine Wa (v:=(.slice e0 f5.length f8)) O O (fun _ a=>Tu isAgg58 O (f7.one.gr (a.bl (Zd k j)))) ?_;refine X3 (v:=(.int .i64 X)) O O (fun _=>Wn O) ?_;refine X3 (v:=(.pointer ((some (⟨c7,0,none⟩:Addr)).map (·.add 2)))) O O (fun _=>Un (sz:=1) (off:=2) underlying27 O sizeOf23 (by decide) O O ⟨_,_,O⟩) ?_
     refine Wa (v:=(.slice bs s.2.2.1.length b8)) O O (fun _ a=>Tu isAgg23 O (((g.atN).nth (q:=2) (v:=(.slice bs s.2.2.1.length b8)) O).gr (a.bl (Zd k j)))) ?_;refine X3 (v:=(.int .i64 b6)) O O (fun _=>Wn O) ?_;obtain ⟨cx,m,c⟩:=bZ c;refine X3 (v:=(X5 bs (aA b6 * 1))) O O (fun _=>Wd underlying23 sizeOf22 O O (Xo m).1 (Xo m).2.1 ((bu.ks d).addr m)) ?_;obtain ⟨_,f9,ga⟩:=(bu.ks d).atN m;obtain ⟨⟨gb,gc,rfl,_⟩,_⟩:=f9;refine Wa (v:=(.slice gb cx.length gc)) O O (fun _ a=>Tu isAgg22 O (ga.one.gr (a.bl (Zd k j)))) ?_;refine X3 (v:=(.int .i64 cx.length)) O O (fun _=>Q4 underlying22 O) ?_;refine X3 (v:=(.int .i64 (i64.wrap (X * (cx.length:Int))))) O O (fun _=>Zew X (cx.length:Int) O O) ?_;refine X3 (v:=(.int .i64 cw)) O O (fun _=>Wn O) ?_;refine X3 (v:=(.int .i64 (i64.wrap ((i64.wrap (X * (cx.length:Int)))+cw)))) O O (fun _=>Qg (i64.wrap (X * (cx.length:Int))) cw O O) ?_;obtain ⟨d8,t,c⟩:=bZ c;refine X3 (v:=(X5 e0 (aA (i64.wrap ((i64.wrap (X * (cx.length:Int)))+cw)) * 3))) O O (fun _=>Wd underlying58 sizeOf42 O O (Xo t).1 (Xo t).2.1 (e1.addr t)) ?_;obtain ⟨_,gd,ge⟩:=e1.atN t;obtain ⟨_,_,rfl,gf,gg⟩:=Yw gd;obtain ⟨_,_,rfl,gh,gi⟩:=Yw gf;obtain ⟨rfl,_⟩:=gh;obtain ⟨⟨gj,gk,rfl,d9⟩,_⟩:=gi;obtain ⟨⟨gl,gm,rfl,ea⟩,_⟩:=gg;refine Wa (v:=(.agg #[.bool d8.1.1,.slice gj d8.1.2.length gk,.slice gl d8.2.length gm])) O O (fun _ a=>Xi isAgg42 sizeOf42 O O (ge.gr (a.bl (Zd k j)))) ?_;refine Y6 O O ?_;intro m p;have a:=p.bl (Zd k j);obtain ⟨_,F,c⟩:=bZ c;replace fo:=(fo.kpp v).gr a;replace fs:=(fs.kpp v).gr a;refine Zh (Ze1 18 19 F ((fo.toSlF (Ze.int .u32)).froz 14) ((fs.froz 13).toSlF (Ze.int .u32)) (((d9.gr a).froz 13).froz 14) (((ea.gr a).froz 13).froz 14)) fun _ n ⟨V,_,_,_,_,e',w,u,E⟩=>⟨_,e',?_⟩;replace u:=u.thaw (Zt .u32) w (((Fz.refl (col:=(Zd k j))).froz 13).froz 14)
     replace E:=E.thaw (Zt .u32) w (((Fz.refl (col:=(Zd k j))).froz 13).froz 14);replace w:=w.thawR (col:=(Zd k j));generalize Z2 m.heap.size (Zd k j) V=t at *;refine Zj ?_;refine ⟨fun K=>Zl (Zd n t) n (Zd n t) K,fun q=>(Zd n t) q=497,Zl.refl _ _,Y3,fun _=>⟨fun _ f=>Wt p w f,fun T hb=>w.below.block T hb,fun q S Y=>Wy w q S (by first | exact Y | (simp only [Xg,Y];rfl) | (simp only [Xg,Xq,Y];rfl))⟩,?_⟩;have V:=Zu.clip (fun _=>false) t n;refine Y6 O O ?_;intro U p;replace y:=(((y.kpp v).gr a).gr w).kpp V;replace z:=(((z.kpp v).gr a).gr w).kpp V;replace A:=(((A.kpp v).gr a).gr w).kpp V;replace B:=(((B.kpp v).gr a).gr w).kpp V;replace L:=(((L.kpp v).gr a).gr w).kpp V;replace M:=(((M.kpp v).gr a).gr w).kpp V;replace l:=(((l.kpp v).gr a).gr w).kpp V;replace C:=(((C.kpp v).gr a).gr w).kpp V;replace D:=(((D.kpp v).gr a).gr w).kpp V;replace G:=(((G.kpp v).gr a).gr w).kpp V;replace H:=(((H.kpp v).gr a).gr w).kpp V;replace I:=(((I.kpp v).gr a).gr w).kpp V;replace J:=(((J.kpp v).gr a).gr w).kpp V;replace o:=(((o.kpp v).gr a).gr w).kpp V;replace h:=(((h.kpp v).gr a).gr w).kpp V;replace b:=(((b.kpp v).gr a).gr w).kpp V;replace i:=(((i.kpp v).gr a).gr w).kpp V;replace P:=((P.gr a).gr w).kpp V;replace gn:=((gn.gr a).gr w).kpp V;replace g:=((g.gr a).gr w).kpp V;replace d:=((d.grow a).grow w).kpp V;have a:=p.bl (Zd n t);obtain ⟨F,Q,c⟩:=bZ c;replace L:=L.gr a;replace M:=M.gr a;refine Zh (Zb3 20 21 Q ((L.froz 18).froz 19) ((M.froz 18).froz 19) ((((u.kpp V).gr a).toSlF (Ze.int .u32)).froz 19) ((((E.kpp V).gr a).froz 18).toSlF (Ze.int .u32))) fun _ Q ⟨X,W,x,ed,ee,e',v,k,m⟩=>⟨_,e',?_⟩;replace k:=k.thaw (Zt .u32) v (((Fz.refl (col:=(Zd n t))).froz 18).froz 19);replace m:=m.thaw (Zt .u32) v (((Fz.refl (col:=(Zd n t))).froz 18).froz 19)
     replace v:=v.thawR (col:=(Zd n t));generalize Z2 U.heap.size (Zd n t) X=X at *;refine Zj ?_;refine ⟨fun K=>Zl (Zd Q X) Q (Zd Q X) K,fun q=>(Zd Q X) q=497,Zl.refl _ _,Y3,fun _=>⟨fun _ f=>Wt p v f,fun T hb=>v.below.block T hb,fun q S Y=>Wy v q S (by first | exact Y | (simp only [Xg,Y];rfl) | (simp only [Xg,Xq,Y];rfl))⟩,?_⟩;have T:=Zu.clip (fun _=>false) X Q;refine Zaw O O (V5 zeroValue42) fun u t=>Y6 O O ?_;intro E ⟨p,hZ0⟩;replace fo:=((((fo.gr w).kpp V).gr a).gr v).kpp T;replace fs:=((((fs.gr w).kpp V).gr a).gr v).kpp T;replace y:=((y.gr a).gr v).kpp T;replace z:=((z.gr a).gr v).kpp T;replace A:=((A.gr a).gr v).kpp T;replace B:=((B.gr a).gr v).kpp T;replace l:=((l.gr a).gr v).kpp T;replace C:=((C.gr a).gr v).kpp T;replace D:=((D.gr a).gr v).kpp T;replace G:=((G.gr a).gr v).kpp T;replace H:=((H.gr a).gr v).kpp T;replace I:=((I.gr a).gr v).kpp T;replace J:=((J.gr a).gr v).kpp T;replace o:=((o.gr a).gr v).kpp T;replace h:=((h.gr a).gr v).kpp T;replace P:=((P.gr a).gr v).kpp T;replace gn:=((gn.gr a).gr v).kpp T;replace b:=((b.gr a).gr v).kpp T;replace g:=((g.gr a).gr v).kpp T;replace i:=((i.gr a).gr v).kpp T;replace d:=((d.grow a).grow v).kpp T;have a:=p.bl (Zd Q X);obtain ⟨U,p⟩:=Q7 (col:=(Zd Q X)) 22 hZ0 t;replace p:Zi 42 22 (Zx u 22 (Zd Q X)) E u #[.bool false,(nI),(nI)]:=p;refine Zs p fun p S w E=>Zj ?_;refine ⟨fun K=>Zl (Zd p (Zx u 22 (Zd Q X))) p (Zd p (Zx u 22 (Zd Q X))) K,fun q=>(Zd p (Zx u 22 (Zd Q X))) q=497,Zl.refl _ _,Y3,fun f=>absurd f (by decide),?_⟩;have K:=Zu.clip (fun _=>false) (Zx u 22 (Zd Q X)) p;refine Zb1 ?_;replace L:=(((((L.gr v).kpp T).gr a).kpp U).kp S).kpp K;replace M:=(((((M.gr v).kpp T).gr a).kpp U).kp S).kpp K;replace k:=((((k.kpp T).gr a).kpp U).kp S).kpp K;replace m:=((((m.kpp T).gr a).kpp U).kp S).kpp K;replace y:=(((y.gr a).kpp U).kp S).kpp K
     replace z:=(((z.gr a).kpp U).kp S).kpp K;replace A:=(((A.gr a).kpp U).kp S).kpp K;replace B:=(((B.gr a).kpp U).kp S).kpp K;replace fo:=(((fo.gr a).kpp U).kp S).kpp K;replace fs:=(((fs.gr a).kpp U).kp S).kpp K;replace l:=(((l.gr a).kpp U).kp S).kpp K;replace C:=(((C.gr a).kpp U).kp S).kpp K;replace D:=(((D.gr a).kpp U).kp S).kpp K;replace G:=(((G.gr a).kpp U).kp S).kpp K;replace H:=(((H.gr a).kpp U).kp S).kpp K;replace I:=(((I.gr a).kpp U).kp S).kpp K;replace J:=(((J.gr a).kpp U).kp S).kpp K;replace o:=(((o.gr a).kpp U).kp S).kpp K;replace h:=(((h.gr a).kpp U).kp S).kpp K;replace P:=(((P.gr a).kpp U).kp S).kpp K;replace gn:=(((gn.gr a).kpp U).kp S).kpp K;replace b:=(((b.gr a).kpp U).kp S).kpp K;replace g:=(((g.gr a).kpp U).kp S).kpp K;replace i:=(((i.gr a).kpp U).kp S).kpp K;replace d:=(((d.grow a).kpp U).kp S w).kpp K;intro U a;replace a:Zl (Zd p (Zx u 22 (Zd Q X))) p (Zd p (Zx u 22 (Zd Q X))) U:=.of_below a.below;refine go ?_;replace gn:=gn.gr a;refine lV _ (Zz isAgg42 sizeOf42 gn) ?_;replace E:=(E.kpp K).gr a;refine lV _ (Zz isAgg42 sizeOf42 E)<|lV (.agg #[.bool bc,.slice cr Z.length ct,.slice cu be.length cv,.bool F.1.1,.slice W F.1.2.length x,.slice ed F.2.length ee]) (Yc (l:=[_,_]) (qs:=[(0,3),(3,3)]) underlying44 zeroValue44 ⟨O,sizeOf42,O,sizeOf42,trivial⟩ O) ?_;replace y:=y.gr a;replace y:=y.froz 21;replace z:=z.gr a;replace z:=z.froz 21;replace A:=A.gr a;replace A:=A.froz 21;replace B:=B.gr a;replace B:=B.froz 21;replace fo:=fo.gr a;replace fo:=fo.froz 21;replace fs:=fs.gr a;replace fs:=fs.froz 21;replace L:=L.gr a;replace L:=L.froz 21;replace M:=M.gr a;replace M:=M.froz 21;replace C:=C.gr a;replace C:=C.froz 21;replace D:=D.gr a;replace D:=D.froz 21;replace G:=G.gr a;replace G:=G.froz 21;replace H:=H.gr a;replace H:=H.froz 21;replace I:=I.gr a;replace I:=I.froz 21;replace J:=J.gr a;replace J:=J.froz 21;replace o:=o.gr a;replace o:=o.froz 21
     replace k:=k.gr a;replace k:=k.froz 21;replace m:=m.gr a;replace m:=(m).toSlF (Ze.int .u32);replace l:=l.gr a;replace l:=l.froz 21;replace h:=h.gr a;replace h:=h.froz 21;replace P:=P.gr a;replace P:=P.froz 21;replace gn:=gn.froz 21;replace b:=b.gr a;replace b:=b.froz 21;replace g:=g.gr a;replace g:=g.froz 21;replace i:=i.gr a;replace i:=i.froz 21;replace E:=E.froz 21;replace d:=d.grow a;replace d:=d.froz 21 (by decide) (by decide);replace y:=y.froz 20;replace z:=z.froz 20;replace A:=A.froz 20;replace B:=B.froz 20;replace fo:=fo.froz 20;replace fs:=fs.froz 20;replace C:=C.froz 20;replace D:=D.froz 20;replace G:=G.froz 20;replace H:=H.froz 20;replace I:=I.froz 20;replace J:=J.froz 20;replace o:=o.froz 20;replace k:=(k).toSlF (Ze.int .u32);replace m:=m.froz 20;replace l:=l.froz 20;replace h:=h.froz 20;replace P:=P.froz 20;replace gn:=gn.froz 20;replace b:=b.froz 20;replace g:=g.froz 20;replace i:=i.froz 20;replace E:=E.froz 20;replace d:=d.froz 20 (by decide) (by decide);refine Ui (col:=(Xg 20 (Xg 21 (Zd p (Zx u 22 (Zd Q X)))))) (r:=(Zc.pair rQ rQ)) (xs:=[(((bc,Z),be),((F.1.1,F.1.2),F.2))]) [(.agg #[.bool bc,.slice cr Z.length ct,.slice cu be.length cv,.bool F.1.1,.slice W F.1.2.length x,.slice ed F.2.length ee])] 23 (Wf.ofF (Rows.consF (r:=(Zc.pair rQ rQ)) (x:=(((bc,Z),be),((F.1.1,F.1.2),F.2))) (cs:=[.bool bc,.slice cr Z.length ct,.slice cu be.length cv,.bool F.1.1,.slice W F.1.2.length x,.slice ed F.2.length ee]) (Vz (Vz (Vz (Se bc) (Uv (L.froz 20))) (Uv (M.froz 20))) (Vz (Vz (Se F.1.1) (Uv k)) (Uv m))) Rows.nil0)) ?_
     intro _ _ _ W w;obtain ⟨K,c⟩:=Z5 c;replace l:=l.gr W;refine Vw l (w.srcN (NB.pair (NB.pair (NB.pair NB.bool NB.slice) NB.slice) (NB.pair (NB.pair NB.bool NB.slice) NB.slice))) K fun _ _ _ _ Z p=>go ?_;refine lV _ (Zz isAgg42 sizeOf42 ((E.gr W).kpp Z)) ?_;refine Zs ((gn.gr W).kpp Z) fun _ f M n=>go ?_;replace y:=((y.gr W).kpp Z).kp f;replace z:=((z.gr W).kpp Z).kp f;replace A:=((A.gr W).kpp Z).kp f;replace B:=((B.gr W).kpp Z).kp f;replace C:=((C.gr W).kpp Z).kp f;replace D:=((D.gr W).kpp Z).kp f;replace G:=((G.gr W).kpp Z).kp f;replace H:=((H.gr W).kpp Z).kp f;replace I:=((I.gr W).kpp Z).kp f;replace J:=((J.gr W).kpp Z).kp f;replace o:=((o.gr W).kpp Z).kp f;replace h:=((h.gr W).kpp Z).kp f;replace b:=((b.gr W).kpp Z).kp f;replace g:=((g.gr W).kpp Z).kp f;replace i:=((i.gr W).kpp Z).kp f;replace d:=((d.grow W).kpp Z).kp f M;exact ⟨c0,by omega,O,⟨_,_,_,_,_,_,_,_,_,_,_,_,_,O,c,d,y,z,A,B,h,((fo.gr W).kpp Z).kp f,((fs.gr W).kpp Z).kp f,((P.gr W).kpp Z).kp f,((k.gr W).kpp Z).kp f,((m.gr W).kpp Z).kp f,n,p.kp f,C,D,b,g,G,H,I,J,i,o,O⟩⟩
    refine lM (.func (.func 48) #[] #[.pointer (some ⟨g3,0,none⟩)])<|go ?_;obtain ⟨eh,L,c⟩:=bZ c;refine lc O O (Zs7 call48 O O O) (Z29 N (Xg 17 j) _ 999 (by decide) b6 dl dm de g3 ((b1,a2),a3) b2 b3 b4 b5 (l.toSlF (Ze.pair (Ze.pair (Ze.pair Ze.bool Ze.slice) Ze.slice) (Ze.pair (Ze.pair Ze.bool Ze.slice) Ze.slice))) (C.froz 17) (D.froz 17) (b.froz 17) eh L) fun _ _ ⟨e',L⟩=>⟨_,e',?_⟩;replace L:=Ru j L;refine go ?_;replace l:=l.gr L;replace C:=C.gr L;replace D:=D.gr L;replace G:=G.gr L;replace H:=H.gr L;replace I:=I.gr L;replace J:=J.gr L;replace o:=o.gr L;replace h:=h.gr L;replace b:=b.gr L;replace g:=g.gr L;replace i:=i.gr L;replace d:=d.grow L;refine Zp c (fun hb c=>go ?_) fun hb c=>go ?_
    ·refine lV (.agg #[.bool false,(nI),(nI),.bool false,(nI),(nI)]) (Yc (l:=[_,_]) (qs:=[(0,3),(3,3)]) underlying44 zeroValue44 ⟨O,sizeOf42,O,sizeOf42,trivial⟩ O)<|So O<|Zs i ?_;intro _ g8 g9 ha;refine go ?_;cases c;replace d:=d.kp g8 g9;exact ⟨O,_,Zki O O O O isAgg44 sizeOf44 O O ha.atN O O,_,none,0,none,0,none,0,none,0,none,0,O,d.fin (cm []),Zb.nil,Sl.nil,Sl.nil,Sl.nil,Sl.nil⟩
    obtain ⟨c2,f,c⟩:=bZ c;refine lI f (l.addr f) ?_;obtain ⟨_,hc,hd⟩:=l.atN f;obtain ⟨_,_,rfl,he,hf⟩:=hc.parts;obtain ⟨_,_,rfl,hg,hh⟩:=he.parts;obtain ⟨_,_,rfl,hi,hj⟩:=hg.parts;obtain rfl:=hi.bool;obtain ⟨ho,hp,rfl,ej⟩:=hj.slice;obtain ⟨hq,hr,rfl,ek⟩:=hh.slice;obtain ⟨_,_,rfl,ht,hu⟩:=hf.parts;obtain ⟨_,_,rfl,hv,hw⟩:=ht.parts;obtain rfl:=hv.bool;obtain ⟨hx,hy,rfl,el⟩:=hw.slice;obtain ⟨hz,h0,rfl,em⟩:=hu.slice;refine lV (.agg #[.bool c2.1.1.1,.slice ho c2.1.1.2.length hp,.slice hq c2.1.2.length hr,.bool c2.2.1.1,.slice hx c2.2.1.2.length hy,.slice hz c2.2.2.length h0]) (Xi isAgg44 sizeOf44 O O hd) ?_;obtain ⟨_,k,c⟩:=bZ c;refine lI k (o.addr k) ?_;obtain ⟨l,j,c⟩:=bZ c;have j:l=ba.set (aA b6) eh:=(Option.some.inj j).symm;refine Wc (x1:=eh) o k ?_;intro _ P Y v;rw [← j] at v;refine .ld (d:=9) (v:=(.slice co l.length cp)) (congrArg (fun bl=>Value.slice co bl cp) (show ba.length=l.length by rw [j,nS])) ?_;replace h:=h.kp P;refine Zs h fun _ M j Z=>go ?_;replace C:=(C.kp P).kp M;replace D:=(D.kp P).kp M;replace G:=(G.kp P).kp M;replace H:=(H.kp P).kp M;replace I:=(I.kp P).kp M;replace J:=(J.kp P).kp M;replace b:=(b.kp P).kp M;replace g:=(g.kp P).kp M;replace i:=(i.kp P).kp M;replace d:=(d.kp P Y).kp M j;exact ⟨d1.length,by simp,O,⟨_,_,_,_,_,_,_,_,_,_,_,_,_,_,_,_,_,_,_,_,_,_,_,_,_,_,_,_,_,_,_,_,_,_,_,_,_,_,_,_,_,O,fl,c,d,(ej.kp P).kp M,(ek.kp P).kp M,(el.kp P).kp M,(em.kp P).kp M,Z,C,D,b,g,G,H,I,J,i,v.kp M,(Yv (congrArg (Value.int .i64) (Yp (aG fm (h1.ks d).1.1))) O)⟩⟩
  | cons P h5=>
   obtain ⟨cq,h6,h7⟩:=Yo hl;have hk:(dc:Int)<(db.length:Int):=by omega
   have R:=decide_eq_true hk;rw [Zdq.eq_2] at c;refine go ?_;refine Ye (congrArg Value.bool R)<|go ?_;refine lI cq (b7.addr cq)<|lW (b7.atInt cq) ?_;refine go ?_;refine Vp (col:=ex) (by kernel_rfl) (by kernel_rfl)<|go ?_;refine qF ⟨_,_,O⟩ ?_;refine qW (fun _ a=>((g.atN).nth (q:=2) O).gr (a.bl ex)) ?_;refine go ?_;obtain ⟨_,R,c⟩:=bZ c;refine qI R ((bu.ks d).addr R) ?_;obtain ⟨_,h8,h9⟩:=(bu.ks d).atN R;obtain ⟨⟨_,_,rfl,_⟩,_⟩:=h8;refine qW (fun _ a=>h9.one.gr (a.bl ex)) ?_;refine go ?_;obtain ⟨_,l,c⟩:=bZ c;refine qI l (o.addr l)<|qW (fun _ a=>(o.gr (a.bl ex)).atInt l) ?_;refine go ?_;refine Wj ?_;intro _ a;replace a:=a.bl ex;refine go ?_;replace b7:=b7.gr a;exact ⟨h5.length,by simp,O,⟨_,_,_,_,O,h6,c,d.grow a,y.gr a,z.gr a,A.gr a,B.gr a,h.gr a,C.gr a,D.gr a,b.gr a,g.gr a,b7,G.gr a,H.gr a,I.gr a,J.gr a,i.gr a,o.gr a,(Yv (congrArg (Value.int .i64) (Yp (aG h7 b7.1.1))) O)⟩⟩
section
variable (N:Nat) (n:Z4) (X:QV) (V:QV×QV)
abbrev Zk2:Int→List (QV×QV)→Option Int:=fun x P=>Zom N x P X
theorem Zv7 (w:List Int) (kk:Bool→List Int→List Int→Bool→List Int→List Int→Bool→List Int→List Int→Bool→List Int→List Int→Bool→List Int→List Int→List Int→T3) (x row:Int) (d:QV) (e:List ByteArray):∀ (f:Nat) (a:QV) (ps:List (QV×QV)) (k:Int),
  Zfd N n X.1.1 X.1.2 X.2 V.1.1.1 V.1.1.2 V.1.2 V.2.1.1 V.2.1.2 V.2.2 w kk x row d e f a.1.1 a.1.2 a.2 ps k=
   Zdm N n (Zk2 N X) w (fun a b xs=>kk a.1.1 a.1.2 a.2 b.1.1 b.1.2 b.2 X.1.1 X.1.2 X.2 V.1.1.1 V.1.1.2 V.1.2 V.2.1.1 V.2.1.2 V.2.2 xs) x row d e f a ps k
 | 0,a,ps,k=>rfl
 | f+1,a,ps,k=>by
  have c:=Zv7 w kk x row d e f
  rw [Zfd.eq_2,Zdm]
  simp only [c]
theorem Zv6 (s:QV×QV) (w:List Int) (kk:Bool→List Int→List Int→Bool→List Int→List Int→Bool→List Int→List Int→Bool→List Int→List Int→Bool→List Int→List Int→List Int→T3) (x:Int):∀ (ps:List Int) (row:Int),
  Zdq N n s.1.1.1 s.1.1.2 s.1.2 s.2.1.1 s.2.1.2 s.2.2 X.1.1 X.1.2 X.2 V.1.1.1 V.1.1.2 V.1.2 V.2.1.1 V.2.1.2 V.2.2 w kk x ps row=
   Qn N n (Zk2 N X) s w (fun a b xs=>kk a.1.1 a.1.2 a.2 b.1.1 b.1.2 b.2 X.1.1 X.1.2 X.2 V.1.1.1 V.1.1.2 V.1.2 V.2.1.1 V.2.1.2 V.2.2 xs) x ps row
 | [],row=>by
  rw [Zdq.eq_1,Qn]
  simp only [Zv7]
 | p :: ps,row=>by
  rw [Zdq.eq_2,Qn]
  simp only [Zv6 s w kk x ps]
theorem Zv5:∀ (l:List Int) (a b:QV) (w:List Int),
  Zah N n l a.1.1 a.1.2 a.2 b.1.1 b.1.2 b.2 X.1.1 X.1.2 X.2 V.1.1.1 V.1.1.2 V.1.2 V.2.1.1 V.2.1.2 V.2.2 w=Zac N n (Zk2 N X) l a b w
 | [],a,b,w=>rfl
 | x :: l,a,b,w=>by
  rw [Zah.eq_2,Zac]
  have e:(fun a b c=>Zah N n l a.1.1 a.1.2 a.2 b.1.1 b.1.2 b.2 X.1.1 X.1.2 X.2 V.1.1.1 V.1.1.2 V.1.2 V.2.1.1 V.2.1.2 V.2.2 c)=Zac N n (Zk2 N X) l:=by
   funext a b c
   exact Zv5 l a b c
  have h:=fun d=>Zv6 N n X V (a,b) w (Zah N n l) x d 0
  rw [e] at h
  simp only [h]
end
def Zb5 (x:Rat) (p:Rat×Rat):Bool:=decide (x<p.2)
theorem Z2s (x:Rat):Znm (x,x) (Zb5 x):=by
 refine ⟨fun p b=>?_,fun p c a q d=>?_⟩
 ·rw [Bool.eq_iff_iff,S3,Zb5,decide_eq_true_iff]
  exact ⟨fun g=>⟨b,g,dS g⟩,fun g=>g.2.1⟩
 ·rw [Zb5,decide_eq_false_iff_not] at a
  exact absurd c a
section
variable {N K:Nat} (hr:Z8 N (8 * K+40)) {x:Rat} {X:QV} (q1:RV K X) (v1:Zq X=x)
include hr q1 v1
theorem Zvi:∀ (P:List (Rat×Rat)) (k:Nat),(∀ p ∈ P,qs p.1≤K∧qs p.2≤K)→Ze8 N X (P.map Xn) k=some (Tb (Zb5 x) P k)
 | [],k,_=>rfl
 | p :: P,k,h=>by
  have a:=h p aK
  have b:=Zvi P (k+1) fun q c=>h q (aE _ c)
  have d:U1 N ((X.1.1,X.1.2),X.2) (((Xn p).2.1.1,(Xn p).2.1.2),(Xn p).2.2)=some (Vf x p.2):=by
   have:=Zdk q1 (Yi a.2) (hr.mono (by omega))
   rwa [Xz,v1] at this
  rw [bX,Ze8.eq_2,d,oB,Tb]
  by_cases a1:x<p.2
  ·rw [if_pos (dT (Zm2.2 a1)),if_pos (show Zb5 x p=true from decide_eq_true a1)]
  ·rw [if_neg (dF (fun e=>a1 (Zm2.1 e))),b,if_neg (by rw [Zb5,decide_eq_false a1];decide)]
end
section
variable {N W K:Nat} {n:Z4} (hf:Y7 N n) (hs:Ww n W) (hr:Z8 N (8 * K+40)) (hWK:1025 * (W+2)+4≤K) (hN:1048577<N) {ord:List Int} (ho:Ug n.2.2.2.1 ord) (hol:ord.length≤1024)
variable {x:Rat} {X:QV} (q1:RV K X) (v1:Zq X=x)
include hf hs hr hWK hN ho hol q1 v1
theorem Z58:Zh1 N n ord X=Ze3 (Vi n (fun P=>Tb (Zb5 x) P 0) ord (aC n.2.1.length 0) (0,1)):=by
 have c:=hf.le
 have a:ord.length * (W+2)≤1024 * (W+2):=aX _ hol
 have d:(Zf 1).length=1:=by rw [Uj];rfl
 have h:=Zrx hf hs hr (by omega) ho (Zw5 (Zb5 x)) (ch:=Zk2 N X) (by omega) (fun v P b _=>Zvi hr q1 v1 P 0 b) ord (aC n.2.1.length 0) (0,1) 1 1 (fun _ h=>h) (Xr.zero hf.ev) Tj.zero (by omega)
 rw [← Zv5 N n X ((((false,[]),[]),((false,[]),[]))) ord] at h
 rw [Zh1,Xh (by simp only [maxLen];omega),Zoe (hr.mono (by omega)),oB,Zhn,oB]
 exact h
end
def Zlc (N:Nat) (a:R1) (b:R0) (c:Bool):Option R9:=
  if c=true then (some (([]:List Int),3)) else ((Tr N a.2.2.2.1).bind fun d=>(Zh1 N (a.1,a.2.1,a.2.2.1,a.2.2.2.1,a.2.2.2.2) d.1 ((b.1.1,b.1.2),b.2)).bind fun e=>some (e.1,0))
def Zhx (N:Nat) (b:R1) (a:R0):Option R9:=
  (Ue N (b.1,b.2.1,b.2.2.1,b.2.2.2.1,b.2.2.2.2)).bind fun d=>if (!decide (d=0))=true then (some (([]:List Int),d)) else ((Zbh N ((a.1.1,a.1.2),a.2)).bind fun e=>if (decide (e<0))=true then (Zlc N b a true) else ((Za9).bind fun c=>(U1 N ((a.1.1,a.1.2),a.2) ((c.1.1,c.1.2),c.2)).bind fun f=>Zlc N b a (decide (0≤f))))
theorem Z28 {N D v C G t u:Nat} {p q s K w x:Option Addr} {col:Zg} {k:World} {i:R1} {j:R0} {r:R9} (c1:Nat) (a:Zhx N i j=some r) (L:Sl Zc.str col k p D i.2.1) (M:Sl rV col k q v i.2.2.1) (y:Sl rP col k s C i.2.2.2.1) (J:Sl (Zc.slice rQ) col k K G i.2.2.2.2) (E:Sl rU col k w t j.1.2) (B:Sl rU col k x u j.2):
    Calls prog 16 #[(.agg (Rt i p D q v s C K G)),(.agg #[.bool j.1.1,.slice w j.1.2.length t,.slice x j.2.length u])] k (fun e w'=>∃ (col':Zg) (o:Option Addr) (n:Nat),e= .returned (.tuple #[.slice o r.1.length n,.int .i64 r.2])∧Zl col k col' w'∧Zb rI 3 c1 col' w' o n r.1):=by
 refine Zde 4 5 (m:=41) (args:=[(.agg (Rt i p D q v s C K G)),(.agg #[.bool j.1.1,.slice w j.1.2.length t,.slice x j.2.length u])]) func16 O O O O O ?_;rw [Zhx.eq_1] at a;have b:=St.start col k;refine go ?_;refine Xj (col:=(Zk col)) 1 O fun W _ A V g=>Xj (col:=A) 2 O fun l _ m Q f=>go ?_;replace g:=g.gr Q;refine lV _ (Zz isAgg27 sizeOf27 g) ?_;obtain ⟨_,U,a⟩:=bZ a;replace L:=L.k0;replace M:=M.k0;replace y:=y.k0;replace J:=J.k0;replace b:=(b.grow V).grow Q;refine Zh (Zkx U (L.ks b) (M.ks b) (y.ks b) (J.ks b)) fun _ _ ⟨h,A⟩=>⟨_,h,?_⟩;replace A:=Ru m A;refine go ?_;replace E:=E.k0;replace B:=B.k0;replace g:=g.gr A;replace f:=f.gr A;replace b:=b.grow A;refine Zp a (fun z a=>go ?_) fun z a=>?_
 ·cases a;exact ⟨O,_,none,0,O,b.fin (cm []),Zb.nil⟩
 refine X1<|Zw<|Zw ?_;refine Wp.cutK [2,3,1000000] (fun X R=>∃ T o,Zlc N i j o=some r∧St k (Zk col) T R∧Zi 27 1 T R W (Rt i p D q v s C K G)∧Zi 42 2 T R l #[.bool j.1.1,.slice w j.1.2.length t,.slice x j.2.length u]∧[25].map X=[.bool o]) ?_ ?_
 ·intro X R H;obtain ⟨T,o,a,b,g,f,S⟩:=H;rw [Zlc.eq_1] at a;refine .lL [25] S ?_;refine Zp a (fun z a=>go ?_) fun z a=>go ?_
  ·cases a;exact ⟨O,_,none,0,O,b.fin (cm []),Zb.nil⟩
  refine Xp g ?_;obtain ⟨S,Q,a⟩:=bZ a;refine Zh (Zn1 7 Q (y.ks b)) fun _ _ ⟨_,F,H,h,z,c⟩=>⟨_,h,?_⟩;refine lM (.tuple #[.slice F S.1.length H,.int .i64 S.2])<|lV (.slice F S.1.length H) (Xl O O)<|lV (.int .i64 S.2) (Xl O O)<|go ?_;replace g:=g.gr z;refine lV _ (Zz isAgg27 sizeOf27 g)<|Wg O<|lV (.func (.func 48) #[] #[.pointer (some ⟨l,0,none⟩)]) (Zpx O) ?_;replace f:=f.gr z;replace f:=f.froz 7;replace b:=b.grow z;replace b:=b.froz 7 (by decide) (by decide);obtain ⟨l,R,a⟩:=bZ a;refine Zh (Z3f 8 2 R (by decide) (L.ks b) (M.ks b) (y.ks b) (J.ks b) ((c).toSlF (Ze.int .i64)) (E.ks b) (B.ks b) f) fun _ _ ⟨o,U,V,W,X,Y,Z,c,d,k,n,h,a1,av,_,_,_,_⟩=>⟨_,h,?_⟩;refine lM (.tuple #[.slice U l.1.length V,(.agg #[.bool l.2.1.1.1.1,.slice W l.2.1.1.1.2.length X,.slice Y l.2.1.1.2.length Z,.bool l.2.1.2.1.1,.slice c l.2.1.2.1.2.length d,.slice k l.2.1.2.2.length n]),.bool l.2.2])<|lV (.slice U l.1.length V) (Xl O O)<|lV (.agg #[.bool l.2.1.1.1.1,.slice W l.2.1.1.1.2.length X,.slice Y l.2.1.1.2.length Z,.bool l.2.1.2.1.1,.slice c l.2.1.2.1.2.length d,.slice k l.2.1.2.2.length n]) (Xl O O)<|lV (.bool l.2.2) (Xl O O)<|Xc (col:=o) #[.bool false,(nI),(nI),.bool false,(nI),(nI)] 9 zeroValue44 ?_;intro _ _ _ P F;refine So O<|Zs F ?_;intro _ I a3 _;refine go ?_;cases a;replace b:=((b.grow a1).grow P).kp I a3;exact ⟨O,_,_,_,O,b.fin (cm [(8,c1)]),b.fo ((av.gr P).kp I)⟩
 refine Ym (col:=m) [(0,0),(1,3),(2,1),(3,1),(4,0),(5,3),(6,3),(7,1),(8,1)] (by kernel_rfl) (by kernel_rfl)<|xv O O (fun _ d=>Zz isAgg42 sizeOf42 (f.gr (d.bl m))) ?_;refine xe O O ?_;intro _ c;have d:=c.bl m;obtain ⟨v,I,a⟩:=bZ a;replace b:=b.grow d;refine Zh (Zqu I (E.ks b) (B.ks b)) fun _ _ ⟨h,q⟩=>⟨_,h,?_⟩;replace q:=Ru m q;refine Zj<|Xb m c q<|xu O O (fun _=>Zm8 _ _ O O) ?_;refine xu O O (fun _=>Zm9 O) ?_;replace g:=(g.gr d).gr q;replace f:=(f.gr d).gr q;replace b:=b.grow q;refine X9 a (fun p a=>?_) fun p a=>?_
 ·refine V1 (b:=decide (v<0)) 20 O O O O O (by rw [p];rfl)<|V1 (b:=decide (v<0)) 20 O O O O O (by rw [p];rfl)<|V1 (b:=decide (v<0)) 20 O O O O O (by rw [p];rfl)<|V1 (b:=decide (v<0)) 20 O O O O O (by rw [p];rfl)<|xu (v:=(.bool true)) O O (fun _=>Xw (congrArg Value.bool p) O) ?_;refine Yf ?_;intro _ d;replace d:=d.bl m;replace g:=g.gr d;replace f:=f.gr d;replace b:=b.grow d;exact ⟨O,_,_,a,b,g,f,O⟩
 refine Zg8 (v:=(.agg #[.bool j.1.1,.slice w j.1.2.length t,.slice x j.2.length u])) (b:=decide (v<0)) 20 O O O O O (by rw [p];rfl) (fun _ d=>Xi isAgg42 sizeOf42 O O (f.atN.gr (d.bl m))) ?_;refine xe O O ?_;intro _ c;have d:=c.bl m;refine go ?_;obtain ⟨_,T,a⟩:=bZ a;refine lc O O (Sv call47) (Zhg (col:=m) 10 11 T:) fun _ _ ⟨C,_,_,_,_,h,J,Y,Z⟩=>⟨_,h,?_⟩;refine Zj<|Xb C c J<|xe O O ?_;intro _ c;replace g:=(g.gr d).gr J;replace f:=(f.gr d).gr J;replace b:=(b.grow d).grow J;have d:=c.bl C;refine go ?_;obtain ⟨m,P,a⟩:=bZ a;replace b:=b.grow d;refine Zh (Zdb P (((E.ks b).froz 10).froz 11) (((B.ks b).froz 10).froz 11) (((Y.gr d).toSlF (Ze.int .u32)).froz 11) (((Z.gr d).froz 10).toSlF (Ze.int .u32))) fun _ _ ⟨h,s⟩=>⟨_,h,?_⟩;replace s:=Ru C s;refine Zj<|Xb C c s<|Zkm (v:=(.bool (decide (0≤m)))) (b:=decide (v<0)) 20 O O O O O (by rw [p];rfl) (fun _=>Zs9 m 0 O O) ?_;refine xu (v:=(.bool (decide (0≤m)))) O O (fun _=>X0 (congrArg Value.bool p) O) ?_;refine Yf ?_;replace g:=(g.gr d).gr s;replace f:=(f.gr d).gr s;intro _ d;replace d:=d.bl C;exact ⟨O,_,_,a,(b.grow s).grow d,g.gr d,f.gr d,O⟩
abbrev sp (n:Z4) (ord w:List Int):Rat×Rat:=Xm n w ord (0,1)
theorem Zvw {α:Type} {p q:α→Bool} {w:α}:∀ M:List α,M.Nodup→w ∈ M→p w=false→(∀ u ∈ M,q u=true↔(p u=true∨u=w))→M.countP q=M.countP p+1
 | [],_,h,_,_=>by cases h
 | x :: M,f,c,g,d=>by
  obtain ⟨j,k⟩:=List.nodup_cons.1 f
  have a:=d x aK
  rw [gK,gK]
  by_cases hx:x=w
  ·subst hx
   have:M.countP q=M.countP p:=List.countP_congr fun u b=>by
    have:=d u (aE _ b)
    constructor
    ·intro h
     rcases this.1 h with h | h
     ·exact h
     ·exact absurd (h ▸ b) j
    ·intro h;exact this.2 (.inl h)
   rw [this,g,if_pos (a.2 (.inr rfl)),if_neg (by decide),bV]
  ·rcases List.mem_cons.1 c with h | c
   ·exact absurd h.symm hx
   ·have l:=Zvw M k c g fun u b=>d u (aE _ b)
    have e:(q x=true)=(p x=true):=propext ⟨fun h=>by
     rcases a.1 h with h | h
     ·exact h
     ·exact absurd h hx,fun h=>a.2 (.inl h)⟩
    simp only [l,e]
    omega
section
variable {N W K:Nat} {n:Z4} (hf:Y7 N n) (hs:Ww n W) (hr:Z8 N (8 * K+40)) (hWK:1025 * (W+2)+15≤K) (hN:2199023255552<N) {ord:List Int} (ho:Ug n.2.2.2.1 ord) (hol:ord.length≤1024) (hKL:2 * (1024 * (W+2)+2)+40≤K)
variable (hall:∀ i,i<n.2.1.length→(i:Int) ∈ ord)
include hf hs hr hWK hN ho hol hKL
omit hr hN hWK hKL in
theorem Zqb {w:List Int} (hw:Xr n w):qs (sp n ord w).1≤1024 * (W+2)+2∧qs (sp n ord w).2≤1024 * (W+2)+2:=by
 obtain ⟨a,b⟩:=Ztv hf hs hw ho
 have c:ord.length * (W+2)≤1024 * (W+2):=aX _ hol
 have d:qs (sp n ord w).1≤ord.length * (W+2)+2:=a
 have e:qs (sp n ord w).2≤ord.length * (W+2)+2:=b
 exact ⟨by omega,by omega⟩
include hall
omit hKL in
theorem Z2y {w:List Int} (hw:Xr n w) {X:QV} (q1:RV K X) (h0:0≤Zq X) (h1:(sp n ord w).1≤Zq X) (h2:Zq X<(sp n ord w).2) (hC:Ue N n=some 0) (o1:Tr N n.2.2.2.1=some (ord,0)):Zhx N n X=some (w,0):=by
 have a:Ue N (n.1,n.2.1,n.2.2.1,n.2.2.2.1,n.2.2.2.2)=some 0:=hC
 obtain ⟨k,l,d⟩:=Zbx hf ho hw ord (0,1) (fun _ h=>h) (show (0:Rat)≤1 by decide)
 have b:(sp n ord w).2≤1:=d
 have e:Zbh N ((X.1.1,X.1.2),X.2)=some (Qf (Zq X)):=Zru q1 (hr.mono (by omega))
 have f:U1 N ((X.1.1,X.1.2),X.2) (((Zm 1).1.1,(Zm 1).1.2),(Zm 1).2)=some (Vf (Zq X) 1):=by
  have:=Zdk q1 (Yi (Nat.le_of_eq Zkd)) (hr.mono (by omega))
  rwa [Xz] at this
 have g:¬ Qf (Zq X)<0:=fun h=>absurd h0 (Rat.not_le.2 (Zm2.1 h))
 have j:¬ 0≤Vf (Zq X) 1:=fun h=>absurd (Std.lt_of_lt_of_le h2 b) (bQ.2 (Z9h.1 h))
 have c:Zh1 N (n.1,n.2.1,n.2.2.1,n.2.2.2.1,n.2.2.2.2) ord ((X.1.1,X.1.2),X.2)=Ze3 (Vi n (fun P=>Tb (Zb5 (Zq X)) P 0) ord (aC n.2.1.length 0) (0,1)):=
  Z58 hf hs hr (by omega) (by omega) ho (by omega) q1 rfl
 rw [Zrk hf ho (Z2s (Zq X)) ord _ (0,1) (fun _ h=>h) h0 (show (0:Rat)≤1 by decide),Zrj hf ho hall (x:=(Zq X,Zq X)) hw h1 h2 (dS h2)] at c
 rw [Zhx,a,oB,if_neg (by decide),e,oB,if_neg (by rw [decide_eq_false g];decide),Zhn,oB,f,oB,decide_eq_false j,Zlc,if_neg (by decide),o1,oB,c]
 rfl
omit hs hr hWK hN hol hKL in
theorem Z5s {M:List R2} (hnd:M.Nodup) (hV:∀ u ∈ M,Xr n u∧(sp n ord u).1<(sp n ord u).2) (hfull:∀ u,Xr n u→(sp n ord u).1<(sp n ord u).2→u ∈ M) {e:Rat} (h0:0≤e) (h1:e<1)
  (hni:∀ u ∈ M,¬ ((sp n ord u).1<e∧e<(sp n ord u).2)):
  ∃ w ∈ M,(sp n ord w).1=e∧(∀ u ∈ M,(sp n ord u).1=e→u=w)∧0≤(sp n ord w).2∧(sp n ord w).2≤1∧(∀ u ∈ M,¬ ((sp n ord u).1<(sp n ord w).2∧(sp n ord w).2<(sp n ord u).2))∧
   M.countP (fun u=>decide ((sp n ord u).1<(sp n ord w).2))=M.countP (fun u=>decide ((sp n ord u).1<e))+1:=by
 obtain ⟨w,k,q,r⟩:=Zvz hf ho h0 h1
 have l:(sp n ord w).1≤e:=q
 have b:e<(sp n ord w).2:=r
 have c:=hfull w k (Std.lt_of_le_of_lt l b)
 have d:(sp n ord w).1=e:=by
  rcases fY.1 l with h | h
  ·exact absurd ⟨h,b⟩ (hni w c)
  ·exact h
 have f:(sp n ord w).1<(sp n ord w).2:=by rw [d];exact b
 obtain ⟨t,v,s⟩:=Zbx hf ho k ord (0,1) (fun _ h=>h) (show (0:Rat)≤1 by decide)
 have one:∀ u ∈ M,(sp n ord w).1≤(sp n ord u).1→(sp n ord u).1<(sp n ord w).2→u=w:=fun u a o j=>
  Z1s hf ho hall (x:=(sp n ord u).1) (hV u a).1 k dX (hV u a).2 o j
 refine ⟨w,c,d,fun u a m=>one u a (by rw [d,m];exact dX) (by rw [m];exact b),bR h0 (dS b),s,fun u a ⟨o,j⟩=>?_,Zvw M hnd c (decide_eq_false (by rw [d];exact fJ)) fun u a=>?_⟩
 ·rcases (kM:(sp n ord w).1≤(sp n ord u).1∨(sp n ord u).1≤(sp n ord w).1) with h | h
  ·have:=one u a h o
   subst this
   exact fJ j
  ·have:=Z1s hf ho hall (x:=(sp n ord w).1) (hV u a).1 k h (Std.lt_of_le_of_lt (dS f) j) dX f
   subst this
   exact fJ j
 ·rw [decide_eq_true_eq,decide_eq_true_eq]
  constructor
  ·intro g
   rcases (kM:(sp n ord w).1≤(sp n ord u).1∨(sp n ord u).1≤(sp n ord w).1) with h | h
   ·exact .inr (one u a h g)
   ·rcases fY.1 h with p | p
    ·exact .inl (by rw [← d];exact p)
    ·exact .inr (one u a (by rw [p];exact dX) g)
  ·rintro (g | rfl)
   ·exact Std.lt_of_lt_of_le g (dS b)
   ·exact f
omit hs hr hWK hN hol hKL hall in
theorem Z5r {M:List R2} (hfull:∀ u,Xr n u→(sp n ord u).1<(sp n ord u).2→u ∈ M) {e:Rat} (h0:0≤e) (h1:e≤1)
  (hni:∀ u ∈ M,¬ ((sp n ord u).1<e∧e<(sp n ord u).2)) (hc:M.countP (fun u=>decide ((sp n ord u).1<e))=M.length):e=1:=by
 rcases fY.1 h1 with h | h
 ·obtain ⟨w,d,f,g⟩:=Zvz hf ho h0 h
  have c:(sp n ord w).1≤e:=f
  have a:e<(sp n ord w).2:=g
  have b:=hfull w d (Std.lt_of_le_of_lt c a)
  have:=List.countP_eq_length.1 hc w b
  rw [decide_eq_true_eq] at this
  exact absurd ⟨this,a⟩ (hni w b)
 ·exact h
end
/-! which observations may be -/
def Zfk (N:Nat) (b:List Int):Nat→R2→Int→Option R2
  | 0,_,_=>none
  | e+1,a,c=>if (decide (c<(b.length:Int)))=true then ((Zn b c).bind fun d=>Z1 ((a.length+[d].length) * 8≤140737488355328∧a.length+[d].length≤maxLen) ((Zfk N b e) (a++[d]) (i64.wrap (c+1)))) else (some a)
def Zfj (N:Nat) (a:List Int):Option R2:=
  Zfk N a N ([]:List Int) 0
theorem Zn0 {N s:Nat} {g:Option Addr} {col:Zg} {b:World} {c r:R2} (k:Nat) (a:Zfj N c=some r) (e:Sl rI col b g s c):
    Calls prog 10 #[.slice g c.length s] b (Vl .i64 3 k col b r):=by
 refine Xk 2 (m:=19) func10 O O O O O ?_;rw [Zfj.eq_1] at a;have d:=St.start col b;refine go ?_;refine Z0 [0,1000000] (fun w x m=>∃ i n o h p f,f=w∧Zfk N c f h p=some r∧St b (Zk col) i m∧Zb rI 3 1 i m n o h∧[3,4].map x=[.slice n h.length o,.int .i64 p]) N ⟨_,none,0,_,0,_,O,a,d,Zb.nil,O⟩ ?_;clear a;intro w x m y;obtain ⟨i,n,o,h,p,f,t,a,d,j,u⟩:=y;subst t;refine .lL [3,4] u ?_;replace e:=e.k0
 cases f with
 | zero=>rw [Zfk.eq_1] at a;cases a
 | succ f=>
  rw [Zfk.eq_2] at a;refine go ?_;refine Zp a (fun q a=>go ?_) fun q a=>go ?_
  ·obtain ⟨D,l,a⟩:=bZ a;refine lI l ((e.ks d).addr l)<|lW ((e.ks d).atInt l)<|Vn (col:=i) [D] 2 ?_;intro _ _ _ v A;obtain ⟨B,a⟩:=Z5 a;replace j:=j.gr v;refine Vw j (A.srcN (NB.int (k:=.i64))) B fun _ _ _ _ z C=>go ?_;replace d:=(d.grow v).kpp z;exact ⟨f,by omega,O,⟨_,_,_,_,_,_,O,a,d,C,O⟩⟩
  cases a;exact ⟨O,_,_,_,O,d.fin (cm [(1,k)]),d.fo j⟩
def Zfl (N:Nat) (b:List Int):Nat→R2→Int→Option R2
  | 0,_,_=>none
  | e+1,a,c=>if (decide (c<(b.length:Int)))=true then ((Zn b c).bind fun d=>Z1 ((a.length+[d].length) * 4≤140737488355328∧a.length+[d].length≤maxLen) ((Zfl N b e) (a++[d]) (i64.wrap (c+1)))) else (some a)
def Zlm (N:Nat) (a:List Int):Option R2:=
  Zfl N a N ([]:List Int) 0
theorem Zut {N s:Nat} {g:Option Addr} {col:Zg} {b:World} {c r:R2} (k:Nat) (a:Zlm N c=some r) (e:Sl rU col b g s c):
    Calls prog 119 #[.slice g c.length s] b (Vl .u32 119 k col b r):=by
 refine Xk 2 (m:=19) func119 O O O O O ?_;rw [Zlm.eq_1] at a;have d:=St.start col b;refine go ?_;refine Z0 [0,1000000] (fun w x m=>∃ i n o h p f,f=w∧Zfl N c f h p=some r∧St b (Zk col) i m∧Zb rU 119 1 i m n o h∧[3,4].map x=[.slice n h.length o,.int .i64 p]) N ⟨_,none,0,_,0,_,O,a,d,Zb.nil,O⟩ ?_;clear a;intro w x m y;obtain ⟨i,n,o,h,p,f,t,a,d,j,u⟩:=y;subst t;refine .lL [3,4] u ?_;replace e:=e.k0
 cases f with
 | zero=>rw [Zfl.eq_1] at a;cases a
 | succ f=>
  rw [Zfl.eq_2] at a;refine go ?_;refine Zp a (fun q a=>go ?_) fun q a=>go ?_
  ·obtain ⟨D,l,a⟩:=bZ a;refine lI l ((e.ks d).addr l)<|lW ((e.ks d).atInt l)<|Vn (col:=i) [D] 2 ?_;intro _ _ _ v A;obtain ⟨B,a⟩:=Z5 a;replace j:=j.gr v;refine Vw j (A.srcN (NB.int (k:=.u32))) B fun _ _ _ _ z C=>go ?_;replace d:=(d.grow v).kpp z;exact ⟨f,by omega,O,⟨_,_,_,_,_,_,O,a,d,C,O⟩⟩
  cases a;exact ⟨O,_,_,_,O,d.fin (cm [(1,k)]),d.fo j⟩
def Zln (N:Nat) (a:R0):Option R0:=
  (Zlm N a.1.2).bind fun b=>(Zlm N a.2).bind fun c=>some ((a.1.1,b),c)
theorem Z3s {N w x:Nat} {y u:Option Addr} {col:Zg} {f:World} {c r:R0} (n c2:Nat) (e:Zln N c=some r) (o:Sl rU col f y w c.1.2) (p:Sl rU col f u x c.2):
    Calls prog 68 #[(.agg #[.bool c.1.1,.slice y c.1.2.length w,.slice u c.2.length x])] f (V7 119 n c2 col f r):=by
 refine Yb (m:=15) func68 O O O ?_;rw [Zln.eq_1] at e;have d:=St.start col f;refine go ?_;refine Xj (col:=(Zk col)) 1 O fun _ _ D L h=>Xc (col:=D) #[.bool false,(nI),(nI)] 2 zeroValue42 fun _ _ i C k=>go ?_;refine Ym (col:=i) [(0,1),(1,1),(2,0),(3,1),(4,1),(5,0),(8,1),(9,0),(6,3),(7,1),(10,3),(11,1),(12,2)] (by kernel_rfl) (by kernel_rfl)<|xF ⟨_,_,O⟩ ?_;refine xF (Q5 ⟨_,_,O⟩) ?_;replace h:=h.gr C;refine xW (fun _ b=>((((h.atN).part 0 2 _ O)).nth (q:=0) O).gr (b.bl i)) ?_;refine xF ⟨_,_,O⟩ ?_;refine xF (Q5 ⟨_,_,O⟩) ?_;refine xW (fun _ b=>((((h.atN).part 0 2 _ O)).nth (q:=1) O).gr (b.bl i)) ?_;refine xF ⟨_,_,O⟩ ?_;refine xW (fun _ b=>((h.atN).nth (q:=2) O).gr (b.bl i)) ?_;refine xe O O ?_;intro _ a;have b:=a.bl i;obtain ⟨B,G,e⟩:=bZ e;replace d:=((d.grow L).grow C).grow b;refine Zh (Zut 3 G (o.k0.ks d)) fun _ _ ⟨v,z,A,g,s,j⟩=>⟨_,g,?_⟩;refine Zj<|Xb v a s<|xu (v:=(.agg #[.bool c.1.1,.slice z B.length A])) O O (fun _=>Yc (l:=[_,_]) (qs:=[(0,1),(1,1)]) underlying40 zeroValue40 ⟨O,sizeOf4,O,sizeOf38,trivial⟩ O) ?_;refine xe O O ?_;intro _ a;replace k:=(k.gr b).gr s;have b:=a.bl v;obtain ⟨J,F,e⟩:=bZ e;replace d:=(d.grow s).grow b;refine Zh (Zut 4 F (p.k0.ks d)) fun _ _ ⟨m,H,I,g,l,t⟩=>⟨_,g,?_⟩;refine Zj<|Xb m a l<|xu (v:=(.agg #[.bool c.1.1,.slice z B.length A,.slice H J.length I])) O O (fun _=>Yc (l:=[_,_]) (qs:=[(0,2),(2,1)]) underlying42 zeroValue42 ⟨O,sizeOf40,O,sizeOf38,trivial⟩ O) ?_;refine xe O O ?_;intro _ a;replace j:=(j.gr b).gr l;replace k:=(k.gr b).gr l;have b:=a.bl m;refine Zs (k.gr b) fun _ q E K=>Zj<|xk m<|Yf ?_;replace d:=((d.grow l).grow b).kp q E;replace j:=(j.gr b).kp q;replace t:=(t.gr b).kp q;intro _ b;replace b:=b.bl m;refine Y5 ?_;cases e;replace d:=d.grow b
 exact ⟨O,_,ra (K.gr b).atN,_,_,_,_,_,O,d.fin (cm [(3,n),(4,c2)]),d.fo (j.gr b),d.fo (t.gr b)⟩
def Zfq (N:Nat) (c:R6):Nat→R6→Int→Option R6
  | 0,_,_=>none
  | f+1,b,d=>if (decide (d<(c.length:Int)))=true then ((Zn c d).bind fun e=>(Zln N ((e.1.1,e.1.2),e.2)).bind fun a=>Z1 ((b.length+[((a.1.1,a.1.2),a.2)].length) * 56≤140737488355328∧b.length+[((a.1.1,a.1.2),a.2)].length≤maxLen) ((Zfq N c f) (b++[((a.1.1,a.1.2),a.2)]) (i64.wrap (d+1)))) else (some b)
def Zot (N:Nat) (a:R6):Option R6:=
  Zfq N a N ([]:List R0) 0
theorem Z3t {N u:Nat} {l:Option Addr} {col:Zg} {g:World} {i r:R6} (n:Nat) (a:Zot N i=some r) (j:Sl rQ col g l u i):
    Calls prog 29 #[.slice l i.length u] g (fun e w'=>∃ (col':Zg) (f:Option Addr) (d:Nat),e= .returned ((.slice f r.length d))∧Zl col g col' w'∧Zb (rO 119) 42 n col' w' f d r):=by
 refine Xk 2 (m:=20) func29 O O O O O ?_;rw [Zot.eq_1] at a;have b:=St.start col g;refine go ?_;refine Z0 [0,1000000] (fun D E p=>∃ q s t m v k,k=D∧Zfq N i k m v=some r∧St g (Zk col) q p∧Zb (rO 119) 42 1 q p s t m∧[3,4].map E=[.slice s m.length t,.int .i64 v]) N ⟨_,none,0,_,0,_,O,a,b,Zb.nil,O⟩ ?_;clear a;intro D E p M;obtain ⟨q,s,t,m,v,k,z,a,b,h,A⟩:=M;subst z;refine .lL [3,4] A ?_;replace j:=j.k0
 cases k with
 | zero=>rw [Zfq.eq_1] at a;cases a
 | succ k=>
  rw [Zfq.eq_2] at a;refine go ?_;refine Zp a (fun y a=>go ?_) fun y a=>go ?_
  ·obtain ⟨w,o,a⟩:=bZ a;refine lI o ((j.ks b).addr o) ?_;obtain ⟨_,Q,F⟩:=(j.ks b).atN o;obtain ⟨_,_,rfl,L,x⟩:=Yw Q;obtain ⟨_,_,rfl,J,R⟩:=Yw L;obtain ⟨rfl,_⟩:=J;obtain ⟨⟨X,c,rfl,C⟩,_⟩:=R;obtain ⟨⟨V,Z,rfl,B⟩,_⟩:=x;refine lV (.agg #[.bool w.1.1,.slice X w.1.2.length c,.slice V w.2.length Z]) (Xi isAgg42 sizeOf42 O O F) ?_;obtain ⟨c,K,a⟩:=bZ a;refine Zh (Z3s 2 3 K C B) fun _ _ ⟨d,F,G,H,I,x,C,S,T⟩=>⟨_,x,?_⟩;have f:=Ys.join (Ys.joinL (Se c.1.1) S.has) T.has (by decide) (by decide);replace h:=h.gr C;replace h:=h.recol 3 2;replace b:=b.grow C;replace b:=b.recol 3 2 (by decide) (by decide);refine Ui (col:=(Xq 3 2 d)) (r:=(rO 119)) (xs:=[((c.1.1,c.1.2),c.2)]) [(.agg #[.bool c.1.1,.slice F c.1.2.length G,.slice H c.2.length I])] 2 (Wf.cons1 (cs:=[.bool c.1.1,.slice F c.1.2.length G,.slice H c.2.length I]) f Rows.nil0) ?_;intro _ _ _ B U;obtain ⟨W,a⟩:=Z5 a;replace h:=h.gr B;refine Vw (c:=1) (c2:=2) h (U.srcC (by decide)) W fun _ _ _ _ P Y=>go ?_;replace b:=(b.grow B).kpp P;exact ⟨k,by omega,O,⟨_,_,_,_,_,_,O,a,b,Y,O⟩⟩
  cases a;exact ⟨O,_,_,_,O,b.fin (cm [(1,n)]),b.fo h⟩
theorem Z62:Wk prog 9 1 16:=⟨Tryz.t9,_,rfl,rfl,rfl,rfl,rfl⟩
theorem Z6p:Wk prog 22 1 24:=⟨Tryz.t22,_,rfl,rfl,rfl,rfl,rfl⟩
theorem Z6s:Wk prog 28 1 24:=⟨Tryz.t28,_,rfl,rfl,rfl,rfl,rfl⟩
theorem Z60:Wk prog 58 1 24:=⟨Tryz.t58,_,rfl,rfl,rfl,rfl,rfl⟩
def Zfn (N:Nat) (f:R1) (g:ByteArray) (i:List ByteArray) (b:List R4) (j:List R2) (k:List R6) (c:Int) (kk_L2:(ByteArray→R4→(List R4)→R8→Ri→Int→Option R1)):Nat→R4→Int→Option R1
  | 0,_,_=>none
  | m+1,a,d=>(Zn f.2.2.1 c).bind fun l=>if (decide (d<(l.length:Int)))=true then ((Zn l d).bind fun e=>Z1 ((a.length+([e]:List ByteArray).length) * 16≤140737488355328∧a.length+([e]:List ByteArray).length≤maxLen) ((Zfn N f g i b j k c kk_L2 m) (a++([e]:List ByteArray)) (i64.wrap (d+1)))) else (Z1 ((b.length+[a].length) * 24≤140737488355328∧b.length+[a].length≤maxLen) (kk_L2 g i (b++[a]) j k (i64.wrap (c+1))))
def Zfp (N:Nat) (b:R1):Nat→ByteArray→R4→(List R4)→R8→Ri→Int→Option R1
  | 0,_,_,_,_,_,_=>none
  | j+1,e,f,g,i,a,c=>if (decide (c<(b.2.2.2.2.length:Int)))=true then ((Zn b.2.2.2.2 c).bind fun k=>(Zot N k).bind fun d=>Z1 ((a.length+[d].length) * 24≤140737488355328∧a.length+[d].length≤maxLen) ((Zfp N b j) e f g i (a++[d]) (i64.wrap (c+1)))) else (some (e,f,g,i,a))
def Zfo (N:Nat) (a:R1):Nat→ByteArray→R4→(List R4)→R8→Ri→Int→Option R1
  | 0,_,_,_,_,_,_=>none
  | j+1,e,f,g,b,i,c=>if (decide (c<(a.2.2.2.1.length:Int)))=true then ((Zn a.2.2.2.1 c).bind fun k=>(Zfj N k).bind fun d=>Z1 ((b.length+[d].length) * 24≤140737488355328∧b.length+[d].length≤maxLen) ((Zfo N a j) e f g (b++[d]) i (i64.wrap (c+1)))) else (Zfp N a N e f g b i 0)
def Zb9 (N:Nat) (a:R1):Nat→ByteArray→R4→(List R4)→R8→Ri→Int→Option R1
  | 0,_,_,_,_,_,_=>none
  | i+1,b,c,d,e,f,g=>if (decide (g<(a.2.2.1.length:Int)))=true then (Zfn N a b c d e f g (Zb9 N a i) N ([]:List ByteArray) 0) else (Zfo N a N b c d e f 0)
def Zfm (N:Nat) (a:R1):Nat→ByteArray→R4→(List R4)→R8→Ri→Int→Option R1
  | 0,_,_,_,_,_,_=>none
  | j+1,e,b,f,g,i,c=>if (decide (c<(a.2.1.length:Int)))=true then ((Zn a.2.1 c).bind fun d=>Z1 ((b.length+([d]:List ByteArray).length) * 16≤140737488355328∧b.length+([d]:List ByteArray).length≤maxLen) ((Zfm N a j) e (b++([d]:List ByteArray)) f g i (i64.wrap (c+1)))) else (Zb9 N a N e b f g i 0)
def Tq (N:Nat) (a:R1):Option R1:=
  Zfm N a N a.1 ([]:List ByteArray) ([]:List R4) ([]:List R2) ([]:List R6) 0
theorem Zhi {N S T U V:Nat} {M P Q R:Option Addr} {col:Zg} {i:World} {j r:R1} (c1 c2 c3 c4:Nat) (b:Tq N j=some r) (b8:Sl Zc.str col i M S j.2.1) (K:Sl rV col i P T j.2.2.1) (b9:Sl rP col i Q U j.2.2.2.1) (ca:Sl (Zc.slice rQ) col i R V j.2.2.2.2):
    Calls prog 8 #[(.agg (Rt j M S P T Q U R V))] i (fun e w'=>∃ (col':Zg) (I:Option Addr) (D:Nat) (ra4:Option Addr) (rc5:Nat) (ra7:Option Addr) (rc8:Nat) (t:Option Addr) (s:Nat),e= .returned ((.agg (Rt r I D ra4 rc5 ra7 rc8 t s)))∧Zl col i col' w'∧Zb Zc.str 9 c1 col' w' I D r.2.1∧Zb (Zc.row 9 Zc.str) 22 c2 col' w' ra4 rc5 r.2.2.1∧Zb (Zc.row 3 rI) 28 c3 col' w' ra7 rc8 r.2.2.2.1∧Zb (Zc.row 42 (rO 119)) 58 c4 col' w' t s r.2.2.2.2):=by
 refine Yb (m:=101) func8 O O O ?_;rw [Tq.eq_1] at b;have d:=St.start col i;refine go ?_;refine Xj (col:=(Zk col)) 1 O fun bi _ D eq f=>Xc (col:=D) #[.string (⟨#[]⟩),.slice none (([]:List ByteArray).length) 0,.slice none (([]:List R4).length) 0,.slice none (([]:List R2).length) 0,(.slice none (([]:List R6).length) 0)] 2 zeroValue27 fun bj _ s D g=>go ?_;refine Xt ⟨_,_,O⟩ ?_;replace f:=f.gr D;refine lW ((f.atN).nth (q:=0) O)<|lV (.agg #[.string j.1,.slice none (([]:List ByteArray).length) 0,.slice none (([]:List R4).length) 0,.slice none (([]:List R2).length) 0,(.slice none (([]:List R6).length) 0)]) (Yc (l:=[_,_,_,_,_]) (qs:=[(0,1),(1,1),(2,1),(3,1),(4,1)]) underlying27 zeroValue27 ⟨O,sizeOf9,O,sizeOf22,O,sizeOf23,O,sizeOf24,O,sizeOf25,trivial⟩ O)<|Xc (col:=s) #[.string (⟨#[]⟩),.slice none (([]:List ByteArray).length) 0,.slice none (([]:List R4).length) 0,.slice none (([]:List R2).length) 0,(.slice none (([]:List R6).length) 0)] 3 zeroValue27 ?_;intro bl _ _ t I;refine Zs I fun _ s I h=>go ?_;replace d:=(((d.grow eq).grow D).grow t).kp s I;replace f:=(f.gr t).kp s;replace g:=(g.gr t).kp s
 refine Z0 [1,2,3,1000000] (fun B C D=>∃ p cb I t E cc cd bk ce cf bm cg ch bn s G,G=B∧Zfm N j G cb E bk bm bn s=some r∧St i (Zk col) p D∧Zi 27 1 p D bi (Rt j M S P T Q U R V)∧Zi 27 2 p D bj #[.string (⟨#[]⟩),.slice none (([]:List ByteArray).length) 0,.slice none (([]:List R4).length) 0,.slice none (([]:List R2).length) 0,(.slice none (([]:List R6).length) 0)]∧Zb Zc.str 9 4 p D I t E∧Zb (Zc.row 9 Zc.str) 22 5 p D cc cd bk∧Zb (Zc.row 3 rI) 28 6 p D ce cf bm∧Zb (Zc.row 42 (rO 119)) 58 7 p D cg ch bn∧Zi 27 3 p D bl #[.string cb,.slice I E.length t,.slice cc bk.length cd,.slice ce bm.length cf,.slice cg bn.length ch]∧[4].map C=[.int .i64 s]) N ⟨_,_,none,0,_,none,0,_,none,0,_,none,0,_,0,_,O,b,d,f,g,Zb.nil,Zb.nil,Zb.nil,Zb.nil,h,O⟩ ?_;clear b;intro B C D dk;obtain ⟨p,cb,I,t,E,cc,cd,bk,ce,cf,bm,cg,ch,bn,s,G,o,b,d,f,g,J,ex,fo,fs,h,n⟩:=dk;subst o;refine .lL [4] n ?_;replace b8:=b8.k0;replace K:=K.k0;replace b9:=b9.k0;replace ca:=ca.k0
 cases G with
 | zero=>rw [Zfm.eq_1] at b;cases b
 | succ G=>
  rw [Zfm.eq_2] at b;refine go ?_;refine Xp f ?_;refine go ?_;refine Zp b (fun m b=>go ?_) fun m b=>go ?_
  ·refine Ym (col:=p) [(0,1),(1,0),(2,1),(3,0),(4,1),(5,1),(6,0),(7,3),(8,2),(9,1),(10,2)] (by kernel_rfl) (by kernel_rfl)<|xF ⟨_,_,O⟩ ?_;refine xW (fun _ a=>((h.atN).nth (q:=1) O).gr (a.bl p)) ?_;refine xF ⟨_,_,O⟩ ?_;refine xW (fun _ a=>((f.atN).nth (q:=1) O).gr (a.bl p)) ?_;refine xu O O (fun _=>Wu O) ?_;obtain ⟨t,I,b⟩:=bZ b;refine xu O O (fun _=>Wd underlying22 sizeOf9 O O (Xo I).1 (Xo I).2.1 ((b8.ks d).addr I)) ?_;refine xW (fun _ a=>((b8.ks d).gr (a.bl p)).atStr I) ?_;refine xe O O ?_;intro _ c;have a:=c.bl p;refine Zoh (col:=p) ([t]:List ByteArray) 8 fun _ _ D s de=>Zj<|Xb D c s<|xe O O ?_;intro I c;replace J:=(J.gr a).gr s;replace ex:=(ex.gr a).gr s;replace fo:=(fo.gr a).gr s;replace fs:=(fs.gr a).gr s;replace f:=(f.gr a).gr s;replace g:=(g.gr a).gr s;replace h:=(h.gr a).gr s;replace d:=(d.grow a).grow s;have a:=c.bl D;obtain ⟨p,b⟩:=Z5 b;replace J:=J.gr a;refine Zad (col:=D) (w:=I) (r:=Zc.str) (c:=4) (c2:=4) (J.ex) ((de.gr a).srcN NB.str) O underlying22 Z62 O O O p.1 p.2 (by decide) fun d9 ea _ p D df=>Zj<|xk p<|xF ⟨_,_,O⟩ ?_;refine xe O O ?_;intro _ c;replace ex:=(ex.gr a).kpp D;replace fo:=(fo.gr a).kpp D;replace fs:=(fs.gr a).kpp D;replace f:=(f.gr a).kpp D;replace g:=(g.gr a).kpp D;replace h:=(h.gr a).kpp D;replace d:=(d.grow a).kpp D;have a:=c.bl p;replace h:=h.gr a;refine Qo (off:=1) (v:=(.slice d9 ((E++([t]:List ByteArray)).length) ea)) h sizeOf22 O O (Rv O O) O O ?_;intro D I ey s;replace s:Zi 27 3 p D bl #[.string cb,.slice d9 ((E++([t]:List ByteArray)).length) ea,.slice cc bk.length cd,.slice ce bm.length cf,.slice cg bn.length ch]:=s;refine Zj<|xk p ?_;have E:=((df.gr a).kp I).new;refine Yf ?_;replace ex:=(ex.gr a).kp I;replace fo:=(fo.gr a).kp I;replace fs:=(fs.gr a).kp I;replace f:=(f.gr a).kp I;replace g:=(g.gr a).kp I;replace d:=(d.grow a).kp I ey;intro _ a;replace a:=a.bl p;refine go ?_;replace ex:=ex.gr a;replace fo:=fo.gr a;replace fs:=fs.gr a;replace f:=f.gr a;replace g:=g.gr a
   replace d:=d.grow a;exact ⟨G,by omega,O,⟨_,_,_,_,_,_,_,_,_,_,_,_,_,_,_,_,O,b,d,f,g,E.gr a,ex,fo,fs,s.gr a,O⟩⟩
  refine Z0 [1,2,3,1000000] (fun B C s=>∃ t a5 a6 a7 x bq br fu a8 a9 y ba bb z cj L,L=B∧Zb9 N j L a5 x fu y z cj=some r∧St i (Zk col) t s∧Zi 27 1 t s bi (Rt j M S P T Q U R V)∧Zi 27 2 t s bj #[.string (⟨#[]⟩),.slice none (([]:List ByteArray).length) 0,.slice none (([]:List R4).length) 0,.slice none (([]:List R2).length) 0,(.slice none (([]:List R6).length) 0)]∧Zb Zc.str 9 4 t s a6 a7 x∧Zb (Zc.row 9 Zc.str) 22 5 t s bq br fu∧Zb (Zc.row 3 rI) 28 6 t s a8 a9 y∧Zb (Zc.row 42 (rO 119)) 58 7 t s ba bb z∧Zi 27 3 t s bl #[.string a5,.slice a6 x.length a7,.slice bq fu.length br,.slice a8 y.length a9,.slice ba z.length bb]∧[5].map C=[.int .i64 cj]) N ⟨_,_,_,_,_,_,_,_,_,_,_,_,_,_,0,_,O,b,d,f,g,J,ex,fo,fs,h,O⟩ ?_;clear b;intro B C s dk;obtain ⟨t,a5,a6,a7,x,bq,br,fu,a8,a9,y,ba,bb,z,cj,L,o,b,d,f,g,fv,fw,fx,fy,h,n⟩:=dk;subst o;refine .lL [5] n ?_
  cases L with
  | zero=>rw [Zb9.eq_1] at b;cases b
  | succ L=>
   rw [Zb9.eq_2] at b;refine go ?_;refine Xp f ?_;refine go ?_;refine Zp b (fun m b=>go ?_) fun m b=>go ?_
   ·refine Z0 [1,2,3,5,1000000] (fun B C p=>∃ W bs bt fz E u,u=B∧Zfn N j a5 x fu y z cj (Zb9 N j L) u fz E=some r∧St i (Zk col) W p∧Zi 27 1 W p bi (Rt j M S P T Q U R V)∧Zi 27 2 W p bj #[.string (⟨#[]⟩),.slice none (([]:List ByteArray).length) 0,.slice none (([]:List R4).length) 0,.slice none (([]:List R2).length) 0,(.slice none (([]:List R6).length) 0)]∧Zb Zc.str 9 4 W p a6 a7 x∧Zb (Zc.row 9 Zc.str) 22 5 W p bq br fu∧Zb (Zc.row 3 rI) 28 6 W p a8 a9 y∧Zb (Zc.row 42 (rO 119)) 58 7 W p ba bb z∧Zi 27 3 W p bl #[.string a5,.slice a6 x.length a7,.slice bq fu.length br,.slice a8 y.length a9,.slice ba z.length bb]∧Zb Zc.str 9 9 W p bs bt fz∧[6,7].map C=[.slice bs fz.length bt,.int .i64 E]) N ⟨_,none,0,_,0,_,O,b,d,f,g,fv,fw,fx,fy,h,Zb.nil,O⟩ ?_;clear b;intro B C p dk;obtain ⟨W,bs,bt,fz,E,u,o,b,d,f,g,fv,fw,fx,fy,h,ck,n⟩:=dk;subst o;refine .lL [6,7] n ?_
    cases u with
    | zero=>rw [Zfn.eq_1] at b;cases b
    | succ u=>
     rw [Zfn.eq_2] at b;refine go ?_;refine Xp f<|Xy O ?_;obtain ⟨_,q,b⟩:=bZ b;refine lI q ((K.ks d).addr q) ?_;obtain ⟨_,ez,e0⟩:=(K.ks d).atN q;obtain ⟨⟨_,_,rfl,_⟩,_⟩:=ez;refine lW e0.one<|go ?_;refine Zp b (fun m b=>go ?_) fun m b=>go ?_
     ·refine Xp f<|Xy O<|lI q ((K.ks d).addr q) ?_;obtain ⟨_,e1,e2⟩:=(K.ks d).atN q;obtain ⟨⟨_,_,rfl,eb⟩,_⟩:=e1;refine lW e2.one<|Xy O ?_;obtain ⟨J,q,b⟩:=bZ b;refine lI q (eb.addr q)<|lW (eb.atStr q)<|Zoh (col:=W) ([J]:List ByteArray) 10 ?_;intro _ _ _ p K;obtain ⟨E,b⟩:=Z5 b;replace ck:=ck.gr p;refine Vw ck (K.srcN NB.str) E fun _ _ _ _ q E=>go ?_;replace fv:=(fv.gr p).kpp q;replace fw:=(fw.gr p).kpp q;replace fx:=(fx.gr p).kpp q;replace fy:=(fy.gr p).kpp q;replace f:=(f.gr p).kpp q;replace g:=(g.gr p).kpp q;replace h:=(h.gr p).kpp q;replace d:=(d.grow p).kpp q;exact ⟨u,by omega,O,⟨_,_,_,_,_,_,O,b,d,f,g,fv,fw,fx,fy,h,E,O⟩⟩
     refine Xp h<|Wg O<|Ui (col:=W) (r:=(Zc.row 9 Zc.str)) (xs:=[fz]) [.slice bs fz.length bt] 9 (Wf.cons1 (cs:=[.slice bs fz.length bt]) ck.has Rows.nil0) ?_;intro _ K G u p;obtain ⟨W,b⟩:=Z5 b;replace fw:=fw.gr u;refine Zad (col:=G) (w:=K) (r:=(Zc.row 9 Zc.str)) (c:=5) (c2:=9) (fw.ex) (p.srcC (by decide)) O underlying23 Z6p O O O W.1 W.2 (by decide) fun G W _ p K s=>Xt ⟨_,_,O⟩ ?_;replace h:=(h.gr u).kpp K;refine Qo (off:=2) (v:=(.slice G ((fu++[fz]).length) W)) h sizeOf23 O O (Rv O O) O O ?_;intro q J t E;replace E:Zi 27 3 p q bl #[.string a5,.slice a6 x.length a7,.slice G ((fu++[fz]).length) W,.slice a8 y.length a9,.slice ba z.length bb]:=E;have x:=(s.kp J).new;refine go ?_;replace fv:=((fv.gr u).kpp K).kp J;replace fx:=((fx.gr u).kpp K).kp J;replace fy:=((fy.gr u).kpp K).kp J;replace f:=((f.gr u).kpp K).kp J;replace g:=((g.gr u).kpp K).kp J;replace d:=((d.grow u).kpp K).kp J t;exact ⟨L,by omega,O,⟨_,_,_,_,_,_,_,_,_,_,_,_,_,_,_,_,O,b,d,f,g,fv,x,fx,fy,E,O⟩⟩
   refine Z0 [1,2,3,1000000] (fun B C x=>∃ v cl cn co bu cp cq bv y z H cr ct bw G bf,bf=B∧Zfo N j bf cl bu bv H bw G=some r∧St i (Zk col) v x∧Zi 27 1 v x bi (Rt j M S P T Q U R V)∧Zi 27 2 v x bj #[.string (⟨#[]⟩),.slice none (([]:List ByteArray).length) 0,.slice none (([]:List R4).length) 0,.slice none (([]:List R2).length) 0,(.slice none (([]:List R6).length) 0)]∧Zb Zc.str 9 4 v x cn co bu∧Zb (Zc.row 9 Zc.str) 22 5 v x cp cq bv∧Zb (Zc.row 3 rI) 28 6 v x y z H∧Zb (Zc.row 42 (rO 119)) 58 7 v x cr ct bw∧Zi 27 3 v x bl #[.string cl,.slice cn bu.length co,.slice cp bv.length cq,.slice y H.length z,.slice cr bw.length ct]∧[8].map C=[.int .i64 G]) N ⟨_,_,_,_,_,_,_,_,_,_,_,_,_,_,0,_,O,b,d,f,g,fv,fw,fx,fy,h,O⟩ ?_;clear b;intro B C x dk;obtain ⟨v,cl,cn,co,bu,cp,cq,bv,y,z,H,cr,ct,bw,G,bf,o,b,d,f,g,k,l,A,F,h,n⟩:=dk;subst o;refine .lL [8] n ?_
   cases bf with
   | zero=>rw [Zfo.eq_1] at b;cases b
   | succ bf=>
    rw [Zfo.eq_2] at b;refine go ?_;refine Xp f ?_;refine go ?_;refine Zp b (fun m b=>go ?_) fun m b=>go ?_
    ·refine Ym (col:=v) [(0,1),(1,0),(2,1),(3,0),(4,1),(5,1),(6,0),(7,3),(8,3),(9,2),(10,1),(11,2)] (by kernel_rfl) (by kernel_rfl)<|xF ⟨_,_,O⟩ ?_;refine xW (fun _ a=>((h.atN).nth (q:=3) O).gr (a.bl v)) ?_;refine xF ⟨_,_,O⟩ ?_;refine xW (fun _ a=>((f.atN).nth (q:=3) O).gr (a.bl v)) ?_;refine xu O O (fun _=>Wu O) ?_;obtain ⟨_,W,b⟩:=bZ b;refine xu O O (fun _=>Wd underlying24 sizeOf28 O O (Xo W).1 (Xo W).2.1 ((b9.ks d).addr W)) ?_;obtain ⟨_,fe,ff⟩:=(b9.ks d).atN W;obtain ⟨⟨_,_,rfl,dq⟩,_⟩:=fe;refine xW (fun _ a=>ff.one.gr (a.bl v)) ?_;refine xe O O ?_;intro _ c;have a:=c.bl v;obtain ⟨L,z,b⟩:=bZ b;refine Zh (Zn0 11 z (dq.gr a)) fun _ _ ⟨u,x,y,e',v,W⟩=>⟨_,e',?_⟩;refine Zj<|Xb u c v<|xe O O ?_;intro _ c;replace k:=(k.gr a).gr v;replace l:=(l.gr a).gr v;replace A:=(A.gr a).gr v;replace F:=(F.gr a).gr v;replace f:=(f.gr a).gr v;replace g:=(g.gr a).gr v;replace h:=(h.gr a).gr v;replace d:=(d.grow a).grow v;have a:=c.bl u;refine Ui (col:=u) (r:=(Zc.row 3 rI)) (xs:=[L]) [.slice x L.length y] 11 (Wf.cons1 (cs:=[.slice x L.length y]) (W.gr a).has Rows.nil0) fun _ _ v t z=>Zj<|Xb v c t<|xe O O ?_;intro u c;replace k:=(k.gr a).gr t;replace l:=(l.gr a).gr t;replace A:=(A.gr a).gr t;replace F:=(F.gr a).gr t;replace f:=(f.gr a).gr t;replace g:=(g.gr a).gr t;replace h:=(h.gr a).gr t;replace d:=(d.grow a).grow t;have a:=c.bl v;obtain ⟨q,b⟩:=Z5 b;replace A:=A.gr a;refine Zad (col:=v) (w:=u) (r:=(Zc.row 3 rI)) (c:=6) (c2:=11) (A.ex) ((z.gr a).srcC (by decide)) O underlying24 Z6s O O O q.1 q.2 (by decide) fun u v _ z E q=>Zj<|xk z<|xF ⟨_,_,O⟩ ?_;refine xe O O ?_;intro _ c;replace k:=(k.gr a).kpp E;replace l:=(l.gr a).kpp E;replace F:=(F.gr a).kpp E;replace f:=(f.gr a).kpp E;replace g:=(g.gr a).kpp E;replace h:=(h.gr a).kpp E;replace d:=(d.grow a).kpp E;have a:=c.bl z;replace h:=h.gr a
     refine Qo (off:=3) (v:=(.slice u ((H++[L]).length) v)) h sizeOf24 O O (Rv O O) O O ?_;intro J G y x;replace x:Zi 27 3 z J bl #[.string cl,.slice cn bu.length co,.slice cp bv.length cq,.slice u ((H++[L]).length) v,.slice cr bw.length ct]:=x;refine Zj<|xk z ?_;have L:=((q.gr a).kp G).new;refine Yf ?_;replace k:=(k.gr a).kp G;replace l:=(l.gr a).kp G;replace F:=(F.gr a).kp G;replace f:=(f.gr a).kp G;replace g:=(g.gr a).kp G;replace d:=(d.grow a).kp G y;intro _ a;replace a:=a.bl z;refine go ?_;replace k:=k.gr a;replace l:=l.gr a;replace F:=F.gr a;replace f:=f.gr a;replace g:=g.gr a;replace d:=d.grow a;exact ⟨bf,by omega,O,⟨_,_,_,_,_,_,_,_,_,_,_,_,_,_,_,_,O,b,d,f,g,k,l,L.gr a,F,x.gr a,O⟩⟩
    refine Z0 [1,2,3,1000000] (fun B C y=>∃ w cv cw cx b1 cy cz b2 c0 c5 b3 H J bg K bh,bh=B∧Zfp N j bh cv b1 b2 b3 bg K=some r∧St i (Zk col) w y∧Zi 27 1 w y bi (Rt j M S P T Q U R V)∧Zi 27 2 w y bj #[.string (⟨#[]⟩),.slice none (([]:List ByteArray).length) 0,.slice none (([]:List R4).length) 0,.slice none (([]:List R2).length) 0,(.slice none (([]:List R6).length) 0)]∧Zb Zc.str 9 4 w y cw cx b1∧Zb (Zc.row 9 Zc.str) 22 5 w y cy cz b2∧Zb (Zc.row 3 rI) 28 6 w y c0 c5 b3∧Zb (Zc.row 42 (rO 119)) 58 7 w y H J bg∧Zi 27 3 w y bl #[.string cv,.slice cw b1.length cx,.slice cy b2.length cz,.slice c0 b3.length c5,.slice H bg.length J]∧[9].map C=[.int .i64 K]) N ⟨_,_,_,_,_,_,_,_,_,_,_,_,_,_,0,_,O,b,d,f,g,k,l,A,F,h,O⟩ ?_;clear b;intro B C y dk;obtain ⟨w,cv,cw,cx,b1,cy,cz,b2,c0,c5,b3,H,J,bg,K,bh,o,b,d,f,g,X,Y,Z,f0,h,n⟩:=dk;subst o;refine .lL [9] n ?_
    cases bh with
    | zero=>rw [Zfp.eq_1] at b;cases b
    | succ bh=>
     rw [Zfp.eq_2] at b;refine go ?_;refine Xp f ?_;refine go ?_;refine Zp b (fun m b=>go ?_) fun m b=>go ?_
     ·refine Ym (col:=w) [(0,1),(1,0),(2,1),(3,0),(4,1),(5,1),(6,0),(7,3),(8,3),(9,2),(10,1),(11,2)] (by kernel_rfl) (by kernel_rfl)<|xF ⟨_,_,O⟩ ?_;refine xW (fun _ a=>((h.atN).nth (q:=4) O).gr (a.bl w)) ?_;refine xF ⟨_,_,O⟩ ?_;refine xW (fun _ a=>((f.atN).nth (q:=4) O).gr (a.bl w)) ?_;refine xu O O (fun _=>Wu O) ?_;obtain ⟨_,n,b⟩:=bZ b;refine xu O O (fun _=>Wd underlying25 sizeOf58 O O (Xo n).1 (Xo n).2.1 ((ca.ks d).addr n)) ?_;obtain ⟨_,fk,fl⟩:=(ca.ks d).atN n;obtain ⟨⟨_,_,rfl,d0⟩,_⟩:=fk;refine xW (fun _ a=>fl.one.gr (a.bl w)) ?_;refine xe O O ?_;intro _ c;have a:=c.bl w;obtain ⟨m,Q,b⟩:=bZ b;refine Zh (Z3t 12 Q (d0.gr a)) fun _ _ ⟨o,B,C,e',l,i⟩=>⟨_,e',?_⟩;refine Zj<|Xb o c l<|xe O O ?_;intro _ c;replace X:=(X.gr a).gr l;replace Y:=(Y.gr a).gr l;replace Z:=(Z.gr a).gr l;replace f0:=(f0.gr a).gr l;replace f:=(f.gr a).gr l;replace g:=(g.gr a).gr l;replace h:=(h.gr a).gr l;replace d:=(d.grow a).grow l;have a:=c.bl o;refine Ui (col:=o) (r:=(Zc.row 42 (rO 119))) (xs:=[m]) [.slice B m.length C] 12 (Wf.cons1 (cs:=[.slice B m.length C]) (i.gr a).has Rows.nil0) fun _ _ w k U=>Zj<|Xb w c k<|xe O O ?_;intro S c;replace X:=(X.gr a).gr k;replace Y:=(Y.gr a).gr k;replace Z:=(Z.gr a).gr k;replace f0:=(f0.gr a).gr k;replace f:=(f.gr a).gr k;replace g:=(g.gr a).gr k;replace h:=(h.gr a).gr k;replace d:=(d.grow a).grow k;have a:=c.bl w;obtain ⟨A,b⟩:=Z5 b;replace f0:=f0.gr a;refine Zad (col:=w) (w:=S) (r:=(Zc.row 42 (rO 119))) (c:=7) (c2:=12) (f0.ex) ((U.gr a).srcC (by decide)) O underlying25 Z60 O O O A.1 A.2 (by decide) fun M P _ i F k=>Zj<|xk i<|xF ⟨_,_,O⟩ ?_;refine xe O O ?_;intro _ c;replace X:=(X.gr a).kpp F;replace Y:=(Y.gr a).kpp F;replace Z:=(Z.gr a).kpp F;replace f:=(f.gr a).kpp F;replace g:=(g.gr a).kpp F
      replace h:=(h.gr a).kpp F;replace d:=(d.grow a).kpp F;have a:=c.bl i;replace h:=h.gr a;refine Qo (off:=4) (v:=(.slice M ((bg++[m]).length) P)) h sizeOf25 O O (Rv O O) O O ?_;intro R H T c;replace c:Zi 27 3 i R bl #[.string cv,.slice cw b1.length cx,.slice cy b2.length cz,.slice c0 b3.length c5,.slice M ((bg++[m]).length) P]:=c;refine Zj<|xk i ?_;have V:=((k.gr a).kp H).new;refine Yf ?_;replace X:=(X.gr a).kp H;replace Y:=(Y.gr a).kp H;replace Z:=(Z.gr a).kp H;replace f:=(f.gr a).kp H;replace g:=(g.gr a).kp H;replace d:=(d.grow a).kp H T;intro _ a;replace a:=a.bl i;refine go ?_;replace X:=X.gr a;replace Y:=Y.gr a;replace Z:=Z.gr a;replace g:=g.gr a;replace d:=d.grow a;exact ⟨bh,by omega,O,⟨_,_,_,_,_,_,_,_,_,_,_,_,_,_,_,_,O,b,d,f.gr a,g,X,Y,Z,V.gr a,c.gr a,O⟩⟩
     refine lV _ (Zz isAgg27 sizeOf27 h)<|Zs g ?_;intro _ b7 fr ft;refine go ?_;cases b;replace d:=d.kp b7 fr;exact ⟨O,_,ra ft.atN,_,_,_,_,_,_,_,_,_,O,d.fin (cm [(4,c1),(5,c2),(6,c3),(7,c4)]),d.fo (X.kp b7),d.fo (Y.kp b7),d.fo (Z.kp b7),d.fo (f0.kp b7)⟩
def Zh8 (N:Nat) (a:R1):Option Bool:=
  (Tq N (a.1,a.2.1,a.2.2.1,a.2.2.2.1,a.2.2.2.2)).bind fun b=>(Zgl N (b.1,b.2.1,b.2.2.1,b.2.2.2.1,b.2.2.2.2)).bind fun c=>some (decide (c=0))
theorem Z3o {N j k l n:Nat} {o p q s:Option Addr} {col:Zg} {b:World} {a:R1} {r:Bool} (e:Zh8 N a=some r) (c:Sl Zc.str col b o j a.2.1) (d:Sl rV col b p k a.2.2.1) (f:Sl rP col b q l a.2.2.2.1) (g:Sl (Zc.slice rQ) col b s n a.2.2.2.2):
    Calls prog 5 #[(.agg (Rt a o j p k q l s n))] b (V6 b r):=by
 refine Xk 2 (m:=7) func5 O O O O O ?_;rw [Zh8.eq_1] at e;have h:=St.start col b;refine go ?_;refine Xj (col:=(Zk col)) 1 O fun _ _ _ x u=>go ?_;refine lV _ (Zz isAgg27 sizeOf27 u) ?_;obtain ⟨_,v,e⟩:=bZ e;replace h:=h.grow x;refine Zh (Zhi 2 3 4 5 v (c.k0.ks h) (d.k0.ks h) (f.k0.ks h) (g.k0.ks h)) fun _ _ ⟨B,_,_,_,_,_,_,_,_,i,C,w,y,z,A⟩=>⟨_,i,?_⟩;obtain ⟨_,t,e⟩:=bZ e;refine Zh (Z43 t ((((w.toSlF Ze.str).froz 3).froz 4).froz 5) ((((y.froz 2).toSlF (Ze.row Ze.str)).froz 4).froz 5) ((((z.froz 2).froz 3).toSlF (Ze.row (Ze.int .i64))).froz 5) ((((A.froz 2).froz 3).froz 4).toSlF (Ze.row (Ze.pair (Ze.pair Ze.bool (Ze.row (Ze.int .u32))) (Ze.row (Ze.int .u32)))))) fun _ _ ⟨i,m⟩=>⟨_,i,?_⟩;replace m:=Ru B m;refine go ?_;cases e;exact ⟨O,O,((h.grow C).grow m).below⟩
def Zfg (N:Nat) (a:R1) (c:Int):Nat→Int→Int→Option Bool
  | 0,_,_=>none
  | f+1,d,b=>if (decide (b<(a.2.2.1.length:Int)))=true then ((Zn a.2.2.1 b).bind fun e=>if (decide (c<(i64.wrap (d * (e.length:Int)))))=true then (some false) else ((Zfg N a c f) (i64.wrap (d * (e.length:Int))) (i64.wrap (b+1)))) else (some true)
def Zh7 (N:Nat) (a:R1) (b:Int):Option Bool:=
  Zfg N a b N 1 0
theorem Z3n {N i j k l:Nat} {o p q s:Option Addr} {col:Zg} {c:World} {a:R1} {t:Int} {r:Bool} (b:Zh7 N a t=some r) (H:Sl Zc.str col c o i a.2.1) (g:Sl rV col c p j a.2.2.1) (G:Sl rP col c q k a.2.2.2.1) (I:Sl (Zc.slice rQ) col c s l a.2.2.2.2):
    Calls prog 6 #[(.agg (Rt a o i p j q k s l)),.int .i64 t] c (V6 c r):=by
 refine Xk 4 (m:=25) func6 O O O O O ?_;rw [Zh7.eq_1] at b;have d:=St.start col c;refine go ?_;refine Xj (col:=(Zk col)) 1 O fun F _ _ B h=>go ?_;replace d:=d.grow B;refine Z0 [1,2,1000000] (fun z A n=>∃ u v w e,e=z∧Zfg N a t e v w=some r∧St c (Zk col) u n∧Zi 27 1 u n F (Rt a o i p j q k s l)∧[5,6].map A=[.int .i64 v,.int .i64 w]) N ⟨_,1,0,_,O,b,d,h,O⟩ ?_;clear b;intro z A n C;obtain ⟨u,v,w,e,x,b,d,h,y⟩:=C;subst x;refine .lL [5,6] y ?_;replace g:=g.k0
 cases e with
 | zero=>rw [Zfg.eq_1] at b;cases b
 | succ e=>
  rw [Zfg.eq_2] at b;refine go ?_;refine Xp h ?_;refine go ?_;refine Zp b (fun f b=>go ?_) fun f b=>go ?_
  ·refine Xp h<|Xy O ?_;obtain ⟨_,m,b⟩:=bZ b;refine lI m ((g.ks d).addr m) ?_;obtain ⟨_,D,E⟩:=(g.ks d).atN m;obtain ⟨⟨_,_,rfl,_⟩,_⟩:=D;refine lW E.one<|go ?_;refine Zp b (fun f b=>go ?_) fun f b=>go ?_
   ·cases b;exact ⟨O,O,d.below⟩
   exact ⟨e,by omega,O,⟨_,_,_,_,O,b,d,h,O⟩⟩
  cases b;exact ⟨O,O,d.below⟩
def T8 (N:Nat) (a:R0) (b:R0):Option Bool:=
  (Zeh N ((a.1.1,a.1.2),a.2) ((b.1.1,b.1.2),b.2)).bind fun c=>some (decide (c=0))
theorem Zhh {N l n o p:Nat} {q s t u:Option Addr} {col:Zg} {a:World} {b c:R0} {r:Bool} (e:T8 N b c=some r) (d:Sl rU col a q l b.1.2) (f:Sl rU col a s n b.2) (g:Sl rU col a t o c.1.2) (i:Sl rU col a u p c.2):
    Calls prog 11 #[(.agg #[.bool b.1.1,.slice q b.1.2.length l,.slice s b.2.length n]),(.agg #[.bool c.1.1,.slice t c.1.2.length o,.slice u c.2.length p])] a (V6 a r):=by
 refine Xk 4 (m:=9) func11 O O O O O ?_;rw [T8.eq_1] at e;have h:=St.start col a;refine go ?_;refine Xj (col:=(Zk col)) 1 O fun _ _ v z x=>Xj (col:=v) 2 O fun _ _ A m y=>go ?_;refine lV _ (Zz isAgg42 sizeOf42 (x.gr m))<|lV _ (Zz isAgg42 sizeOf42 y) ?_;obtain ⟨_,w,e⟩:=bZ e;replace h:=(h.grow z).grow m;refine Zh (Zq4 w (d.k0.ks h) (f.k0.ks h) (g.k0.ks h) (i.k0.ks h)) fun _ _ ⟨k,j⟩=>⟨_,k,?_⟩;replace j:=Ru A j;refine go ?_;cases e;exact ⟨O,O,(h.grow j).below⟩
def Zfh (N:Nat) (b c:List Int):Nat→Int→Option Bool
  | 0,_=>none
  | d+1,a=>if (decide (a<(b.length:Int)))=true then ((Zn b a).bind fun e=>(Zn c a).bind fun f=>if (!decide (e=f))=true then (some false) else ((Zfh N b c d) (i64.wrap (a+1)))) else (some true)
def Zh9 (N:Nat) (a b:List Int):Option Bool:=
  if (!decide ((a.length:Int)=(b.length:Int)))=true then (some false) else (Zfh N a b N 0)
theorem Zus {N o p:Nat} {l m:Option Addr} {col:Zg} {c:World} {g i:R2} {r:Bool} (a:Zh9 N g i=some r) (e:Sl rI col c l o g) (f:Sl rI col c m p i):
    Calls prog 17 #[.slice l g.length o,.slice m i.length p] c (V6 c r):=by
 refine Xk 4 (m:=26) func17 O O O O O ?_;rw [Zh9.eq_1] at a;have b:=St.start col c;refine go ?_;replace e:=e.k0;replace f:=f.k0;refine Zp a (fun d a=>go ?_) fun d a=>go ?_
 ·cases a;exact ⟨O,O,b.below⟩
 refine Z0 [0,1,1000000] (fun v w x=>∃ h s j,j=v∧Zfh N g i j s=some r∧St c (Zk col) h x∧[5].map w=[.int .i64 s]) N ⟨_,0,_,O,a,b,O⟩ ?_;clear a;intro v w x y;obtain ⟨h,s,j,t,a,b,u⟩:=y;subst t;refine .lL [5] u ?_
 cases j with
 | zero=>rw [Zfh.eq_1] at a;cases a
 | succ j=>
  rw [Zfh.eq_2] at a;refine go ?_;refine Zp a (fun d a=>go ?_) fun d a=>go ?_
  ·refine Vp (col:=h) (by kernel_rfl) (by kernel_rfl)<|go ?_;obtain ⟨_,n,a⟩:=bZ a;refine qI n ((e.ks b).addr n)<|qW (fun _ k=>((e.ks b).gr (k.bl h)).atInt n) ?_;refine go ?_;obtain ⟨_,q,a⟩:=bZ a;refine qI q ((f.ks b).addr q)<|qW (fun _ k=>((f.ks b).gr (k.bl h)).atInt q) ?_;refine go ?_;refine Wj ?_;intro _ k;replace b:=b.grow (k.bl h);refine Zp a (fun d a=>go ?_) fun d a=>go ?_
   ·cases a;exact ⟨O,O,b.below⟩
   exact ⟨j,by omega,O,⟨_,_,_,O,a,b,O⟩⟩
  cases a;exact ⟨O,O,b.below⟩
section
variable {N:Nat} (hN:1066000000001<N)
include hN
theorem Z13 {a:List Int} (h:a.length≤1066000000000):Zlm N a=some a:=by
 have L:∀ (f i:Nat),i≤a.length→a.length<f+i→Zfl N a f (a.take i) (i:Int)=some a:=by
  intro f
  induction f with
  | zero=>intro i b c;omega
  | succ f d=>
   intro i b c
   rw [Zfl.eq_2]
   by_cases hi:i<a.length
   ·have:=d (i+1) (by omega) (by omega)
    rw [bC hi] at this
    rw [if_pos (dT (by omega)),Xd hi,oB,Xh (by simp only [nK,aL,maxLen];omega),wS (by omega)]
    exact this
   ·rw [if_neg (dF (by omega)),bG (by omega)]
 exact L N 0 (bL _) (by omega)
theorem Zqc {a:List Int} (h:a.length≤1048576):Zfj N a=some a:=by
 have L:∀ (f i:Nat),i≤a.length→a.length<f+i→Zfk N a f (a.take i) (i:Int)=some a:=by
  intro f
  induction f with
  | zero=>intro i b c;omega
  | succ f d=>
   intro i b c
   rw [Zfk.eq_2]
   by_cases hi:i<a.length
   ·have:=d (i+1) (by omega) (by omega)
    rw [bC hi] at this
    rw [if_pos (dT (by omega)),Xd hi,oB,Xh (by simp only [nK,aL,maxLen];omega),wS (by omega)]
    exact this
   ·rw [if_neg (dF (by omega)),bG (by omega)]
 exact L N 0 (bL _) (by omega)
theorem Xa0 {t:List QV} (h:t.length≤1048576) (hx:∀ x ∈ t,x.1.2.length≤1066000000000∧x.2.length≤1066000000000):Zot N t=some t:=by
 have L:∀ (f i:Nat),i≤t.length→t.length<f+i→Zfq N t f (t.take i) (i:Int)=some t:=by
  intro f
  induction f with
  | zero=>intro i b c;omega
  | succ f d=>
   intro i b c
   rw [Zfq.eq_2]
   by_cases hi:i<t.length
   ·have:=d (i+1) (by omega) (by omega)
    have a:=hx _ (aJ hi)
    have e:Zln N ((t[i].1.1,t[i].1.2),t[i].2)=some t[i]:=by
     rw [Zln,Z13 hN a.1,oB,Z13 hN a.2];rfl
    rw [bC hi] at this
    rw [if_pos (dT (by omega)),Xd hi,oB,e,oB,Xh (by simp only [nK,aL,maxLen];omega),wS (by omega)]
    exact this
   ·rw [if_neg (dF (by omega)),bG (by omega)]
 exact L N 0 (bL _) (by omega)
structure Zkq (n:Z4):Prop where
 nm:n.2.1.length≤1048576
 vn:n.2.2.1.length≤1048576
 vl:∀ l ∈ n.2.2.1,l.length≤1048576
 pn:n.2.2.2.1.length≤1048576
 pl:∀ l ∈ n.2.2.2.1,l.length≤1048576
 tn:n.2.2.2.2.length≤1048576
 tl:∀ t ∈ n.2.2.2.2,t.length≤1048576
 tm:∀ t ∈ n.2.2.2.2,∀ x ∈ t,x.1.2.length≤1066000000000∧x.2.length≤1066000000000
variable {n:Z4} (hb:Zkq n)
include hb
theorem Z18:∀ (f i:Nat),i≤n.2.2.2.2.length→n.2.2.2.2.length<f+i→Zfp N n f n.1 n.2.1 n.2.2.1 n.2.2.2.1 (n.2.2.2.2.take i) (i:Int)=some n
 | 0,i,b,c=>by omega
 | f+1,i,b,c=>by
  have d:=hb.tn
  rw [Zfp.eq_2]
  by_cases hi:i<n.2.2.2.2.length
  ·have a:=Z18 f (i+1) (by omega) (by omega)
   rw [bC hi] at a
   rw [if_pos (dT (by omega)),Xd hi,oB,Xa0 hN (hb.tl _ (aJ hi)) (hb.tm _ (aJ hi)),oB,Xh (by simp only [nK,aL,maxLen];omega),wS (by omega)]
   exact a
  ·rw [if_neg (dF (by omega)),bG (by omega)]
theorem Z17:∀ (f i:Nat),i≤n.2.2.2.1.length→n.2.2.2.1.length<f+i→Zfo N n f n.1 n.2.1 n.2.2.1 (n.2.2.2.1.take i) [] (i:Int)=some n
 | 0,i,b,c=>by omega
 | f+1,i,b,c=>by
  have d:=hb.pn
  rw [Zfo.eq_2]
  by_cases hi:i<n.2.2.2.1.length
  ·have a:=Z17 f (i+1) (by omega) (by omega)
   rw [bC hi] at a
   rw [if_pos (dT (by omega)),Xd hi,oB,Zqc hN (hb.pl _ (aJ hi)),oB,Xh (by simp only [nK,aL,maxLen];omega),wS (by omega)]
   exact a
  ·have e:=hb.tn
   rw [if_neg (dF (by omega)),bG (by omega)]
   exact Z18 hN hb N 0 (bL _) (by omega)
omit hN hb in
theorem Z16 {i:Nat} (hi:i<n.2.2.1.length) (hl:n.2.2.1[i].length≤1048576) (m1:ByteArray) (m2:List ByteArray) (m3:List R4) (m4:List R2) (m5:List (List QV)) (h3:m3.length≤1048576) (h6:n.2.2.1.length≤1048576) (kk:ByteArray→List ByteArray→List R4→List R2→List (List QV)→Int→Option Z4):∀ (f k:Nat),k≤n.2.2.1[i].length→n.2.2.1[i].length<f+k→Zfn N n m1 m2 m3 m4 m5 (i:Int) kk f (n.2.2.1[i].take k) (k:Int)=kk m1 m2 (m3++[n.2.2.1[i]]) m4 m5 ((i+1:Nat):Int)
 | 0,k,b,c=>by omega
 | f+1,k,b,c=>by
  rw [Zfn.eq_2,Xd hi,oB]
  by_cases hk:k<n.2.2.1[i].length
  ·have a:=Z16 hi hl m1 m2 m3 m4 m5 h3 h6 kk f (k+1) (by omega) (by omega)
   rw [bC hk] at a
   rw [if_pos (dT (by omega)),Xd hk,oB,Xh (by simp only [nK,aL,maxLen];omega),wS (by omega)]
   exact a
  ·rw [if_neg (dF (by omega)),bG (by omega),Xh (by simp only [aL,maxLen];omega),wS (by omega)]
theorem Z15:∀ (f i:Nat),i≤n.2.2.1.length→n.2.2.1.length<f+i→Zb9 N n f n.1 n.2.1 (n.2.2.1.take i) [] [] (i:Int)=some n
 | 0,i,e,g=>by omega
 | f+1,i,e,g=>by
  have a:=hb.vn
  rw [Zb9.eq_2]
  by_cases hi:i<n.2.2.1.length
  ·have b:=hb.vl _ (aJ hi)
   have c:=Z15 f (i+1) (by omega) (by omega)
   rw [bC hi] at c
   have d:=Z16 (N:=N) hi b n.1 n.2.1 (n.2.2.1.take i) [] [] (by rw [nK];omega) a (Zb9 N n f) N 0 (bL _) (by omega)
   rw [List.take_zero] at d
   rw [if_pos (dT (by omega))]
   exact d.trans c
  ·have j:=hb.pn
   rw [if_neg (dF (by omega)),bG (by omega)]
   exact Z17 hN hb N 0 (bL _) (by omega)
theorem Z14:∀ (f i:Nat),i≤n.2.1.length→n.2.1.length<f+i→Zfm N n f n.1 (n.2.1.take i) [] [] [] (i:Int)=some n
 | 0,i,b,c=>by omega
 | f+1,i,b,c=>by
  have d:=hb.nm
  rw [Zfm.eq_2]
  by_cases hi:i<n.2.1.length
  ·have a:=Z14 f (i+1) (by omega) (by omega)
   rw [bC hi] at a
   rw [if_pos (dT (by omega)),Xd hi,oB,Xh (by simp only [nK,aL,maxLen];omega),wS (by omega)]
   exact a
  ·have e:=hb.vn
   rw [if_neg (dF (by omega)),bG (by omega)]
   exact Z15 hN hb N 0 (bL _) (by omega)
theorem Zkj:Tq N n=some n:=by
 have a:=hb.nm
 rw [Tq]
 exact Z14 hN hb N 0 (bL _) (by omega)
theorem Xa1 {e:Int} (h:Zgl N n=some e):Zh8 N n=some (decide (e=0)):=by
 have a:Tq N (n.1,n.2.1,n.2.2.1,n.2.2.2.1,n.2.2.2.2)=some n:=Zkj hN hb
 have b:Zgl N (n.1,n.2.1,n.2.2.1,n.2.2.2.1,n.2.2.2.2)=some e:=h
 rw [Zh8,a,oB,b];rfl
end
/-! how many assignments -/
theorem Zw2 (N:Nat) {n:Z4} (hv:n.2.2.1.length≤1048576) (hl:∀ l ∈ n.2.2.1,0<l.length∧l.length≤1048576):∀ (f i k:Nat),i≤n.2.2.1.length→n.2.2.1.length<f+i→1≤k→k≤300→∃ b,Zfg N n 300 f (k:Int) (i:Int)=some b∧(b=true→k * X2 ((Yx n).drop i)≤300)
 | 0,i,k,d,g,_,_=>by omega
 | f+1,i,k,d,g,j,m=>by
  rw [Zfg.eq_2]
  by_cases hi:i<n.2.2.1.length
  ·obtain ⟨o,p⟩:=hl _ (aJ hi)
   have t:k * n.2.2.1[i].length≤300 * 1048576:=Nat.mul_le_mul m p
   have a:1≤k * n.2.2.1[i].length:=Nat.mul_pos j o
   have c:i<(Yx n).length:=by rw [Yx,bE];exact hi
   have e:(Yx n)[i]=n.2.2.1[i].length:=by simp only [Yx,fG]
   have q:i64.wrap ((k:Int) * (n.2.2.1[i].length:Int))=((k * n.2.2.1[i].length:Nat):Int):=by
    rw [← bH];exact Zy (by omega)
   rw [if_pos (dT (by omega)),Xd hi,oB,q]
   by_cases h:300<k * n.2.2.1[i].length
   ·rw [if_pos (dT (by omega))]
    exact ⟨false,rfl,fun h=>by cases h⟩
   ·obtain ⟨b,r,s⟩:=Zw2 N hv hl f (i+1) (k * n.2.2.1[i].length) (by omega) (by omega) a (by omega)
    rw [if_neg (dF (by omega)),wS (by omega)]
    refine ⟨b,r,fun hb=>?_⟩
    rw [List.drop_eq_getElem_cons c,X2,e,← Nat.mul_assoc]
    exact s hb
  ·rw [if_neg (dF (by omega))]
   exact ⟨true,rfl,fun _=>by rw [List.drop_of_length_le (by rw [Yx,bE];omega),X2];omega⟩
theorem Z67 {N:Nat} {n:Z4} (hN:2000000<N) (hv:n.2.2.1.length≤1048576) (hl:∀ l ∈ n.2.2.1,0<l.length∧l.length≤1048576):∃ b,Zh7 N n 300=some b∧(b=true→X2 (Yx n)≤300):=by
 obtain ⟨b,c,a⟩:=Zw2 N hv hl N 0 1 (bL _) (by omega) (by omega) (by omega)
 rw [List.drop_zero,Nat.one_mul] at a
 exact ⟨b,by rw [Zh7];exact c,a⟩
/-! which observations may be -/
/-! fractions held against one another -/
theorem Z2u {N k l:Nat} {a b:QV} (ha:RV k a) (hb:RV l b) (hr:Z8 N (2 * (k+l+3))):T8 N a b=some (decide (Vf (Zq a) (Zq b)=0)):=by
 have h:Zeh N ((a.1.1,a.1.2),a.2) ((b.1.1,b.1.2),b.2)=_:=Ztj ha hb hr
 rw [T8,h];rfl
theorem Z1m {N:Nat} {l:List Int} (hl:l.length≤1048576) (hN:1048577<N):Zh9 N l l=some true:=by
 have L:∀ (f i:Nat),i≤l.length→l.length<f+i→Zfh N l l f (i:Int)=some true:=by
  intro f
  induction f with
  | zero=>intro i a b;omega
  | succ f c=>
   intro i a b
   rw [Zfh.eq_2]
   by_cases hi:i<l.length
   ·rw [if_pos (dT (by omega)),Xd hi,oB,oB,if_neg (by rw [decide_eq_true rfl];decide),wS (by omega)]
    exact c (i+1) (by omega) (by omega)
   ·rw [if_neg (dF (by omega))]
 rw [Zh9,if_neg (by rw [decide_eq_true rfl];decide)]
 exact L N 0 (bL _) (by omega)
abbrev Zqm:=ByteArray×List ByteArray×List R4×List R2×List (List QV)
structure Znr (n:Zqm):Prop where
 nm:n.2.1.length≤1048576
 vn:n.2.2.1.length≤1048576
 vl:∀ l ∈ n.2.2.1,l.length≤1048576
 pn:n.2.2.2.1.length≤1048576
 pl:∀ l ∈ n.2.2.2.1,l.length≤1048576
 tn:n.2.2.2.2.length≤1048576
 tl:∀ t ∈ n.2.2.2.2,t.length≤1048576
 tm:∀ t ∈ n.2.2.2.2,∀ x ∈ t,x.1.2.length≤1048576∧x.2.length≤1048576
def Zaj (N:Nat) (b c:Int):Option R0:=
  (Zmh N b c).bind fun a=>some ((a.1.1.1,a.1.1.2),a.1.2)
theorem Zkv {N:Nat} {col:Zg} {c:World} {k l:Int} {r:R0} (g c2:Nat) (b:Zaj N k l=some r):
    Calls prog 15 #[.int .i64 k,.int .i64 l] c (V7 119 g c2 col c r):=by
 refine Yb (m:=14) func15 O O O ?_;rw [Zaj.eq_1] at b;have d:=St.start col c;refine go ?_;refine Xc (col:=(Zk col)) #[.bool false,(nI),(nI)] 1 zeroValue42 fun _ _ u A z=>go ?_;obtain ⟨a,s,b⟩:=bZ b;refine Zh (Zva (col:=u) 2 3 s) fun _ _ ⟨y,j,m,n,o,i,p,B,C⟩=>⟨_,i,?_⟩;refine lM (.tuple #[(.agg #[.bool a.1.1.1,.slice j a.1.1.2.length m,.slice n a.1.2.length o]),.int .i64 a.2])<|lV (.agg #[.bool a.1.1.1,.slice j a.1.1.2.length m,.slice n a.1.2.length o]) (Xl O O)<|lV (.int .i64 a.2) (Xl O O)<|Xc (col:=y) #[.bool false,(nI),(nI)] 4 zeroValue42 ?_;intro _ _ _ f q;refine Zs q fun _ e x t=>go ?_;refine lV _ (Zz isAgg42 sizeOf42 t) ?_;refine Zs (((z.gr p).gr f).kp e) fun _ h v w=>go ?_;cases b;replace d:=((((d.grow A).grow p).grow f).kp e x).kp h v;exact ⟨O,_,ra w.atN,_,_,_,_,_,O,d.fin (cm [(2,g),(3,c2)]),d.fo (((B.gr f).kp e).kp h),d.fo (((C.gr f).kp e).kp h)⟩
def Zlt (a:List Int):List Rb→Option Bool
  | []=>some true
  | b :: c=>(Zn a b.1).bind fun d=>if (!decide (d=b.2))=true then (some false) else (Zlt a c)
def Zsb (a:List Int) (b:Rg):Option Bool:=
  Zlt a b
theorem Z37 {p s:Nat} {n o:Option Addr} {col:Zg} {e:World} {j:R2} {c:Rg} {r:Bool} (a:Zsb j c=some r) (g:Sl rI col e n p j) (f:Sl (Zc.pair rI rI) col e o s c):
    Calls prog 105 #[.slice n j.length p,.slice o c.length s] e (V6 e r):=by
 refine Xk 4 (m:=22) func105 O O O O O ?_;rw [Zsb.eq_1] at a;have b:=St.start col e;refine go ?_;refine Z0 [0,7,8,1000000] (fun z A B=>∃ v m k,z=k.length∧c.drop m=k∧Zlt j k=some r∧St e (Zk col) v B∧[9].map A=[.int .i64 m]) c.length ⟨_,0,_,O,O,a,b,O⟩ ?_;clear a;intro z A B G;obtain ⟨v,m,k,x,q,a,b,y⟩:=G;subst x;refine .lL [9] y ?_;replace g:=g.k0;replace f:=f.k0
 cases k with
 | nil=>
  have i:¬ ((m:Int)<(c.length:Int)):=by have:=aF.1 q;omega
  have d:=decide_eq_false i;rw [Zlt.eq_1] at a;refine go ?_;refine Yd (congrArg Value.bool d)<|go ?_;cases a;exact ⟨O,O,b.below⟩
 | cons D N=>
  obtain ⟨u,P,Q⟩:=Yo q;have i:(m:Int)<(c.length:Int):=by omega
  have d:=decide_eq_true i;rw [Zlt.eq_2] at a;refine go ?_;refine Ye (congrArg Value.bool d)<|go ?_;refine lI u ((f.ks b).addr u) ?_;obtain ⟨_,I,J⟩:=(f.ks b).atN u;obtain ⟨_,_,rfl,F,H⟩:=Yw I;obtain ⟨rfl,_⟩:=F;obtain ⟨rfl,_⟩:=H;refine lV (.agg #[.int .i64 D.1,.int .i64 D.2]) (Xi isAgg62 sizeOf62 O O J)<|Xc (col:=v) #[.int .i64 0,.int .i64 0] 1 zeroValue62 ?_;intro _ _ l M E;refine Zs E fun _ K L C=>go ?_;refine Vp (col:=l) (by kernel_rfl) (by kernel_rfl)<|go ?_;refine qF ⟨_,_,O⟩ ?_;refine qW (fun _ h=>((C.atN).nth (q:=0) O).gr (h.bl l)) ?_;obtain ⟨_,t,a⟩:=bZ a;replace b:=(b.grow M).kp K L;refine qI t ((g.ks b).addr t)<|qW (fun _ h=>((g.ks b).gr (h.bl l)).atInt t) ?_;refine qF ⟨_,_,O⟩ ?_;refine qW (fun _ h=>((C.atN).nth (q:=1) O).gr (h.bl l)) ?_;refine go ?_;refine Wj ?_;intro _ h;replace b:=b.grow (h.bl l);refine Zp a (fun w a=>go ?_) fun w a=>go ?_
  ·cases a;exact ⟨O,O,b.below⟩
  exact ⟨N.length,by simp,O,⟨_,_,_,O,P,a,b,(Yv (congrArg (Value.int .i64) (Yp (aG Q (f.ks b).1.1))) O)⟩⟩
def Zis (N:Nat) (e:Rg):List Re→Bool→R2→R2→Option R0
  | [],a,b,c=>some ((a,b),c)
  | d :: g,a,b,c=>(Zsb d.1 e).bind fun i=>if i=true then ((Uk N ((a,b),c) ((d.2.1.1,d.2.1.2),d.2.2)).bind fun f=>(Zis N e g) f.1.1 f.1.2 f.2) else ((Zis N e g) a b c)
def Zsc (N:Nat) (a:R1) (c:Rg):Option R0:=
  (Zam N ([]:List R0)).bind fun b=>(Zfr N (a.1,a.2.1,a.2.2.1,a.2.2.2.1,a.2.2.2.2)).bind fun d=>Zis N c d b.1.1 b.1.2 b.2
theorem Z38 {N W X y C L:Nat} {i m p q x:Option Addr} {col:Zg} {k:World} {d:R1} {u:Rg} {r:R0} (H c2:Nat) (e:Zsc N d u=some r) (ae:Sl Zc.str col k i W d.2.1) (af:Sl rV col k m X d.2.2.1) (ag:Sl rP col k p y d.2.2.2.1) (ah:Sl (Zc.slice rQ) col k q C d.2.2.2.2) (c:Sl (Zc.pair rI rI) col k x L u):
    Calls prog 51 #[(.agg (Rt d i W m X p y q C)),.slice x u.length L] k (V7 119 H c2 col k r):=by
 refine Zrb (m:=20) (args:=[(.agg (Rt d i W m X p y q C)),.slice x u.length L]) func51 O O O ?_;rw [Zsc.eq_1] at e;have g:=St.start col k;replace c:=c.k0;have b:Yq 499 (Zk col) k []:=.nil;refine go ?_;refine Xj (col:=(Zk col)) 1 O fun _ _ p s C=>Zdn (col:=p) (v:=(.slice x u.length L)) 2 O O ?_;intro av q y V j;replace j:Zi 63 2 y q av #[.slice x u.length L]:=j;refine Xc (col:=y) #[.bool false,(nI),(nI)] 3 zeroValue42 fun a8 _ Y w l=>go ?_;obtain ⟨v,D,e⟩:=bZ e;refine Zh (Zhj (col:=Y) 4 5 D Sl.nil) fun _ _ ⟨F,bc,bd,be,bf,G,h,al,am⟩=>⟨_,G,?_⟩;refine Xc (col:=F) #[.bool false,(nI),(nI)] 6 zeroValue42 fun bg _ _ J i=>Zs i fun _ I m n=>go ?_;refine lV _ (Zz isAgg27 sizeOf27 (((((C.gr V).gr w).gr h).gr J).kp I)) ?_;obtain ⟨bj,i,e⟩:=bZ e;replace g:=(((((g.grow s).grow V).grow w).grow h).grow J).kp I m;refine Zh (Zuv 7 i (ae.k0.ks g) (af.k0.ks g) (ag.k0.ks g) (ah.k0.ks g)) ?_;rintro _ b8 ⟨bm,b9,rfl,E,bn⟩;refine ⟨_,O,go ?_⟩;replace c:=((((((c.gr s).gr V).gr w).gr h).gr J).kp I).gr E;replace b:=((((((b.gr s).gr V).gr w).gr h).gr J).kp I).gr E;replace j:=((((j.gr w).gr h).gr J).kp I).gr E;replace l:=(((l.gr h).gr J).kp I).gr E;replace n:=n.gr E;replace g:=g.grow E
 refine Znk (psl:=[11,12]) (arr:=(fun (V:List Int×R0) (col:Zg) (m:World) (o:List Value)=>∃ C D h i F Y,o=[.slice C V.1.length D,.agg #[.bool V.2.1.1,.slice h V.2.1.2.length i,.slice F V.2.2.length Y]]∧Zb rI 3 7 col m C D V.1∧Sl rU col m h i V.2.1.2∧Sl rU col m F Y V.2.2)) (ys:=bj) (col:=bm) 498 O bn O b O O (by rintro _ _ _ _ ⟨_,_,_,_,_,_,rfl,_⟩;rfl) (fun C t A=>∃ (Z:Bool) (U:Option Addr) (T:Nat) (M:List Int) (S:Option Addr) (R:Nat) (K:List Int),Zis N u C Z M K=some r∧St k (Zk col) t A∧Sl (Zc.pair rI rI) t A x L u∧Zi 63 2 t A av #[.slice x u.length L]∧Zi 42 3 t A a8 #[.bool false,(nI),(nI)]∧Zb rU 119 4 t A U T M∧Zb rU 119 5 t A S R K∧Zi 42 6 t A bg #[.bool Z,.slice U M.length T,.slice S K.length R]) (fun _ _ _=>False) ?_ ?_ ⟨v.1.1,bc,bd,v.1.2,be,bf,v.2,e,g,c,j,l,((al.gr J).kp I).gr E,((am.gr J).kp I).gr E,n⟩ ?_ ?_ ?_
 ·intro C t A _ _ z w;obtain ⟨Z,U,T,M,S,R,K,e,g,c,j,l,P,Q,n⟩:=z;exact ⟨Z,U,T,M,S,R,K,e,g.kpp w O O,c.kpp w O,j.kpp w O,l.kpp w O,P.kpp w O O,Q.kpp w O O,n.kpp w O⟩
 ·intro _ _ _ _ _ bl _;exact bl
 ·intro _ _ _ _ _ t A o z a b B;obtain ⟨Z,U,T,M,S,R,K,e,g,c,j,l,P,Q,n⟩:=z;rw [Zis.eq_2] at e;have f:=Zu.refl (pC 2) t A;obtain ⟨_,_,_,_,_,_,rfl,an,ao,ap⟩:=B;refine go ?_;refine Xc (col:=t) #[.bool false,(nI),(nI)] 8 zeroValue42 fun _ _ x s h=>Zs h fun _ q J B=>Zj ?_;replace a:=(a.gr s).kp q;refine ⟨_,a,?_⟩;intro _ _ p I v;have a:=v;refine go ?_;replace j:=((j.gr s).kp q).kp p;refine lW j.at1 ?_;obtain ⟨_,w,e⟩:=bZ e;replace c:=((c.gr s).kp q).kp p;refine Zh (Z37 w ((((an.gr s).kp q).kp p).toSlF (Ze.int .i64)) (c.froz 7)) fun _ V ⟨G,m⟩=>⟨_,G,?_⟩;replace m:=Ru x m;refine Zj ?_;replace P:=(((P.gr s).kp q).kp p).gr m;replace Q:=(((Q.gr s).kp q).kp p).gr m;replace l:=(((l.gr s).kp q).kp p).gr m;replace n:=(((n.gr s).kp q).kp p).gr m;replace b:=(((b.gr s).kp q).kp p).gr m;replace f:=(((f.gr s).kp q J O).kp p I O).gr m;replace g:=(((g.grow s).kp q J).kp p I).grow m;replace c:=c.gr m;replace j:=j.gr m;replace a:=a.gr m;refine Zp e (fun o e=>?_) fun o e=>?_
  ·refine Wv<|lV _ (Zz isAgg42 sizeOf42 n)<|lV _ (Zz isAgg42 sizeOf42 ((B.kp p).gr m)) ?_;obtain ⟨o,v,e⟩:=bZ e;refine Zh (Zb3 9 10 v ((P.toSlF (Ze.int .u32)).froz 5) ((Q.froz 4).toSlF (Ze.int .u32)) ((((((ao.gr s).kp q).kp p).gr m).froz 4).froz 5) ((((((ap.gr s).kp q).kp p).gr m).froz 4).froz 5)) fun _ _ ⟨s,I,J,h,p,G,y,Y,F⟩=>⟨_,G,?_⟩;replace Y:=Y.thaw (Zt .u32) y (((Fz.refl (col:=x)).froz 4).froz 5);replace F:=F.thaw (Zt .u32) y (((Fz.refl (col:=x)).froz 4).froz 5);replace y:=y.thawR (col:=x);generalize Z2 V.heap.size x s=x at *;replace n:=n.gr y;refine Zs n fun _ D B G=>Zj ?_;replace c:=(c.gr y).kp D;replace c:=c.recol 9 4;replace Y:=Y.kp D;replace Y:=Y.recolSelf 4 (by decide);replace F:=F.kp D;replace F:=F.recol 9 4;replace j:=(j.gr y).kp D;replace j:=j.recol 9 4;replace l:=(l.gr y).kp D;replace l:=l.recol 9 4;replace G:=G.recol 9 4;replace a:=(a.gr y).kp D;replace a:=a.recol 9 4;replace b:=(b.gr y).kp D;replace b:=b.recol 9 4 (by decide);replace f:=(f.gr y).kp D B O;replace f:=f.recol 9 4 O;replace g:=(g.grow y).kp D B;replace g:=g.recol 9 4 (by decide) (by decide);replace c:=c.recol 10 5;replace F:=F.recolSelf 5 (by decide);replace j:=j.recol 10 5;replace l:=l.recol 10 5;replace a:=a.recol 10 5;replace b:=b.recol 10 5 (by decide);replace f:=f.recol 10 5 O;replace g:=g.recol 10 5 (by decide) (by decide);exact ⟨_,f,⟨o.1.1,I,J,o.1.2,h,p,o.2,e,g,c,j,l,Y.recol 10 5,F,G.recol 10 5⟩,a,b⟩
  refine X1 ?_;exact ⟨_,f,⟨Z,U,T,M,S,R,K,e,g,c,j,l,P,Q,n⟩,a,b⟩
 ·intro bx t A z b;obtain ⟨Z,U,T,M,S,R,K,e,g,c,j,l,P,Q,n⟩:=z;rw [Zis.eq_1] at e;refine go ?_;refine lV _ (Zz isAgg42 sizeOf42 n)<|Zs l ?_;intro _ bp bz au;refine go ?_;cases e;refine ⟨_,(bx :: []),O,b.kp bp,?_⟩;intro _ a b;replace g:=(g.kp bp bz).kp a b;exact ⟨_,Z0p O O isAgg42 sizeOf42 O O (au.kp a).atN,Uc k.heap.size col t (fun z=>bif aH z 4 then H else bif aH z 5 then c2 else 0),U,T,S,R,O,g.fin (fun z=>bif aH z 4 then H else bif aH z 5 then c2 else 0),g.finOwn (g:=(fun z=>bif aH z 4 then H else bif aH z 5 then c2 else 0)) O ((P.kp bp).kp a) (by decide) (by decide) O,g.finOwn (g:=(fun z=>bif aH z 4 then H else bif aH z 5 then c2 else 0)) O ((Q.kp bp).kp a) (by decide) (by decide) O⟩
 intro _ _ _ _ bl;exact bl.elim
def Zsa (N:Nat) (a:R1) (c:Rg):Option (R0×Int):=
  (Zft N (a.1,a.2.1,a.2.2.1,a.2.2.2.1,a.2.2.2.2) c ([]:List Int)).bind fun d=>if (!decide (d.2=0))=true then (some (((false,([]:List Int)),([]:List Int)),d.2)) else ((Zsc N (a.1,a.2.1,a.2.2.1,a.2.2.2.1,a.2.2.2.2) c).bind fun b=>some (((b.1.1,b.1.2),b.2),0))
theorem Z35 {N t u v w x:Nat} {y G B C k:Option Addr} {col:Zg} {d:World} {b:R1} {n:Rg} {r:(R0×Int)} (p c2:Nat) (c:Zsa N b n=some r) (f:Sl Zc.str col d y t b.2.1) (g:Sl rV col d G u b.2.2.1) (i:Sl rP col d B v b.2.2.2.1) (j:Sl (Zc.slice rQ) col d C w b.2.2.2.2) (e:Sl (Zc.pair rI rI) col d k x n):
    Calls prog 20 #[(.agg (Rt b y t G u B v C w)),.slice k n.length x] d (Zkb 119 p c2 col d r):=by
 refine Yb (m:=21) func20 O O O ?_;rw [Zsa.eq_1] at c;have a:=St.start col d;refine go ?_;refine Xj (col:=(Zk col)) 1 O fun _ _ H T m=>Xc (col:=H) #[.bool false,(nI),(nI)] 2 zeroValue42 fun _ _ _ F o=>go ?_;replace m:=m.gr F;refine lV _ (Zz isAgg27 sizeOf27 m)<|Wg O ?_;obtain ⟨l,Q,c⟩:=bZ c;replace f:=f.k0;replace g:=g.k0;replace i:=i.k0;replace j:=j.k0;replace e:=e.k0;replace a:=(a.grow T).grow F;refine Zh (Zuw 3 Q (f.ks a) (g.ks a) (i.ks a) (j.ks a) (e.ks a) Sl.nil) fun _ _ ⟨_,D,E,h,s,_⟩=>⟨_,h,?_⟩;refine lM (.tuple #[.slice D l.1.length E,.int .i64 l.2])<|lV (.slice D l.1.length E) (Xl O O)<|lV (.int .i64 l.2) (Xl O O)<|go ?_;replace o:=o.gr s;replace a:=a.grow s;refine Zp c (fun z c=>go ?_) fun z c=>go ?_
 ·refine lV (.agg #[.bool false,(nI),(nI)]) (Yc (l:=[_,_]) (qs:=[(0,2),(2,1)]) underlying42 zeroValue42 ⟨O,sizeOf40,O,sizeOf38,trivial⟩ O)<|Xy O<|Zs o ?_;intro _ J K M;refine go ?_;cases c;replace a:=a.kp J K;exact ⟨O,_,Tw M.atN,_,none,0,none,0,O,a.fin (cm []),Zb.nil,Zb.nil⟩
 refine lV _ (Zz isAgg27 sizeOf27 (m.gr s))<|Wg O ?_;obtain ⟨_,I,c⟩:=bZ c;refine Zh (Z38 4 5 I (f.ks a) (g.ks a) (i.ks a) (j.ks a) (e.ks a)) fun _ _ ⟨_,_,_,_,_,h,A,R,S⟩=>⟨_,h,?_⟩;refine Zs (o.gr A) fun _ q L P=>go ?_;cases c;replace a:=(a.grow A).kp q L;exact ⟨O,_,Tw P.atN,_,_,_,_,_,O,a.fin (cm [(4,p),(5,c2)]),a.fo (R.kp q),a.fo (S.kp q)⟩
def Zor (a:Bool):Option Bool:=
  some a
def Zr8 (N:Nat):Option Bool:=
  (Zaj N 1 3).bind fun b=>(Zaj N 2 3).bind fun c=>(Zsa N (⟨#[99]⟩,([⟨#[99]⟩]:List ByteArray),([([⟨#[104]⟩,⟨#[116]⟩]:List ByteArray)]:List R4),[([]:List Int)],[[((b.1.1,b.1.2),b.2),((c.1.1,c.1.2),c.2)]]) [(0,1)]).bind fun a=>if (decide (a.2=0))=true then ((Zaj N 2 3).bind fun d=>(T8 N ((a.1.1.1,a.1.1.2),a.1.2) ((d.1.1,d.1.2),d.2)).bind fun e=>Zor e) else (Zor false)
theorem Z3m (N:Nat) (col:Zg) (l:World) (r:Bool) (a:Zr8 N=some r):
    Calls prog 4 #[] l (V6 l r):=by
 refine Xk 0 (m:=27) func4 O O O O O ?_;rw [Zr8.eq_1] at a;have d:=St.start col l;refine go ?_;refine Zoh (col:=(Zk col)) ([⟨#[99]⟩]:List ByteArray) 1 fun z _ j s k=>Zoh (col:=j) ([⟨#[104]⟩,⟨#[116]⟩]:List ByteArray) 2 fun G _ q P H=>Ui (col:=q) (r:=(Zc.row 9 Zc.str)) (xs:=([([⟨#[104]⟩,⟨#[116]⟩]:List ByteArray)]:List R4)) [.slice G (([⟨#[104]⟩,⟨#[116]⟩]:List ByteArray).length) 2] 2 (Wf.cons1 (cs:=[.slice G (([⟨#[104]⟩,⟨#[116]⟩]:List ByteArray).length) 2]) H.has Rows.nil0) fun y _ i K j=>Ui (col:=i) (r:=(Zc.row 3 rI)) (xs:=[([]:List Int)]) [(nI)] 3 (Wf.ofF (Rows.consF (r:=(Zc.row 3 rI)) (x:=([]:List Int)) (cs:=[(nI)]) Z0g Rows.nil0)) ?_;intro q _ A S i;obtain ⟨c,t,a⟩:=bZ a;refine Zh (Zkv (col:=A) 4 5 t) fun _ _ ⟨B,Y,e,f,m,g,J,t,A⟩=>⟨_,g,?_⟩;obtain ⟨b,x,a⟩:=bZ a;refine Zh (Zkv (col:=B) 6 7 x) fun _ L ⟨T,V,W,X,Z,g,p,x,B⟩=>⟨_,g,?_⟩;have Q:=Ys.join (Ys.joinL (Se c.1.1) (t.gr p).has) (A.gr p).has (by decide) (by decide);replace k:=((((k.gr P).gr K).gr S).gr J).gr p;replace k:=k.recol 5 4;replace j:=((j.gr S).gr J).gr p;replace j:=j.recol 5 4;replace i:=(i.gr J).gr p;replace i:=i.recol 5 4;replace d:=(((((d.grow s).grow P).grow K).grow S).grow J).grow p;replace d:=d.recol 5 4 (by decide) (by decide);have p:Ys (rO 119) 4 (Xq 5 4 T) L [.bool c.1.1,.slice Y c.1.2.length e,.slice f c.2.length m] ((c.1.1,c.1.2),c.2):=Q;have M:=Ys.join (Ys.joinL (Se b.1.1) (x.recol 5 4).has) (B.recol 5 4).has (by decide) (by decide);replace k:=k.recol 7 6;replace j:=j.recol 7 6;replace i:=i.recol 7 6;replace d:=d.recol 7 6 (by decide) (by decide);have J:Ys (rO 119) 6 (Xq 7 6 (Xq 5 4 T)) L [.bool b.1.1,.slice V b.1.2.length W,.slice X b.2.length Z] ((b.1.1,b.1.2),b.2):=M
 have R:=Wf.cons (cs:=[.bool c.1.1,.slice Y c.1.2.length e,.slice f c.2.length m]) (p.recol 7 6) (Wf.cons1 (cs:=[.bool b.1.1,.slice V b.1.2.length W,.slice X b.2.length Z]) J Rows.nil0) (by decide) (by decide);replace k:=k.recol 4 6;replace j:=j.recol 4 6;replace i:=i.recol 4 6;replace d:=d.recol 4 6 (by decide) (by decide);refine Ui (col:=(Xq 4 6 (Xq 7 6 (Xq 5 4 T)))) (r:=(rO 119)) (xs:=[((c.1.1,c.1.2),c.2),((b.1.1,b.1.2),b.2)]) [(.agg #[.bool c.1.1,.slice Y c.1.2.length e,.slice f c.2.length m]),(.agg #[.bool b.1.1,.slice V b.1.2.length W,.slice X b.2.length Z])] 6 R fun H _ p R G=>Ui (col:=p) (r:=(Zc.row 42 (rO 119))) (xs:=[[((c.1.1,c.1.2),c.2),((b.1.1,b.1.2),b.2)]]) [.slice H ([((c.1.1,c.1.2),c.2),((b.1.1,b.1.2),b.2)].length) 2] 6 (Wf.cons1 (cs:=[.slice H ([((c.1.1,c.1.2),c.2),((b.1.1,b.1.2),b.2)].length) 2]) G.has Rows.nil0) fun E _ P Q X=>lV (.agg #[.string (⟨#[99]⟩),.slice z (([⟨#[99]⟩]:List ByteArray).length) 1,.slice y (([([⟨#[104]⟩,⟨#[116]⟩]:List ByteArray)]:List R4).length) 1,.slice q ([([]:List Int)].length) 1,.slice E ([[((c.1.1,c.1.2),c.2),((b.1.1,b.1.2),b.2)]].length) 1]) (Yc (l:=[_,_,_,_,_]) (qs:=[(0,1),(1,1),(2,1),(3,1),(4,1)]) underlying27 zeroValue27 ⟨O,sizeOf9,O,sizeOf22,O,sizeOf23,O,sizeOf24,O,sizeOf25,trivial⟩ O)<|Xc (col:=P) #[.string (⟨#[]⟩),.slice none (([]:List ByteArray).length) 0,.slice none (([]:List R4).length) 0,.slice none (([]:List R2).length) 0,(.slice none (([]:List R6).length) 0)] 8 zeroValue27 ?_;intro _ _ F B b;refine Zs b fun _ A V y=>go ?_;refine lV _ (Zz isAgg27 sizeOf27 y)<|lV (.agg #[.int .i64 0,.int .i64 1]) (Yc (l:=[_,_]) (qs:=[(0,1),(1,1)]) underlying62 zeroValue62 ⟨O,sizeOf3,O,sizeOf3,trivial⟩ O)<|Ui (col:=F) (r:=(Zc.pair rI rI)) (xs:=[(0,1)]) [(.agg #[.int .i64 0,.int .i64 1])] 9 (Wf.ofF (Rows.consF (r:=(Zc.pair rI rI)) (x:=(0,1)) (cs:=[.int .i64 0,.int .i64 1]) (Vz (Tx .i64 0) (Tx .i64 1)) Rows.nil0)) ?_;intro _ T M z S
 obtain ⟨h,s,a⟩:=bZ a;refine Zh (Z35 10 11 s ((((((((((k.gr R).gr Q).gr B).kp A).gr z).toSlF Ze.str).froz 2).froz 3).froz 6).froz 9) ((((((((((j.gr R).gr Q).gr B).kp A).gr z).froz 1).toSlF (Ze.row Ze.str)).froz 3).froz 6).froz 9) ((((((((((i.gr R).gr Q).gr B).kp A).gr z).froz 1).froz 2).toSlF (Ze.row (Ze.int .i64))).froz 6).froz 9) ((((((((X.gr B).kp A).gr z).froz 1).froz 2).froz 3).toSlF (Ze.row (Ze.pair (Ze.pair Ze.bool (Ze.row (Ze.int .u32))) (Ze.row (Ze.int .u32))))).froz 9) (((((S.froz 1).froz 2).froz 3).froz 6).toSlF (Ze.pair (Ze.int .i64) (Ze.int .i64)))) fun _ _ ⟨K,U,u,v,w,g,y,n,o⟩=>⟨_,g,?_⟩;replace n:=n.thaw (Zt .u32) y ((((((Fz.refl (col:=M)).froz 1).froz 2).froz 3).froz 6).froz 9) (by decide);replace o:=o.thaw (Zt .u32) y ((((((Fz.refl (col:=M)).froz 1).froz 2).froz 3).froz 6).froz 9) (by decide);replace y:=y.thawR (col:=M);generalize Z2 T.heap.size M K=I at *;refine lM (.tuple #[(.agg #[.bool h.1.1.1,.slice U h.1.1.2.length u,.slice v h.1.2.length w]),.int .i64 h.2])<|lV (.agg #[.bool h.1.1.1,.slice U h.1.1.2.length u,.slice v h.1.2.length w]) (Xl O O)<|lV (.int .i64 h.2) (Xl O O)<|Xc (col:=I) #[.bool false,(nI),(nI)] 12 zeroValue42 ?_;intro _ _ C t c;refine Zs c fun _ s D bn=>Yr O<|Zj<|Zw ?_;replace d:=(((((((d.grow R).grow Q).grow B).kp A V).grow z).grow y).grow t).kp s D;replace n:=(n.gr t).kp s;replace o:=(o.gr t).kp s;refine Wp.cutK [1000000] (fun W D=>∃ E q,Zor q=some r∧St l (Zk col) E D∧[0].map W=[.bool q]) ?_ ?_
 ·intro W D k;obtain ⟨E,q,a,d,z⟩:=k;rw [Zor.eq_1] at a;refine .lL [0] z<|Y5 ?_;cases a;exact ⟨O,O,d.below⟩
 refine Ym (col:=C) [(0,1),(1,1),(2,1),(3,0),(4,3),(5,3),(6,1),(7,1)] (by kernel_rfl) (by kernel_rfl)<|xu O O (fun _=>Wu O) ?_;refine xu O O (fun _=>Zpw _ _ O O) ?_;refine xu O O (fun _=>Zm9 O) ?_;refine X9 a (fun m a=>?_) fun m a=>?_
 ·refine Zg8 (v:=(.agg #[.bool h.1.1.1,.slice U h.1.1.2.length u,.slice v h.1.2.length w])) (b:=decide (h.2=0)) 22 O O O O O (by rw [m];rfl) (fun _ f=>Xi isAgg42 sizeOf42 O O (bn.atN.gr (f.bl C))) ?_;refine xe O O ?_;intro _ e;have f:=e.bl C;refine go ?_;obtain ⟨_,u,a⟩:=bZ a;refine Zh (Zkv (col:=C) 17 18 u) fun _ _ ⟨x,_,_,_,_,g,F,v,L⟩=>⟨_,g,?_⟩;refine Zj<|Xb x e F<|xe O O ?_;intro _ e;replace n:=(n.gr f).gr F;replace o:=(o.gr f).gr F;replace d:=(d.grow f).grow F;have f:=e.bl x;refine go ?_;obtain ⟨w,l,a⟩:=bZ a;refine Zh (Zhh l (((((n.gr f).toSlF (Ze.int .u32)).froz 11).froz 17).froz 18) (((((o.gr f).froz 10).toSlF (Ze.int .u32)).froz 17).froz 18) (((((v.gr f).froz 10).froz 11).toSlF (Ze.int .u32)).froz 18) (((((L.gr f).froz 10).froz 11).froz 17).toSlF (Ze.int .u32))) fun _ _ ⟨g,I⟩=>⟨_,g,?_⟩;replace I:=Ru x I;refine Zj<|Xb x e I<|xu (v:=(.bool w)) O O (fun _=>Xw (congrArg Value.bool m) O) ?_;refine xu O O (fun _=>Zbv O) ?_;refine Yf ?_;replace d:=(d.grow f).grow I;intro _ f;replace f:=f.bl x;replace d:=d.grow f;exact ⟨O,_,_,a,d,O⟩
 refine V1 (b:=decide (h.2=0)) 22 O O O O O (by rw [m];rfl)<|V1 (b:=decide (h.2=0)) 22 O O O O O (by rw [m];rfl)<|V1 (b:=decide (h.2=0)) 22 O O O O O (by rw [m];rfl)<|xu (v:=(.bool false)) O O (fun _=>X0 (congrArg Value.bool m) O) ?_;refine xu O O (fun _=>Zbv O) ?_;refine Yf ?_;intro _ f;exact ⟨O,_,_,a,d.grow (f.bl C),O⟩
theorem Xa6:Zr8 3000000=some true:=by decide+kernel
def Zt4:Option Bool:=some true
theorem Z7z (col:Zg) (a:World) (r:Bool) (b:Zt4=some r):Calls prog 4 #[] a (V6 a r):=by
 cases b;exact Z3m 3000000 col a true Xa6
def Zia (a:Int) (kk_L2:(Int→Int→Option Bool)) (b:Int):Option Bool:=
  kk_L2 b (i64.wrap (a+1))
def Zb8 (N:Nat) (a:Rc) (c:Bool) (d e:List Int) (f:Int) (kk_L1:(Bool→R2→R2→Int→Option Bool)):Nat→Int→Int→Option Bool
  | 0,_,_=>none
  | k+1,g,b=>if (decide (b<(a.length:Int)))=true then ((Zn a b).bind fun i=>(T8 N ((i.1.1.1,i.1.1.2),i.1.2) ((c,d),e)).bind fun l=>if l=true then (Zia b (Zb8 N a c d e f kk_L1 k) b) else (Zia b (Zb8 N a c d e f kk_L1 k) g)) else (if (decide (g<0))=true then (some false) else ((Zn a g).bind fun j=>kk_L1 j.2.1.1 j.2.1.2 j.2.2 (i64.wrap (f+1))))
def Zak (N:Nat) (a:Rc):Nat→Bool→R2→R2→Int→Option Bool
  | 0,_,_,_,_=>none
  | g+1,c,d,e,f=>if (decide (f<(a.length:Int)))=true then (Zb8 N a c d e f (Zak N a g) N (-1) 0) else ((Zaj N 1 1).bind fun b=>(T8 N ((c,d),e) ((b.1.1,b.1.2),b.2)).bind fun i=>some i)
def Zll (N:Nat) (a:Rc):Option Bool:=
  Zak N a N false ([]:List Int) ([]:List Int) 0
theorem Z3p {N X:Nat} {L:Option Addr} {col:Zg} {h:World} {p:Rc} {r:Bool} (a:Zll N p=some r) (e:Sl (Zc.pair rQ rQ) col h L X p):
    Calls prog 18 #[.slice L p.length X] h (V6 h r):=by
 refine Xk 2 (m:=38) func18 O O O O O ?_;rw [Zll.eq_1] at a;have c:=St.start col h;refine go ?_;refine lV (.agg #[.bool false,(nI),(nI)]) (Yc (l:=[_,_]) (qs:=[(0,2),(2,1)]) underlying42 zeroValue42 ⟨O,sizeOf40,O,sizeOf38,trivial⟩ O)<|Xc (col:=(Zk col)) #[.bool false,(nI),(nI)] 1 zeroValue42 ?_;intro W _ _ E D;refine Zs D fun _ B C g=>go ?_;replace c:=(c.grow E).kp B C;refine Z0 [0,3,1000000] (fun G q E=>∃ o u v w l x y m H s,s=G∧Zak N p s u l m H=some r∧St h (Zk col) o E∧Sl rU o E v w l∧Sl rU o E x y m∧Zi 42 1 o E W #[.bool u,.slice v l.length w,.slice x m.length y]∧[4].map q=[.int .i64 H]) N ⟨_,_,none,0,_,none,0,_,0,_,O,a,c,Sl.nil,Sl.nil,g,O⟩ ?_;clear a;intro G q E V;obtain ⟨o,u,v,w,l,x,y,m,H,s,A,a,c,j,k,g,n⟩:=V;subst A;refine .lL [4] n ?_;replace e:=e.k0
 cases s with
 | zero=>rw [Zak.eq_1] at a;cases a
 | succ s=>
  rw [Zak.eq_2] at a;refine go ?_;refine Zp a (fun i a=>go ?_) fun i a=>go ?_
  ·refine Z0 [0,3,4,1000000] (fun G q D=>∃ f S P t,t=G∧Zb8 N p u l m H (Zak N p s) t S P=some r∧St h (Zk col) f D∧Sl rU f D v w l∧Sl rU f D x y m∧Zi 42 1 f D W #[.bool u,.slice v l.length w,.slice x m.length y]∧[5,6].map q=[.int .i64 S,.int .i64 P]) N ⟨_,_,0,_,O,a,c,j,k,g,O⟩ ?_;clear a;intro G q D V;obtain ⟨f,S,P,t,A,a,c,j,k,g,n⟩:=V;subst A;refine .lL [5,6] n ?_
   cases t with
   | zero=>rw [Zb8.eq_1] at a;cases a
   | succ t=>
    rw [Zb8.eq_2] at a;refine go ?_;refine Zp a (fun i a=>?_) fun i a=>go ?_
    ·refine X1<|Zw ?_;refine Wp.cutK [0,3,4,6,1000000] (fun q B=>∃ C R,Zia P (Zb8 N p u l m H (Zak N p s) t) R=some r∧St h (Zk col) C B∧Sl rU C B v w l∧Sl rU C B x y m∧Zi 42 1 C B W #[.bool u,.slice v l.length w,.slice x m.length y]∧[5].map q=[.int .i64 R]) ?_ ?_
     ·intro q B h;obtain ⟨C,R,a,c,j,k,g,n⟩:=h;rw [Zia.eq_1] at a;refine .lL [5] n<|go ?_;exact ⟨t,by omega,O,⟨_,_,_,_,O,a,c,j,k,g,O⟩⟩
     refine go ?_;refine Vp (col:=f) (by kernel_rfl) (by kernel_rfl)<|go ?_;obtain ⟨U,I,a⟩:=bZ a;refine qI I ((e.ks c).addr I)<|qF (Q5 ((e.ks c).addr I)) ?_;obtain ⟨_,ac,ad⟩:=(e.ks c).atN I;obtain ⟨_,_,rfl,J,af⟩:=Yw ac;obtain ⟨_,_,rfl,M,ah⟩:=Yw J;obtain ⟨_,_,rfl,Z,aj⟩:=Yw M;obtain ⟨rfl,_⟩:=Z;obtain ⟨⟨ak,al,rfl,am⟩,_⟩:=aj;obtain ⟨⟨an,ao,rfl,ap⟩,_⟩:=ah;obtain ⟨_,_,rfl,Q,ar⟩:=Yw af;obtain ⟨_,_,rfl,d,av⟩:=Yw Q;obtain ⟨rfl,_⟩:=d;obtain ⟨⟨_,_,rfl,_⟩,_⟩:=av;obtain ⟨⟨_,_,rfl,_⟩,_⟩:=ar;refine qv (v:=(.agg #[.bool U.1.1.1,.slice ak U.1.1.2.length al,.slice an U.1.2.length ao])) O (fun _ b=>Xi isAgg42 sizeOf42 O O (((ad).part 0 3 _ O).gr (b.bl f))) ?_;refine qv O (fun _ b=>Zz isAgg42 sizeOf42 (g.gr (b.bl f))) ?_;obtain ⟨l,m,a⟩:=bZ a;refine qc (v:=(.bool l)) O (fun _ b=>⟨_,_,Zg1 call11 O O,(Zhh m (am.gr (b.bl f)) (ap.gr (b.bl f)) (j.gr (b.bl f)) (k.gr (b.bl f)):).mono fun _ _ n=>⟨n.1,b.trans (.of_below n.2)⟩⟩) ?_;refine Wj ?_;intro _ b;replace b:=b.bl f;replace j:=j.gr b;replace k:=k.gr b;replace g:=g.gr b;replace c:=c.grow b;refine Zp a (fun i a=>go ?_) fun i a=>?_
     ·exact ⟨O,_,_,a,c,j,k,g,O⟩
     refine X1 ?_;exact ⟨O,_,_,a,c,j,k,g,O⟩
    refine Zp a (fun i a=>go ?_) fun i a=>go ?_
    ·cases a;exact ⟨O,O,c.below⟩
    obtain ⟨T,J,a⟩:=bZ a;refine lI J ((e.ks c).addr J)<|Xt (Q5 ((e.ks c).addr J)) ?_;obtain ⟨_,ay,az⟩:=(e.ks c).atN J;obtain ⟨_,_,rfl,Y,a2⟩:=Yw ay;obtain ⟨_,_,rfl,a3,a4⟩:=Yw Y;obtain ⟨_,_,rfl,z,a6⟩:=Yw a3;obtain ⟨rfl,_⟩:=z;obtain ⟨⟨_,_,rfl,_⟩,_⟩:=a6;obtain ⟨⟨_,_,rfl,_⟩,_⟩:=a4;obtain ⟨_,_,rfl,a7,a8⟩:=Yw a2;obtain ⟨_,_,rfl,K,ba⟩:=Yw a7;obtain ⟨rfl,_⟩:=K;obtain ⟨⟨bb,bc,rfl,bi⟩,_⟩:=ba;obtain ⟨⟨bd,be,rfl,bk⟩,_⟩:=a8;refine lV (.agg #[.bool T.2.1.1,.slice bb T.2.1.2.length bc,.slice bd T.2.2.length be]) (Xi isAgg42 sizeOf42 O O ((az).part 3 3 _ O))<|Zs g ?_;intro _ Q e i;refine go ?_;replace c:=c.kp Q e;exact ⟨s,by omega,O,⟨_,_,_,_,_,_,_,_,_,_,O,a,c,bi.kp Q,bk.kp Q,i,O⟩⟩
  refine Ym (col:=o) [(0,0),(1,3),(2,3),(3,1)] (by kernel_rfl) (by kernel_rfl)<|xv O O (fun _ b=>Zz isAgg42 sizeOf42 (g.gr (b.bl o))) ?_;refine xe O O ?_;intro _ d;have b:=d.bl o;obtain ⟨_,f,a⟩:=bZ a;refine Zh (Zkv (col:=o) 2 3 f) fun _ _ ⟨F,_,_,_,_,z,M,g,o⟩=>⟨_,z,?_⟩;refine Zj<|Xb F d M<|xe O O ?_;intro _ d;replace j:=(j.gr b).gr M;replace k:=(k.gr b).gr M;replace c:=(c.grow b).grow M;have b:=d.bl F;obtain ⟨_,Y,a⟩:=bZ a;refine Zh (Zhh Y (((j.gr b).froz 2).froz 3) (((k.gr b).froz 2).froz 3) (((g.gr b).toSlF (Ze.int .u32)).froz 3) (((o.gr b).froz 2).toSlF (Ze.int .u32))) fun _ _ ⟨z,K⟩=>⟨_,z,?_⟩;replace K:=Ru F K;refine Zj<|Xb F d K<|xu O O (fun _=>Zbv O) ?_;refine Yf ?_;replace c:=(c.grow b).grow K;intro _ b;refine Y5 ?_;cases a;exact ⟨O,O,(c.grow (b.bl F)).below⟩
def Zos (a:Int) (kk_L1:(ByteArray→R8→Int→Option Bool)) (b:ByteArray) (c:List R2):Option Bool:=
  kk_L1 b c (i64.wrap (a+1))
def Zic (N:Nat) (a:R1) (g:R8) (f:ByteArray) (d:List R2) (i:Int) (kk_L1:(ByteArray→R8→Int→Option Bool)) (j:Int):Option Bool:=
  (Zn g j).bind fun c=>(Tq N (a.1,a.2.1,a.2.2.1,a.2.2.2.1,a.2.2.2.2)).bind fun b=>(Zfj N c).bind fun k=>(S5 N (b.1,b.2.1,b.2.2.1,b.2.2.2.1,b.2.2.2.2) k).bind fun e=>if (!decide (e.2=0))=true then (some false) else (Z1 (f.size+e.1.size≤maxLen) (Z1 ((d.length+[c].length) * 24≤140737488355328∧d.length+[c].length≤maxLen) (Zos i kk_L1 (f++e.1) (d++[c]))))
def Zfi (c:Int) (a:ByteArray) (kk_L2:(Int→ByteArray→Option Bool)) (b:Rd) (d:Bool):Option Bool:=
  if d=true then (some false) else (Z1 ((0:Int)≤b.2.1∧b.2.1≤(a.size:Int)∧(a.size:Int)≤(a.size:Int)) (kk_L2 (i64.wrap (c+1)) (a.extract (aA b.2.1) (aA (a.size:Int)))))
def Qr (N:Nat) (a:R1) (d:List R2):Nat→Int→ByteArray→Option Bool
  | 0,_,_=>none
  | g+1,e,c=>if (decide (e<(d.length:Int)))=true then ((Tq N (a.1,a.2.1,a.2.2.1,a.2.2.2.1,a.2.2.2.2)).bind fun f=>(Ze9 N (f.1,f.2.1,f.2.2.1,f.2.2.2.1,f.2.2.2.2) c).bind fun b=>if (!decide (b.2.2=0))=true then (Zfi e c (Qr N a d g) b true) else ((Zn d e).bind fun i=>(Zh9 N b.1 i).bind fun j=>if (!j)=true then (Zfi e c (Qr N a d g) b true) else (if (decide (b.2.1<0))=true then (Zfi e c (Qr N a d g) b true) else (Zfi e c (Qr N a d g) b (decide ((c.size:Int)<b.2.1)))))) else (some (decide (c=(⟨#[]⟩))))
def Zdt (N:Nat) (b:R1) (a:R8) (g:List Int) (c:ByteArray) (d:List R2) (e:Int) (kk_L1:(ByteArray→R8→Int→Option Bool)) (i:Bool):Option Bool:=
  if i=true then ((Zn g e).bind fun f=>Z1 ((a.length:Int)≠0) (if (decide ((aS f (a.length:Int))<0))=true then (Zic N b a c d e kk_L1 (i64.wrap ((aS f (a.length:Int))+(a.length:Int)))) else (Zic N b a c d e kk_L1 (aS f (a.length:Int))))) else (Qr N b d N 0 c)
def Tp (N:Nat) (c:R1) (a:R8) (b:List Int):Nat→ByteArray→R8→Int→Option Bool
  | 0,_,_,_=>none
  | e+1,f,g,d=>if (decide (d<(b.length:Int)))=true then (if (decide (d<6))=true then (Zdt N c a b f g d (Tp N c a b e) (decide (1<(a.length:Int)))) else (Zdt N c a b f g d (Tp N c a b e) false)) else (Zdt N c a b f g d (Tp N c a b e) false)
def Zib (N:Nat) (a:R1) (b:R8) (c:List Int):Option Bool:=
  Tp N a b c N (⟨#[]⟩) ([]:List R2) 0
theorem Z3q {N o p q s E F:Nat} {t u w y g A:Option Addr} {col:Zg} {h:World} {b:R1} {i:R8} {C:R2} {r:Bool} (a:Zib N b i C=some r) (bl:Sl Zc.str col h t o b.2.1) (bu:Sl rV col h u p b.2.2.1) (V:Sl rP col h w q b.2.2.2.1) (U:Sl (Zc.slice rQ) col h y s b.2.2.2.2) (v:Sl rP col h g E i) (S:Sl rI col h A F C):
    Calls prog 19 #[(.agg (Rt b t o u p w q y s)),.slice g i.length E,.slice A C.length F] h (V6 h r):=by
 refine Xk 6 (m:=108) func19 O O O O O ?_;rw [Zib.eq_1] at a;have c:=St.start col h;refine go ?_;refine Xj (col:=(Zk col)) 1 O fun bw _ _ J d=>go ?_;replace c:=c.grow J;refine Z0 [1,2,3,1000000] (fun cc l P=>∃ Q G ck cl n cn z,z=cc∧Tp N b i C z G n cn=some r∧St h (Zk col) Q P∧Zi 27 1 Q P bw (Rt b t o u p w q y s)∧Zb rP 28 2 Q P ck cl n∧[7,8,9].map l=[.string G,.slice ck n.length cl,.int .i64 cn]) N ⟨_,_,none,0,_,0,_,O,a,c,d,Zb.nil,O⟩ ?_;clear a;intro cc l P hI;obtain ⟨Q,G,ck,cl,n,cn,z,hn,a,c,d,f,k⟩:=hI;subst hn;refine .lL [7,8,9] k ?_;replace bl:=bl.k0;replace bu:=bu.k0;replace V:=V.k0;replace U:=U.k0;replace v:=v.k0;replace S:=S.k0
 cases z with
 | zero=>rw [Tp.eq_1] at a;cases a
 | succ z=>
  rw [Tp.eq_2] at a;refine Zw<|Zw ?_;refine Wp.cutK [1,2,3,7,8,9,1000000] (fun l E=>∃ H F,Zdt N b i C G n cn (Tp N b i C z) F=some r∧St h (Zk col) H E∧Zi 27 1 H E bw (Rt b t o u p w q y s)∧Zb rP 28 2 H E ck cl n∧[29].map l=[.bool F]) ?_ ?_
  ·intro l E Z;obtain ⟨H,F,a,c,d,f,k⟩:=Z;rw [Zdt.eq_1] at a;refine .lL [29] k ?_;refine Zp a (fun m a=>?_) fun m a=>go ?_
   ·refine X1<|Zw ?_;refine Wp.cutK [1,2,3,9,1000000] (fun l I=>∃ J H L M K,Zos cn (Tp N b i C z) H K=some r∧St h (Zk col) J I∧Zi 27 1 J I bw (Rt b t o u p w q y s)∧Zb rP 28 2 J I L M K∧[7,8].map l=[.string H,.slice L K.length M]) ?_ ?_
    ·intro l I Z;obtain ⟨J,H,L,M,K,a,c,d,P,k⟩:=Z;rw [Zos.eq_1] at a;refine .lL [7,8] k<|go ?_;exact ⟨z,by omega,O,⟨_,_,_,_,_,_,_,O,a,c,d,P,O⟩⟩
    refine go ?_;obtain ⟨P,g,a⟩:=bZ a;refine lI g ((S.ks c).addr g)<|lW ((S.ks c).atInt g) ?_;refine go ?_;obtain ⟨Q,a⟩:=Z5 a;refine lV (.int .i64 (aS P (i.length:Int))) (Tv P (i.length:Int) O O Q)<|Yr O<|Zj<|Zw ?_;refine Wp.cutK [1,2,3,7,8,9,1000000] (fun l F=>∃ B E,Zic N b i G n cn (Tp N b i C z) E=some r∧St h (Zk col) B F∧Zi 27 1 B F bw (Rt b t o u p w q y s)∧Zb rP 28 2 B F ck cl n∧[10].map l=[.int .i64 E]) ?_ ?_
    ·intro l F Z;obtain ⟨B,E,a,c,d,f,k⟩:=Z;rw [Zic.eq_1] at a;refine .lL [10] k<|Zw<|Ym (col:=B) [(0,0),(2,1),(3,1),(4,1),(5,0),(1,3),(6,3),(7,3),(8,1),(9,1),(10,1),(11,1),(12,1)] (by kernel_rfl) (by kernel_rfl)<|xv O O (fun _ e=>Zz isAgg27 sizeOf27 (d.gr (e.bl B))) ?_;refine xu O O (fun _=>V8 O) ?_;refine xu O O (fun _=>Wu O) ?_;obtain ⟨T,X,a⟩:=bZ a;refine xu O O (fun _=>Wd underlying24 sizeOf28 O O (Xo X).1 (Xo X).2.1 ((v.ks c).addr X)) ?_;obtain ⟨_,bq,br⟩:=(v.ks c).atN X;obtain ⟨⟨_,_,rfl,co⟩,_⟩:=bq;refine xW (fun _ e=>br.one.gr (e.bl B)) ?_;refine xe O O ?_;intro _ g;have e:=g.bl B;obtain ⟨_,L,a⟩:=bZ a;replace c:=c.grow e;refine Zh (Zhi 3 4 5 6 L (bl.ks c) (bu.ks c) (V.ks c) (U.ks c)) fun _ _ ⟨Q,_,_,_,_,_,_,_,_,j,J,z,B,H,I⟩=>⟨_,j,?_⟩;refine Zj<|Xb Q g J<|xe O O ?_;intro _ g;replace f:=(f.gr e).gr J;replace co:=(co.gr e).gr J;replace d:=(d.gr e).gr J;have e:=g.bl Q;obtain ⟨_,C,a⟩:=bZ a;refine Zh (Zn0 7 C (co.gr e)) fun _ _ ⟨D,_,_,j,A,C⟩=>⟨_,j,?_⟩;refine Zj<|Xb D g A<|xe O O ?_;intro _ g;replace c:=((c.grow J).grow e).grow A;replace f:=(f.gr e).gr A;replace z:=(z.gr e).gr A;replace B:=(B.gr e).gr A;replace H:=(H.gr e).gr A;replace I:=(I.gr e).gr A;replace d:=(d.gr e).gr A;have e:=g.bl D;obtain ⟨cp,K,a⟩:=bZ a;replace C:=C.gr e
     refine Zh (Z3b K ((((((z.gr e).toSlF Ze.str).froz 4).froz 5).froz 6).froz 7) ((((((B.gr e).froz 3).toSlF (Ze.row Ze.str)).froz 5).froz 6).froz 7) ((((((H.gr e).froz 3).froz 4).toSlF (Ze.row (Ze.int .i64))).froz 6).froz 7) ((((((I.gr e).froz 3).froz 4).froz 5).toSlF (Ze.row (Ze.pair (Ze.pair Ze.bool (Ze.row (Ze.int .u32))) (Ze.row (Ze.int .u32))))).froz 7) (((((C.froz 3).froz 4).froz 5).froz 6).toSlF (Ze.int .i64))) fun _ _ ⟨j,z⟩=>⟨_,j,?_⟩;replace z:=Ru D z;refine Zj<|Xb D g z<|xu (v:=(.tuple #[.string cp.1,.int .i64 cp.2])) O O (fun _=>Wn O) ?_;refine xu (v:=(.string cp.1)) O O (fun _=>Xl O O) ?_;refine xu (v:=(.int .i64 cp.2)) O O (fun _=>Xl O O) ?_;refine xu O O (fun _=>r_aT O) ?_;refine xu O O (fun _=>Zgz O) ?_;refine Yf ?_;replace f:=(f.gr e).gr z;replace d:=(d.gr e).gr z;replace c:=(c.grow e).grow z;intro _ e;replace e:=e.bl D;refine go ?_;replace f:=f.gr e;replace d:=d.gr e;replace c:=c.grow e;refine Zp a (fun m a=>go ?_) fun m a=>go ?_
     ·cases a;exact ⟨O,O,c.below⟩
     obtain ⟨M,a⟩:=Z5 a;refine lV (.string (G++cp.1)) (Z9k underlying9 O O M)<|go ?_;refine lI X ((v.ks c).addr X) ?_;obtain ⟨_,bz,b0⟩:=(v.ks c).atN X;obtain ⟨⟨bg,bh,rfl,b1⟩,_⟩:=bz;refine lW b0.one<|Ui (col:=D) (r:=rP) (xs:=[T]) [.slice bg T.length bh] 8 (Wf.ofF (Rows.consF (r:=rP) (x:=T) (cs:=[.slice bg T.length bh]) (Uv b1) Rows.nil0)) ?_;intro _ _ _ v e;obtain ⟨D,a⟩:=Z5 a;replace f:=f.gr v;refine Vw f (e.srcN NB.slice) D fun _ _ _ _ K G=>go ?_;replace d:=(d.gr v).kpp K;replace c:=(c.grow v).kpp K;exact ⟨O,_,_,_,_,_,a,c,d,G,O⟩
    refine go ?_;refine Zp a (fun m a=>go ?_) fun m a=>?_
    ·exact ⟨O,_,_,a,c,d,f,O⟩
    refine X1 ?_;exact ⟨O,_,_,a,c,d,f,O⟩
   refine Z0 [3,8,1000000] (fun cc l L=>∃ M R Y W,W=cc∧Qr N b n W R Y=some r∧St h (Zk col) M L∧Zi 27 1 M L bw (Rt b t o u p w q y s)∧Zb rP 28 2 M L ck cl n∧[13,7].map l=[.int .i64 R,.string Y]) N ⟨_,0,_,_,O,a,c,d,f,O⟩ ?_;clear a;intro cc l L hI;obtain ⟨M,R,Y,W,hn,a,c,d,f,k⟩:=hI;subst hn;refine .lL [13,7] k ?_
   cases W with
   | zero=>rw [Qr.eq_1] at a;cases a
   | succ W=>
    rw [Qr.eq_2] at a;refine go ?_;refine Zp a (fun m a=>go ?_) fun m a=>go ?_
    ·refine lV _ (Zz isAgg27 sizeOf27 d) ?_;obtain ⟨_,X,a⟩:=bZ a;refine Zh (Zhi 9 10 11 12 X (bl.ks c) (bu.ks c) (V.ks c) (U.ks c)) fun _ X ⟨B,_,_,_,_,_,_,_,_,j,I,V,v,S,T⟩=>⟨_,j,?_⟩;refine lMT O ?_;obtain ⟨x,U,a⟩:=bZ a;refine Zh (Z3a 13 U ((((V.toSlF Ze.str).froz 10).froz 11).froz 12) ((((v.froz 9).toSlF (Ze.row Ze.str)).froz 11).froz 12) ((((S.froz 9).froz 10).toSlF (Ze.row (Ze.int .i64))).froz 12) ((((T.froz 9).froz 10).froz 11).toSlF (Ze.row (Ze.pair (Ze.pair Ze.bool (Ze.row (Ze.int .u32))) (Ze.row (Ze.int .u32)))))) fun _ _ ⟨U,S,T,j,e,a4⟩=>⟨_,j,?_⟩;replace a4:=a4.thaw (Zt .i64) e (((((Fz.refl (col:=B)).froz 9).froz 10).froz 11).froz 12) (by decide);replace e:=e.thawR (col:=B);generalize Z2 X.heap.size B U=bm at *;refine lM (.tuple #[.slice S x.1.length T,.int .i64 x.2.1,.int .i64 x.2.2])<|lV (.slice S x.1.length T) (Xl O O)<|lV (.int .i64 x.2.1) (Xl O O)<|lV (.int .i64 x.2.2) (Xl O O)<|So O<|Yr O<|Yr O<|Zj<|Zw<|Zw ?_;replace f:=(f.gr I).gr e;replace d:=(d.gr I).gr e;replace c:=(c.grow I).grow e;refine Wp.cutK [13,15,3,7,8,1000000] (fun l D=>∃ G A,Zfi R Y (Qr N b n W) x A=some r∧St h (Zk col) G D∧Zi 27 1 G D bw (Rt b t o u p w q y s)∧Zb rP 28 2 G D ck cl n∧[102].map l=[.bool A]) ?_ ?_
     ·intro l D Z;obtain ⟨G,A,a,c,d,f,k⟩:=Z;rw [Zfi.eq_1] at a;refine .lL [102] k ?_;refine Zp a (fun m a=>go ?_) fun m a=>go ?_
      ·cases a;exact ⟨O,O,c.below⟩
      obtain ⟨Z,a⟩:=Z5 a;refine lV (.string (Y.extract (aA x.2.1) (aA (Y.size:Int)))) (Z93 underlying9 O O Z)<|go ?_;exact ⟨W,by omega,O,⟨_,_,_,_,O,a,c,d,f,O⟩⟩
     refine go ?_;refine X9 a (fun a6 a=>go ?_) fun a6 a=>go ?_
     ·refine lV (.bool true) (Xw (congrArg Value.bool a6) O)<|Td O<|lP 93 O O<|lP 93 O O<|lV (.bool true) (Xw O O)<|Td O<|lP 97 O O<|lP 97 O O<|lP 97 O O<|lP 97 O O<|lV (.bool true) (Xw O O)<|Zj ?_;exact ⟨O,_,_,a,c,d,f,O⟩
     obtain ⟨_,h,a⟩:=bZ a;refine lI h (f.addr h) ?_;refine go ?_;obtain ⟨_,cf,cg⟩:=f.atN h;obtain ⟨_,_,rfl,ch⟩:=cf.slice;refine lW cg.one<|go ?_;obtain ⟨W,R,a⟩:=bZ a;refine Zh (Zus R (a4.toSlF (Ze.int .i64)) (ch.froz 13)) fun _ _ ⟨j,n⟩=>⟨_,j,?_⟩;replace n:=Ru bm n;refine go ?_;refine lV (.bool (!W)) (X0 (congrArg Value.bool a6) O)<|Td O ?_;replace f:=f.gr n;replace d:=d.gr n;replace c:=c.grow n;refine X9 a (fun l a=>go ?_) fun l a=>go ?_
     ·refine lV (.bool true) (Xw (congrArg Value.bool l) O)<|Td O<|lP 97 O O<|lP 97 O O<|lP 97 O O<|lP 97 O O<|lV (.bool true) (Xw O O)<|Zj ?_;exact ⟨O,_,_,a,c,d,f,O⟩
     refine lV (.bool (decide (x.2.1<0))) (X0 (congrArg Value.bool l) O)<|Td O ?_;refine X9 a (fun k a=>go ?_) fun k a=>go ?_
     ·refine lV (.bool true) (Xw (congrArg Value.bool k) O)<|Zj ?_;exact ⟨O,_,_,a,c,d,f,O⟩
     refine lV (.bool (decide ((Y.size:Int)<x.2.1))) (X0 (congrArg Value.bool k) O)<|Zj ?_;exact ⟨O,_,_,a,c,d,f,O⟩
    cases a;exact ⟨O,O,c.below⟩
  refine go ?_;refine X9 a (fun m a=>go ?_) fun m a=>go ?_
  ·refine lV (.bool (decide (cn<6))) (Xw (congrArg Value.bool m) O)<|Td O ?_;refine X9 a (fun j a=>go ?_) fun j a=>go ?_
   ·refine lV (.bool (decide (1<(i.length:Int)))) (Xw (congrArg Value.bool j) O)<|Zj ?_;exact ⟨O,_,_,a,c,d,f,O⟩
   refine lV (.bool false) (X0 (congrArg Value.bool j) O)<|Zj ?_;exact ⟨O,_,_,a,c,d,f,O⟩
  refine lV (.bool false) (X0 (congrArg Value.bool m) O)<|Td O<|lP 25 O O<|lP 25 O O<|lP 25 O O<|lV (.bool false) (X0 O O)<|Zj ?_;exact ⟨O,_,_,a,c,d,f,O⟩
def Zid (N:Nat) (a:R0) (b:R0):Option R0:=
  (Zjq N ((a.1.1,a.1.2),a.2) ((b.1.1,b.1.2),b.2)).bind fun c=>some ((c.1.1,c.1.2),c.2)
theorem Z3r {N s t u v:Nat} {w x y p:Option Addr} {col:Zg} {a:World} {b c r:R0} (j c2:Nat) (h:Zid N b c=some r) (d:Sl rU col a w s b.1.2) (f:Sl rU col a x t b.2) (g:Sl rU col a y u c.1.2) (i:Sl rU col a p v c.2):
    Calls prog 14 #[(.agg #[.bool b.1.1,.slice w b.1.2.length s,.slice x b.2.length t]),(.agg #[.bool c.1.1,.slice y c.1.2.length u,.slice p c.2.length v])] a (V7 119 j c2 col a r):=by
 refine Yb (m:=8) func14 O O O ?_;rw [Zid.eq_1] at h;have e:=St.start col a;refine go ?_;refine Xj (col:=(Zk col)) 1 O fun _ _ q H D=>Xj (col:=q) 2 O fun _ _ z o F=>Xc (col:=z) #[.bool false,(nI),(nI)] 3 zeroValue42 fun _ _ _ l I=>go ?_;refine lV _ (Zz isAgg42 sizeOf42 ((D.gr o).gr l)) ?_;refine lV _ (Zz isAgg42 sizeOf42 (F.gr l)) ?_;obtain ⟨_,C,h⟩:=bZ h;replace e:=((e.grow H).grow o).grow l;refine Zh (Z4s 4 5 C (d.k0.ks e) (f.k0.ks e) (g.k0.ks e) (i.k0.ks e)) fun _ _ ⟨_,_,_,_,_,m,n,E,G⟩=>⟨_,m,?_⟩;refine Zs (I.gr n) fun _ k A B=>go ?_;cases h;replace e:=(e.grow n).kp k A;exact ⟨O,_,ra B.atN,_,_,_,_,_,O,e.fin (cm [(4,j),(5,c2)]),e.fo (E.kp k),e.fo (G.kp k)⟩

end Go.Proofs.YtpkknichfgooaaaGreat
