/-
  What functions of the program compute, as plain Lean functions (m_..), and proofs that they compute it (c_..). Printed by a program of the author; no conditions.
-/
import Derived.Test.YtdpdogdkolblnaaGreatDoorQueryNamesBFloat
import Derived.Test.YtdpdogdkolblnaaGreatDoorProg
import Derived.Test.YtdpdogdkolblnaaGreatDoorQueryNamesF4
set_option linter.unusedVariables false
set_option linter.unusedSectionVars false
set_option maxRecDepth 100000
set_option maxHeartbeats 2000000
namespace Go.Proofs.YtdpdogdkolblnaaGreatDoor
open Go Go.RowKit
open Go.IntKind (i8 i16 i32 i64 u8 u16 u32 u64)
open Go.Proofs.Tryz

/-! ### where spelled words stand -/
theorem Zr7 {t:ByteArray}:∀ (sp:List V6) (b:Nat) (q:Int×Int) (g:List Int),Sv sp→Zgz g→(Zg t).drop b=g++Yg sp→b≤t.size→
  ∃ l,V5 t b q l none∧Vw l=Vj sp++[(0,⟨#[]⟩)]∧∀ i y,i<sp.length→l[i]?=some y→y.2.2=plc (g++Yg (sp.take i)) q
 | [],b,q,g,hok,hg,hs,hb=>by
  have hl:=congrArg List.length hs
  rw [List.length_drop,Xp,Yg,List.append_nil] at hl
  refine ⟨_,.fin (p':=plc g q) ?_,rfl,fun i y hi=>(by simp at hi)⟩
  refine hg t b [] q _ _ _ hs ?_
  rw [show b+g.length=t.size by omega]
  exact .fin rfl
 | x :: sp,b,q,g,hok,hg,hs,hb=>by
  obtain ⟨h1,h2,h3⟩:=hok
  rw [Yg] at hs
  have hd:=Zel hs
  have hl:=congrArg List.length hs
  rw [List.length_drop,Xp,List.length_append,List.length_append] at hl
  have hx:=Qf t (b+g.length)
  obtain ⟨k1,k2,k3⟩:=Zsh (s:=t.extract (b+g.length) t.size) h1 (by rw [hx,hd])
  have k4:0<x.2.1.length:=List.length_pos_iff.2 k3
  rw [hx] at k2
  have hB:Wd t b q true (b+g.length) (plc g q):=hg t b _ q _ _ _ hs (.done (by omega) k2)
  have hd2:=Zel hd
  have htake:((Zg t).drop (b+g.length)).take x.2.1.length=x.2.1:=by rw [hd,List.take_left]
  obtain ⟨l,i1,i2,i3⟩:=Zr7 sp (b+g.length+x.2.1.length) (plc (((Zg t).drop (b+g.length)).take x.2.1.length) (plc g q)) x.2.2 h3 h2 hd2 (by omega)
  have ht:=V5.tok (t:=t) (a:=b) (p:=q) hB (by omega) (by rw [k1]) (l:=l) (f:=none) (by rw [k1];exact i1)
  rw [k1] at ht
  refine ⟨_,ht,by rw [Vj,List.map_cons,List.cons_append];show (x.1,W1 x.2.1) :: Vw l=_;rw [i2];rfl,fun i y hi hy=>?_⟩
  cases i with
  | zero=>
   cases hy
   show plc g q=plc (g++[]) q
   rw [List.append_nil]
  | succ i=>
   rw [List.length_cons] at hi
   have hy:l[i]?=some y:=hy
   rw [i3 i y (by omega) hy,htake,List.take_succ_cons,Yg,Zq8 g,Zq8 x.2.1]
theorem Zq9:∀ (xs:List Int) (p:Int×Int),10 ∉ xs→plc xs p=(p.1,p.2+xs.length)
 | [],p,_=>by rw [List.length_nil];show p=(p.1,p.2+0);rw [Int.add_zero]
 | x :: xs,p,h=>by
  have h1:10 ∉ xs:=fun e=>h (List.mem_cons_of_mem _ e)
  have h2:x≠10:=fun e=>h (by rw [e];exact List.mem_cons_self)
  rw [Znv,if_neg h2,Zq9 xs _ h1,List.length_cons]
  show (p.1,p.2+1+(xs.length:Int))=(p.1,p.2+((xs.length+1:Nat):Int))
  congr 1;omega
/-! ### so many commands -/
def X8:Nat→List V6
 | 0=>[]
 | k+1=>w1 Zy [] :: w4 59 [] :: X8 k
theorem Zhc:∀ a b:Nat,X8 (a+b)=X8 a++X8 b
 | 0,b=>by rw [Nat.zero_add];rfl
 | a+1,b=>by rw [Nat.add_right_comm,X8,Zhc a b];rfl
theorem Zek:∀ k,(X8 k).length=2 * k
 | 0=>rfl
 | k+1=>by rw [X8,List.length_cons,List.length_cons,Zek k];omega
abbrev Zhb:List Int:=[99,104,97,110,99,101,59]
theorem Zr4 (k:Nat):Yg (X8 (k+1))=Zhb++Yg (X8 k):=rfl
theorem Zd1:∀ k,(Yg (X8 k)).length=7 * k
 | 0=>rfl
 | k+1=>by rw [Zr4,List.length_append,Zd1 k];show 7+7 * k=_;omega
theorem Zr5:∀ k,10 ∉ Yg (X8 k)
 | 0=>by simp [X8,Yg]
 | k+1=>by
  rw [Zr4,List.mem_append,not_or]
  exact ⟨by decide,Zr5 k⟩
theorem Zno:∀ k,Sv (X8 k)
 | 0=>trivial
 | k+1=>ok1 (by decide) bl0 (e4 (by decide) _ _) (ok4 (by decide) (by decide) bl0 (Zno k))
theorem Zr3 (k:Nat):Vj (X8 (k+1))=(1,Zy) :: (4,Wy) :: Vj (X8 k):=by rw [X8,Zzx,Zzy];rfl
abbrev Zdw:Yj:=(1,[],[],1,[],(false,false))
theorem Zry {G:Nat}:∀ (j k f:Nat),k+j≤4096→j<f→Uf G f k 1 [] false false (Vj (X8 j)++[(0,eB)])=some (List.replicate j Zdw)
 | 0,k,0,h1,h2=>by omega
 | 0,k,f+1,h1,h2=>by rw [X8,Zzz,List.nil_append,Zoe,if_pos (by rfl)];rfl
 | j+1,k,0,h1,h2=>by omega
 | j+1,k,f+1,h1,h2=>by
  rw [Zr3,List.cons_append,List.cons_append,Zoe,if_neg (by exact (by decide:¬ (1:Int)=0)),if_neg (by omega),Zch,on1 _ rfl,ox1 _ rfl,if_neg (by decide),if_neg (by decide),if_pos rfl,if_pos (by rfl),Zwz,Zry j (k+1) f (by omega) (by omega)]
  rfl
theorem Zyy {N:Nat} (hN:1048590<N) {t:ByteArray} (ht:Zg t=Yg (X8 4096)):Tt N t=some (List.replicate 4096 Zdw,none):=by
 have hz:t.size=7 * 4096:=by rw [← Xp,ht,Zd1]
 obtain ⟨W,h1,h2⟩:=Zz0 (Zno 4096) ht
 have h3:=Zy0 (by omega) hN h1
 rw [h2,Zry 4096 0 1048580 (by omega) (by omega)] at h3
 have h4:Tt N t=some ([]++List.replicate 4096 Zdw,none):=h3
 rw [List.nil_append] at h4
 exact h4
/-! ### one more -/
section
variable {W:List Yi} {late:Option Yc} (hW:V0 W late)
include hW
theorem Zt5 {N:Nat} {kP:Zea} {K:Int} {p:SP} {b:Yc} (hp:Yu W late p (.error b)) (how:Int) (ord:List ByteArray) (b0 b1:Bool) (l:List Yj) (ho:ord.length≤1048579):
  Sf N how ord b0 b1 l kP p.1 p.2.1 p.2.2.1 p.2.2.2 K=some ([],some b):=by
 obtain ⟨p2,a2,x2⟩:=Zjl hW hp [Xf,Xe,Zy,Xd,Xg]
 have e1:Ti W [Xf,Xe,Zy,Xd,Xg] (.error b)=eB:=rfl
 have e2:Th W late [Xf,Xe,Zy,Xd,Xg] (.error b)= .error b:=rfl
 rw [e1] at a2
 rw [e2] at x2
 obtain ⟨p3,a3,x3,y3,z3⟩:=Znm hW x2 Wy (by decide)
 obtain ⟨b',g1,g2⟩:=z3 rfl
 cases g1
 rw [Sf,Zlg ho,Option.bind_some,a2,Option.bind_some]
 dsimp only
 rw [if_neg (nd (by decide)),if_neg (nd (by decide)),if_neg (nd (by decide)),if_neg (nd (by decide)),if_neg (nd (by decide)),V1,a3,Option.bind_some,g2,if_pos (by rfl)]
 rfl
theorem Zz5 {N:Nat} {kP:Zea} {K:Int} {n:Nat} (hn:n+2<W.length) (t1:(tk W n).1=1) (t2:(tk W n).2.1=Zy) (t3:(tk W (n+1)).1=4) (t4:(tk W (n+1)).2.1=Wy) (l:List Yj) (hl:l.length≤4096):
  Sf N 1 [] false false l kP W late (n:Int) none K=kP W late ((n+2:Nat):Int) none 1 [] false false (l++[Zdw]) K:=by
 have hwl:=hW.len
 have hp:Yu W late (W,late,(n:Int),none) (.ok n):=⟨rfl,by omega⟩
 obtain ⟨p2,a2,x2⟩:=Zjl hW hp [Xf,Xe,Zy,Xd,Xg]
 have o1:U4 W [Xf,Xe,Zy,Xd,Xg] (.ok n)=true:=by
  rw [U4,t1,t2];rfl
 have e1:Ti W [Xf,Xe,Zy,Xd,Xg] (.ok n)=Zy:=by rw [Ti,if_pos o1];exact t2
 have e2:Th W late [Xf,Xe,Zy,Xd,Xg] (.ok n)= .ok (n+1):=by rw [Th,if_pos o1,Zcq,Zdu,if_pos (by omega)]
 rw [e1] at a2
 rw [e2] at x2
 obtain ⟨p3,a3,x3,_⟩:=Za9 hW x2
 obtain ⟨p4,a4,x4,y4,z4⟩:=Znm hW x3 Wy (by decide)
 have i1:Vq W 4 Wy (.ok (n+1))=true:=by rw [Vq,t3,t4];rfl
 have e3:Ss W late 4 Wy (.ok (n+1))= .ok (n+2):=by rw [Ss,if_pos i1,Zcq,Zdu,if_pos (by omega)]
 rw [e3] at x4
 obtain ⟨rfl,_⟩:=x4
 have hk:(Za8 W (.ok (n+1))).1=4:=t3
 have hc:(l.length+[(1,([]:T4),([]:T4),(1:Int),([]:List ByteArray)++([]:List ByteArray),(false,false))].length) * 96≤140737488355328∧l.length+[(1,([]:T4),([]:T4),(1:Int),([]:List ByteArray)++([]:List ByteArray),(false,false))].length≤maxLen:=by
  simp only [List.length_cons,List.length_nil,maxLen];omega
 rw [Sf,Zlg (by simp),Option.bind_some,a2,Option.bind_some]
 dsimp only
 rw [if_neg (nd (by decide)),if_neg (nd (by decide)),if_pos (decide_eq_true (by decide)),a3,Option.bind_some]
 dsimp only
 rw [hk,if_neg (by decide),V1,a4,Option.bind_some,if_neg (by exact (by decide:¬ (none:Option Yc).isSome=true))]
 refine (Xo hc).trans ?_
 rfl
theorem Zq5 {N:Nat} {b:Yc} (hlen:W.length=8195) (hk:∀ i,i<4097→(tk W (2 * i)).1=1∧(tk W (2 * i)).2.1=Zy∧(tk W (2 * i+1)).1=4∧(tk W (2 * i+1)).2.1=Wy)
  (hb:b=(50,(tk W 8192).2.2.1,(tk W 8192).2.2.2,(tk W 8192).2.1)):∀ (j k f:Nat) (l:List Yj),k+j=4096→j<f→l.length=k→Ut N f W late ((2 * k:Nat):Int) none 1 [] false false l (k:Int)=some ([],some b)
 | j,k,0,l,h1,h2,h3=>by omega
 | j,k,f+1,l,h1,h2,h3=>by
  obtain ⟨t1,t2,t3,t4⟩:=hk k (by omega)
  have hp:Yu W late (W,late,((2 * k:Nat):Int),none) (.ok (2 * k)):=⟨rfl,by omega⟩
  obtain ⟨p1,a1,x1,y1⟩:=Za9 hW hp
  have hkd:(Za8 W (.ok (2 * k))).1=1:=t1
  rw [Ut.eq_2]
  dsimp only at a1
  rw [a1,Option.bind_some]
  dsimp only
  rw [hkd,if_pos (by decide),Yh (by omega)]
  by_cases hj:j=0
  ·subst hj
   have h4:k=4096:=by omega
   subst h4
   obtain ⟨p2,a2,x2,_⟩:=Zhg hW x1
   have e:Za2 W (.ok (2 * 4096))= .error b:=by rw [hb];rfl
   rw [e] at x2
   rw [if_pos (decide_eq_true (by omega)),a2,Option.bind_some]
   exact Zt5 hW x2 1 [] false false l (by simp)
  ·obtain ⟨rfl,_⟩:=x1
   rw [if_neg (nd (by omega))]
   dsimp only
   rw [Zz5 hW (by omega) t1 t2 t3 t4 l (by omega)]
   have ih:=Zq5 (N:=N) hlen hk hb (j - 1) (k+1) f (l++[Zdw]) (by omega) (by omega) (by rw [List.length_append];simp;omega)
   rw [show 2 * k+2=2 * (k+1) by omega,show (k:Int)+1=((k+1:Nat):Int) by omega]
   exact ih
end
theorem Z0a {W:List Yi} {j:Nat} (h:Vw W=Vj (X8 j)++[(0,eB)]):∀ i,i<j→(tk W (2 * i)).1=1∧(tk W (2 * i)).2.1=Zy∧(tk W (2 * i+1)).1=4∧(tk W (2 * i+1)).2.1=Wy:=by
 have hl:W.length=2 * j+1:=by
  rw [← Zgw (W:=W),h,List.length_append,Vj,List.length_map,Zek];rfl
 have key:∀ (j i:Nat),i<j→(Vj (X8 j)++[((0:Int),eB)])[2 * i]?=some (1,Zy)∧(Vj (X8 j)++[((0:Int),eB)])[2 * i+1]?=some (4,Wy):=by
  intro j
  induction j with
  | zero=>intro i h;omega
  | succ j ih=>
   intro i hi
   rw [Zr3]
   cases i with
   | zero=>exact ⟨rfl,rfl⟩
   | succ i=>
    have:=ih i (by omega)
    rw [show 2 * (i+1)=(2 * i+1)+1 by omega]
    exact this
 intro i hi
 obtain ⟨k1,k2⟩:=key j i hi
 rw [← h,Vw,List.getElem?_map] at k1 k2
 have g:∀ n,n<W.length→(W[n]?).map (fun x=>(x.1,x.2.1))=some ((tk W n).1,(tk W n).2.1):=fun n hn=>by rw [Zgu hn];rfl
 rw [g _ (by omega)] at k1 k2
 have k1:=Option.some.inj k1
 have k2:=Option.some.inj k2
 exact ⟨congrArg Prod.fst k1,congrArg Prod.snd k1,congrArg Prod.fst k2,congrArg Prod.snd k2⟩
theorem Zz1 (late:Option Yc) (l:List Yi) (h:l.length≤1048579):Sk (l.map (fun x=>(x,none))++Zco late) [] none 0 none=some (some (l,late,0,none)):=by
 have:=Zog late l [] (by simpa using h)
 rw [List.nil_append] at this
 exact this
theorem Zyz {N:Nat} (hN:1048590<N) {t:ByteArray} (ht:Zg t=Yg (X8 4097)):Tt N t=some ([],some (50,1,28673,Zy)):=by
 have hz:t.size=7 * 4097:=by rw [← Xp,ht,Zd1]
 obtain ⟨W,h1,h2,h3⟩:=Zr7 (t:=t) (X8 4097) 0 (1,1) [] (Zno 4097) (Zj0 fun c hc=>by cases hc) (by rw [List.drop_zero,ht,List.nil_append]) (Nat.zero_le _)
 have hl:W.length=8195:=by
  rw [← Zgw (W:=W),h2,List.length_append,Vj,List.length_map,Zek];rfl
 obtain ⟨f1,f2,f3⟩:=h1.facts (Nat.zero_le _)
 have hW:V0 W none:=⟨by omega,f2⟩
 have hk:=Z0a h2
 have hpos:(tk W 8192).2.2=(1,28673):=by
  rw [h3 8192 (tk W 8192) (by rw [Zek];omega) (Zgu (by omega)),List.nil_append]
  have e:(X8 4097).take 8192=X8 4096:=by
   rw [show 4097=4096+1 from rfl,Zhc,show 8192=(X8 4096).length by rw [Zek],List.take_left]
  rw [e,Zq9 _ _ (Zr5 _),Zd1];rfl
 have hb:((50,1,28673,Zy):Yc)=(50,(tk W 8192).2.2.1,(tk W 8192).2.2.2,(tk W 8192).2.1):=by
  rw [hpos,(hk 4096 (by omega)).2.1]
 have hfin:=Zq5 hW (N:=N) hl hk hb 4096 0 N [] rfl (by omega) rfl
 rw [Tt,Zfz,Zqb (by omega) (by omega) (by omega) h1 (by omega),Option.bind_some,Zz1 none W (by omega),Option.bind_some]
 exact hfin
/-! ### questions,each of another way -/
abbrev Tw (h:Int):Yj:=(1,[],[],h,[],(false,false))
def Vl:Nat→Bool→List Yj
 | 0,_=>[]
 | n+1,b=>Tw (if b=true then 2 else 1) :: Vl n (!b)
theorem Zsm {N:Nat} {n:Nat} (hn:n≤4096):∀ (f i:Nat) (l:List Yj),i≤n→n<f+i→l.length=i→Zbi N (n:Int) f l (i:Int)=some (l++Vl (n - i) (decide (i % 2=1)))
 | 0,i,l,h1,h2,h3=>by omega
 | f+1,i,l,h1,h2,h3=>by
  rw [Zbi.eq_2]
  by_cases hi:i<n
  ·have hm:Int.tmod (i:Int) 2=((i % 2:Nat):Int):=rfl
   have hw:i8.wrap (i64.wrap (1+Int.tmod (i:Int) 2))=if decide (i % 2=1)=true then 2 else 1:=by
    rw [hm]
    rcases Nat.mod_two_eq_zero_or_one i with h | h <;> rw [h] <;> rfl
   rw [if_pos (decide_eq_true (by omega)),hw,Xo (by simp only [List.length_cons,List.length_nil,maxLen];omega),Yh (by omega),show (i:Int)+1=((i+1:Nat):Int) by omega,Zsm hn f (i+1) _ (by omega) (by omega) (by rw [List.length_append];simp;omega)]
   rw [List.append_assoc,show n - i=(n - (i+1))+1 by omega,Vl]
   have hp:decide ((i+1) % 2=1)= !decide (i % 2=1):=by
    rcases Nat.mod_two_eq_zero_or_one i with h | h
    ·rw [decide_eq_true (by omega),decide_eq_false (by omega)];rfl
    ·rw [decide_eq_false (by omega),decide_eq_true h];rfl
   rw [hp];rfl
  ·rw [if_neg (nd (by omega)),show n - i=0 by omega,Vl,List.append_nil]
theorem Zsn {N:Nat} (n:Nat) (hn:n≤4096) (hN:4096<N):Zc0 N (n:Int)=some (Vl n false):=by
 have:=Zsm (N:=N) hn N 0 [] (Nat.zero_le _) (by omega) rfl
 rw [Zc0]
 exact this
theorem Zoh:∀ (n:Nat) (b:Bool),∀ q ∈ Vl n b,Za3 q=true∧Su 1 q∧tq q=130
 | 0,b,q,h=>by cases h
 | n+1,b,q,h=>by
  rcases List.mem_cons.1 h with rfl | h
  ·cases b <;> exact ⟨rfl,⟨Nat.zero_le _,by decide⟩,rfl⟩
  ·exact Zoh n (!b) q h
theorem Zsl:∀ (n:Nat) (b:Bool),Zd5 (Vl n b)=130 * n∧(Vl n b).length=n
 | 0,b=>⟨rfl,rfl⟩
 | n+1,b=>by
  obtain ⟨h1,h2⟩:=Zsl n (!b)
  have e:tq (Tw (if b=true then 2 else 1))=130:=by cases b <;> rfl
  rw [Vl,Zsi,h1,e,List.length_cons,h2]
  constructor <;> omega
abbrev uF:ByteArray:=⟨#[117,115,101,32,102,105,108,108]⟩
abbrev uD:ByteArray:=⟨#[117,115,101,32,100,101,103,114,101,101]⟩
theorem Zsj:∀ (n:Nat),Ug (Vl n true) uF false false=2 * n∧Ug (Vl n false) uD false false=2 * n
 | 0=>⟨rfl,rfl⟩
 | n+1=>by
  obtain ⟨h1,h2⟩:=Zsj n
  have e1:Y8 (Tw 2)=uD:=rfl
  have e2:Y8 (Tw 1)=uF:=rfl
  constructor
  ·show Uk uF false false (Tw 2)+Ug (Vl n false) (Y8 (Tw 2)) false false=_
   rw [e1,h2,Uk,e1,if_neg (by decide),if_pos rfl]
   show 1+0+0+1+2 * n=_;omega
  ·show Uk uD false false (Tw 1)+Ug (Vl n true) (Y8 (Tw 1)) false false=_
   rw [e2,h1,Uk,e2,if_neg (by decide),if_pos rfl]
   show 1+0+0+1+2 * n=_;omega
theorem Z0d (n:Nat):Ug (Vl (n+1) false) uF false false=2 * n+1:=by
 have e2:Y8 (Tw 1)=uF:=rfl
 show Uk uF false false (Tw 1)+Ug (Vl n true) (Y8 (Tw 1)) false false=_
 rw [e2,(Zsj n).1,Uk,e2,if_pos rfl,if_pos rfl]
 show 0+0+0+1+2 * n=_;omega
theorem Zsk {N:Nat} (hN:1099511627776<N) (n:Nat) (hn:n≤4095):Zbs N (Vl (n+1) false)=some (Zgr (decide (4096<2 * n+1)) (Zd0 (Vl (n+1) false) uF false false)):=by
 obtain ⟨h1,h2⟩:=Zsl (n+1) false
 have hall:(Vl (n+1) false).all Za3=true:=List.all_eq_true.2 fun q hq=>(Zoh _ _ q hq).1
 have:=Zz9 (N:=N) (A:=1) hN (by omega) (Vl (n+1) false) (fun q hq=>(Zoh _ _ q hq).2.1) (by rw [h2];omega) (by rw [h1];omega)
 rw [hall,Z0d] at this
 exact this
/-! ### the law -/
theorem Zsz:Zg (⟨#[99,104,97,110,99,101,59]⟩:ByteArray)=Zhb:=rfl
theorem Zpm (k:Nat):Yg (X8 k)++Zhb=Yg (X8 (k+1)):=by
 have e:Zhb=Yg (X8 1):=rfl
 rw [Zhc,Zof,e]
theorem Zyj {N:Nat} (hN:N=4611686018427387904) (hal:Zbh N=some true) {s:ByteArray} (hs:Zg s=Yg (X8 256)):Ts N N s 0=some true:=by
 have hz:∀ {s:ByteArray} {k:Nat},Zg s=Yg (X8 k)→s.size=7 * k:=fun h=>by rw [← Xp,h,Zd1]
 have dbl:∀ (f i k:Nat) (s:ByteArray),i<4→k≤4096→Zg s=Yg (X8 k)→Ts N (f+1) s (i:Int)=Ts N f (s++s) ((i+1:Nat):Int)∧Zg (s++s)=Yg (X8 (k+k)):=by
  intro f i k s hi hk h
  have h2:=hz h
  rw [Ts.eq_2,if_pos (decide_eq_true (by omega)),Xo (by simp only [maxLen];omega),Yh (by omega)]
  exact ⟨rfl,by rw [Zap,h,Zhc,Zof]⟩
 obtain ⟨f,hf⟩:∃ f,N=f+1+1+1+1+1:=⟨4611686018427387899,by omega⟩
 have hN':1099511627776<N:=by omega
 have key:∀ (f:Nat) (s:ByteArray),Zg s=Yg (X8 256)→Ts N (f+1+1+1+1+1) s 0=some true:=by
  intro f s hs
  obtain ⟨e1,s1⟩:=dbl (f+1+1+1+1) 0 256 s (by omega) (by omega) hs
  obtain ⟨e2,s2⟩:=dbl (f+1+1+1) 1 512 _ (by omega) (by omega) s1
  obtain ⟨e3,s3⟩:=dbl (f+1+1) 2 1024 _ (by omega) (by omega) s2
  obtain ⟨e4,s4⟩:=dbl (f+1) 3 2048 _ (by omega) (by omega) s3
  rw [show (0:Int)=((0:Nat):Int) from rfl,e1,e2,e3,e4]
  generalize (s++s++(s++s)++(s++s++(s++s))++(s++s++(s++s)++(s++s++(s++s))))=S at *
  have s4:Zg S=Yg (X8 4096):=s4
  have hS:=hz s4
  have hS2:Zg (S++(⟨#[99,104,97,110,99,101,59]⟩:ByteArray))=Yg (X8 4097):=by rw [Zap,s4,Zsz,Zpm]
  have hsz:(⟨#[99,104,97,110,99,101,59]⟩:ByteArray).size=7:=rfl
  have T1:=Zsn (N:=N) 2048 (by omega) (by omega)
  have T2:=Zsn (N:=N) 2049 (by omega) (by omega)
  have X1:=Zsk (N:=N) hN' 2047 (by omega)
  have X2:=Zsk (N:=N) hN' 2048 (by omega)
  have td:Ze3 (some ((50,1,28673,Zy):Yc))=some ((50,1,28673,Zy),true):=rfl
  rw [Ts.eq_2,if_neg (nd (by omega)),Zyy (by omega) s4,Option.bind_some,Xo (by rw [hsz];simp only [maxLen];omega),Zyz (by omega) hS2,Option.bind_some]
  show ((Ze3 (some ((50,1,28673,Zy):Yc))).bind _)=_
  rw [td,Option.bind_some,show (2048:Int)=((2048:Nat):Int) from rfl,T1,Option.bind_some,X1,Option.bind_some,show (2049:Int)=((2049:Nat):Int) from rfl,T2,Option.bind_some,X2,Option.bind_some]
  rw [decide_eq_false (show ¬ 4096<2 * 2047+1 by omega),decide_eq_true (show 4096<2 * 2048+1 by omega),Zzr,Zzs,hal]
  have hr:((List.replicate 4096 Zdw).length:Int)=4096:=by rw [List.length_replicate];rfl
  dsimp only
  rw [if_pos (by decide),if_pos (by decide),if_pos (by decide),Option.bind_some,if_pos rfl,if_pos (by decide),if_pos (decide_eq_true hr),if_pos (by decide),if_pos rfl,Td]
  rfl
 have:=key f s hs
 rw [← hf] at this
 exact this
theorem Zqn {N:Nat} (hN:N=4611686018427387904) (hal:Zbh N=some true):∀ (f i:Nat) (s:ByteArray),i≤256→256<f+i→Zg s=Yg (X8 i)→Zbg N f s (i:Int)=some true
 | 0,i,s,h1,h2,hs=>by omega
 | f+1,i,s,h1,h2,hs=>by
  have hz:s.size=7 * i:=by rw [← Xp,hs,Zd1]
  have hsz:(⟨#[99,104,97,110,99,101,59]⟩:ByteArray).size=7:=rfl
  rw [Zbg.eq_2]
  by_cases hi:i<256
  ·rw [if_pos (decide_eq_true (by omega)),Xo (by rw [hsz];simp only [maxLen];omega),Yh (by omega),show (i:Int)+1=((i+1:Nat):Int) by omega]
   exact Zqn hN hal f (i+1) _ (by omega) (by omega) (by rw [Zap,hs,Zsz,Zpm])
  ·have:i=256:=by omega
   subst this
   rw [if_neg (nd (by omega))]
   exact Zyj hN hal hs
theorem Zy3 (hal:Zbh 4611686018427387904=some true):Ze1 4611686018427387904=some true:=by
 rw [Ze1]
 exact Zqn rfl hal 4611686018427387904 0 ⟨#[]⟩ (by omega) (by omega) rfl
theorem Zs7:Zbh 4611686018427387904=some true:=by decide+kernel
theorem Zyk:Ze1 4611686018427387904=some true:=Zy3 Zs7

end Go.Proofs.YtdpdogdkolblnaaGreatDoor
