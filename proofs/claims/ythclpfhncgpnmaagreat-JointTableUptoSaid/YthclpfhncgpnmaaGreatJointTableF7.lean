/-
  What functions of the program compute, as plain Lean functions (m_..), and proofs that they compute it (c_..). Printed by a program of the author; no conditions.
-/
import Derived.Test.YthclpfhncgpnmaaGreatJointTableBFloat
import Derived.Test.YthclpfhncgpnmaaGreatProg
import Derived.Test.YthclpfhncgpnmaaGreatJointTableBBulk
import Derived.Test.YthclpfhncgpnmaaGreatJointTableF6
set_option linter.unusedVariables false
set_option maxRecDepth 100000
set_option maxHeartbeats 2000000
namespace Go.Proofs.YthclpfhncgpnmaaGreat
open Go Go.RowKit
open List renaming getElem_set_self→fQ,length_singleton→aH,take_of_length_le→bD,length_map→aE,getElem_append_right→eX,nil_append→bL,map_cons→cP,sum_cons→fA
open Int renaming toNat_natCast→aB
open Nat renaming zero_le→aT,le_trans→aY
open Go.IntKind (i8 i16 i32 i64 u8 u16 u32 u64)
open Go.Proofs.Tryz

theorem Xai {n:Xa} {F:List R5} {V:List Int} (h:Vw n F V=0):F.all (V2 n)=true∧V.all (Tu n)=true∧(F.map (·.1)++V).Nodup∧Zp (Zg n)≤65536:=by
 rw [Vw] at h
 by_cases h1:F.all (V2 n)=true
 ·rw [if_pos h1] at h
  by_cases h2:V.all (Tu n)=true
  ·rw [if_pos h2] at h
   by_cases h3:(F.map (·.1)++V).Nodup
   ·rw [if_pos h3] at h
    by_cases h4:65536<Zp (Zg n)
    ·rw [if_pos h4] at h;exact absurd h (by decide)
    ·exact ⟨h1,h2,h3,by omega⟩
   ·rw [if_neg h3] at h;exact absurd h (by decide)
  ·rw [if_neg h2] at h;exact absurd h (by decide)
 ·rw [if_neg h1] at h;exact absurd h (by decide)
theorem Z1k {α:Type} {l:List α} {i:Nat} {y:α} (hi:i<l.length):(l.set i y).take (i+1)=l.take i++[y]:=by
 have h:i<(l.set i y).length:=by rw [nS];exact hi
 rw [List.take_succ_eq_append_getElem h,fQ,List.take_set,List.set_eq_of_length_le (by rw [nK];omega)]
theorem Z1j {α:Type} {l:List α} {i:Nat} {y:α} (hi:i<l.length):Zi (l.set i y) (i:Int)=some y:=by
 have h:i<(l.set i y).length:=by rw [nS];exact hi
 rw [Zu h,fQ]
section
variable {N:Nat} {n:Xa}
/-! the same lists with others in them -/
theorem Zvu {R F}:∀ (f i:Nat) (m:List Int),m.length≤1048576→i≤m.length→m.length<f+i→∃ m':List Int,m'.length=m.length∧Zc7 N n R F f m (m.take i) (i:Int)=Zav N n R m' m' N (F.2.take F.1) [] 0
 | 0,i,m,_,a,b=>by omega
 | f+1,i,m,c,a,b=>by
  rw [Zc7.eq_2]
  by_cases hi:i<m.length
  ·rw [if_pos (dT (by omega)),Zu hi,oB,oB,aB,Z1j hi,oB,Zx (by simp only [nK,aH,maxLen];omega),wS (by omega),← Z1k hi]
   obtain ⟨m',d,e⟩:=Zvu (R:=R) (F:=F) f (i+1) (m.set i (U8 .i64 m[i] 1)) (by rw [nS];exact c) (by rw [nS];omega) (by rw [nS];omega)
   exact ⟨m',by rw [d,nS],e⟩
  ·rw [if_neg (dF (by omega)),bD (by omega)]
   exact ⟨m,rfl,rfl⟩
theorem Zvv {R} {a b:List Int}:∀ (f i:Nat) (g:List R5),g.length≤1048576→i≤g.length→g.length<f+i→∃ (g':List R5) (k:Nat),g'.length=g.length∧Zav N n R a b f g (g.take i) (i:Int)=Zav N n R a b (k+1) g' g' (g'.length:Int)
 | 0,i,m,_,c,d=>by omega
 | f+1,i,m,j,c,d=>by
  by_cases hi:i<m.length
  ·rw [Zav.eq_2,if_pos (dT (by omega)),Zu hi,oB,oB,aB,Z1j hi,oB,Zx (by simp only [nK,aH,maxLen];omega),wS (by omega),← Z1k hi]
   obtain ⟨l,k,o,p⟩:=Zvv (R:=R) (a:=a) (b:=b) f (i+1) (m.set i (m[i].1,U8 .i64 m[i].2 1)) (by rw [nS];exact j) (by rw [nS];omega) (by rw [nS];omega)
   exact ⟨l,k,by rw [o,nS],p⟩
  ·have e:i=m.length:=by omega
   rw [bD (by omega),e]
   exact ⟨m,f,rfl,rfl⟩
end
theorem Z2d {N W K:Nat} {n:Xa} {V:List Int} {G:List R5} (hs:W6 n W) (hb:Zmr n) (hq:∀ t ∈ n.2.2.2.2,Xz (t.map W1)≤W) (hVl:V.length≤1048576) (hGl:G.length≤1048576) (hr:Xg N (8 * K+40)) (hWK:1025 * (W+2)+15≤K) (hK:2 * K≤1099511627776) (hN:4611686018427387903<N):Zns N n V G=some true:=by
 obtain ⟨r,mn,mf⟩:=Zws (N:=N) hb.vl hb.vn (fun t L=>⟨hb.tl t L,hb.tm t L⟩) hb.tn (by omega) N 0 1 (aT _) (by decide) (by have:=hb.vn;omega)
 have M:Znv N (n.1,n.2.1,n.2.2.1,n.2.2.2.1,n.2.2.2.2)=some r:=mn
 obtain ⟨e,m1,o,fine⟩:=Z49 hs (hr.mono (s:=8 * W+40) (by omega)) (by omega)
 have O:Sb N (n.1,n.2.1,n.2.2.1,n.2.2.2.1,n.2.2.2.2)=some e:=m1
 have A:Zdn N (n.1,n.2.1,n.2.2.1,n.2.2.2.1,n.2.2.2.2)=some e:=o
 have P:∀ c:Int,V9 N n [] []=some c→¬ (r=true∧c≠4)→∀ (V:List Int) (G:List R5),V.length≤1048576→G.length≤1048576→∃ x,Qz N n V G=some x∧Zad N n V G=some x∧Zj1 x.1:=by
  intro c j Q V G hVl hGl
  have S:Zj1 (([]:List Int),([]:List Int),([]:List QV)):=by simp [Zj1]
  by_cases h0:e=0
  ·have d:=fine h0
   subst h0
   obtain ⟨D,_,_⟩:=Zqy d hs (hr.mono (by omega)) (by omega) [] [] (by simp) (by simp) o
   obtain ⟨E,ga,p,g3⟩:=Zqy d hs (hr.mono (by omega)) (by omega) G V (by omega) hVl o
   have T:V9 N (n.1,n.2.1,n.2.2.1,n.2.2.2.1,n.2.2.2.2) G V=some (Vw n G V):=E
   have U:Tq N (n.1,n.2.1,n.2.2.1,n.2.2.2.1,n.2.2.2.2) G V=some (ga,Vw n G V):=p
   by_cases hw:Vw n G V=0
   ·obtain ⟨d9,X,nd,P5⟩:=Xai hw
    have h2:Vw n [] []=0:=by rw [Vw];simp [show ¬ 65536<Zp (Zg n) by omega]
    rw [h2] at D
    have u:Zp (Zg n)≤600:=by
     rw [j,Option.some.injEq] at D
     have Y:r=false:=by
      cases r with
      | false=>rfl
      | true=>exact absurd ⟨rfl,by omega⟩ Q
     have Z:=mf Y
     rw [List.drop_zero,Nat.one_mul] at Z
     have e1:(n.2.2.1.map fun l=>max l.length 1)=Zg n:=by
      rw [Zg]
      exact List.map_congr_left fun l hl=>by have:=List.length_pos_iff.2 (d.ev.ne l hl);omega
     rwa [e1] at Z
    have H:=d.ev.v
    have c4:(Zg n).length=n.2.1.length:=by rw [Zg,aE,H]
    have w:=Zki V
    have hS:∀ v ∈ Wn V,0≤v∧v<((Zg n).length:Int):=fun v H=>by
     have:=List.all_eq_true.1 X v (w.mem_iff.1 H)
     simp only [Tu,Bool.and_eq_true,decide_eq_true_eq] at this
     omega
    have B:(Wn V).Nodup:=w.nodup_iff.2 (List.nodup_append.1 nd).2.1
    have e0:Zp (Xi (Zg n) (Wn V))≤600:=aY (Zl8 (Vo d) B hS) u
    refine ⟨_,Z8k d hs hr hWK u hN hq (by omega) hVl hw,Z9q d hs hr hWK u hN (by omega) hVl hw hS B (hw ▸ E) D,?_⟩
    refine ⟨by rw [w.length_eq];exact hVl,by simp only [Xb,Xi,aE];rw [w.length_eq];exact hVl,by simp only [Wf,aE,List.length_range];omega,fun q hq=>?_⟩
    simp only [Wf,List.mem_map] at hq
    obtain ⟨c2,_,rfl⟩:=hq
    exact Z8a (Zsf d hs hWK u (f:=Wk n G (Wn V) c2) (fun a ha=>Zqf d ha) (Nat.le_refl _)) (by omega) 0
   ·have C:(!decide (Vw n G V=0))=true:=by rw [decide_eq_false hw];rfl
    refine ⟨(([],[],[]),Vw n G V),?_,?_,S⟩
    ·rw [Qz,U,oB];dsimp only;rw [if_pos C]
    ·rw [Zad,T,oB,if_pos C]
  ·have i:(!decide (e=0))=true:=by rw [decide_eq_false h0];rfl
   have jc:Tq N (n.1,n.2.1,n.2.2.1,n.2.2.2.1,n.2.2.2.2) G V=some ([],e):=by
    rw [Tq,O,oB,if_pos i]
   have dc:V9 N (n.1,n.2.1,n.2.2.1,n.2.2.2.1,n.2.2.2.2) G V=some e:=by
    rw [V9,A,oB,if_pos i]
   refine ⟨(([],[],[]),e),?_,?_,S⟩
   ·rw [Qz,jc,oB];dsimp only;rw [if_pos i]
   ·rw [Zad,dc,oB,if_pos i]
 have j:∃ c,V9 N n [] []=some c:=by
  by_cases h0:e=0
  ·have d:=fine h0
   subst h0
   exact ⟨_,(Zqy d hs (hr.mono (by omega)) (by omega) [] [] (by simp) (by simp) o).1⟩
  ·exact ⟨e,by rw [V9,A,oB,if_pos (by rw [decide_eq_false h0];rfl)]⟩
 obtain ⟨c,j⟩:=j
 have a1:V9 N (n.1,n.2.1,n.2.2.1,n.2.2.2.1,n.2.2.2.2) [] []=some c:=j
 have lg:Zkq N (n.1,n.2.1,n.2.2.1,n.2.2.2.1,n.2.2.2.2)=some (decide (c=4)):=by rw [Zkq,a1,oB]
 have a2:Zkp N (n.1,n.2.1,n.2.2.1,n.2.2.2.1,n.2.2.2.2)=some (r&&!decide (c=4)):=by
  rw [Zkp,M,oB,lg,oB]
  cases r with
  | true=>rw [if_pos rfl];rfl
  | false=>rw [if_neg (by decide)];rfl
 rw [Zns,a2,oB]
 by_cases hi:(r&&!decide (c=4))=true
 ·rw [if_pos hi]
 ·have kc:=P c j fun h=>hi (by rw [h.1,decide_eq_false h.2];rfl)
  rw [if_neg hi]
  obtain ⟨x,x1,x2,x3⟩:=kc V G hVl hGl
  have l:Zje N (n.1,n.2.1,n.2.2.1,n.2.2.2.1,n.2.2.2.2)=some (Wb n):=Z7g hb (by omega)
  have k1:Zgg N ((Wb n).1,((Wb n).2.1.1,(Wb n).2.1.2),(Wb n).2.2.1,(Wb n).2.2.2.1,(Wb n).2.2.2.2) (n.1,n.2.1,n.2.2.1,n.2.2.2.1,n.2.2.2.2)=some true:=Z66 hb (by omega)
  have vG:(Y6 T6 G).2.take (Y6 T6 G).1=G:=Zph _ _
  have I:(V++[(-81:Int),-82,-83]).take (Int.toNat (V.length:Int))=V:=by rw [aB,List.take_left]
  have a7:Zad N (n.1,n.2.1,n.2.2.1,n.2.2.2.1,n.2.2.2.2) V G=some x:=x2
  have sx:Zac N (x.1.1,x.1.2.1,x.1.2.2) (x.1.1,x.1.2.1,x.1.2.2)=some true:=Z1g x3 hN
  have ox:Zjh N (x.1.1,x.1.2.1,x.1.2.2)=some true:=Z8g x3 hN
  have fG:=Z6l (N:=N) hGl (by omega)
  have sv:=Zpc (N:=N) hVl (by omega)
  have d1:¬ (!decide (x.2=x.2))=true:=by rw [decide_eq_true rfl];decide
  have g:¬ (!true)=true:=by decide
  have p1:Zi (V++[(-81:Int),-82,-83]) (V.length:Int)=some (-81):=by
   rw [Zu (by rw [nA];simp),eX (Nat.le_refl _)]
   simp
  have p3:Zi (V++[(-81:Int),-82,-83]) ((V.length+2:Nat):Int)=some (-83):=by
   rw [Zu (by rw [nA];simp),eX (by omega)]
   simp
  have nn:i64.wrap ((V.length:Int)+2)=((V.length+2:Nat):Int):=by rw [Zr (by omega)];omega
  obtain ⟨m,v1,v2⟩:=Zvu (N:=N) (n:=n) (R:=Wb n) (F:=Y6 T6 G) N 0 V hVl (aT _) (by omega)
  obtain ⟨G',k,E,p⟩:=Zvv (N:=N) (n:=n) (R:=Wb n) (a:=m) (b:=m) N 0 G hGl (aT _) (by omega)
  obtain ⟨y,y1,y2,y3⟩:=kc m G' (by omega) (by omega)
  have b3:Zad N (n.1,n.2.1,n.2.2.1,n.2.2.2.1,n.2.2.2.2) m G'=some y:=y2
  have sy:Zac N (y.1.1,y.1.2.1,y.1.2.2) (y.1.1,y.1.2.1,y.1.2.2)=some true:=Z1g y3 hN
  have b4:=Zpc (N:=N) (l:=m) (by omega) (by omega)
  have J:Zc7 N n (Wb n) (Y6 T6 G) N V [] 0=some true:=by
   rw [List.take_zero] at v2 p
   refine v2.trans ?_
   rw [vG]
   refine p.trans ?_
   rw [Zav.eq_2,if_neg (dF (by omega)),b3,oB,Zsk,y1,oB,if_pos (dT rfl),sy,oB,if_pos rfl,b4,oB,Zhz]
  rw [a7,oB,l,oB,Z6m hGl,oB,bL,Zx (by simp only [nN,maxLen];omega),Zx (by simp only [nC,nN,maxLen];omega),Zx (by simp only [nA,nC,nN];omega),I,Zsk,vG,x1,oB,oB,if_neg d1,if_neg d1,sx,oB,if_neg g,oB,if_neg g,k1,oB,if_neg g,fG,oB,if_neg g,sv,oB,if_neg g,p1,oB,if_neg (by decide),nn,p3,oB,
   S0,if_neg (by decide),ox,oB,bL,I,Zsk,vG,x1,oB,if_neg g,sx,oB,if_neg g,oB,if_neg g,k1,oB,if_neg g,sv,oB,Zc6,if_neg g,bL,I]
  exact J
theorem Qv {α:Type} {b:α→Nat} (hb:∀ x,1≤b x):∀ (l:List α),l.length+1≤Xw b l
 | []=>by simp [Xw]
 | x :: l=>by
  have h:=Qv hb l
  have:=hb x
  simp only [Xw,cP,fA,nC] at h ⊢
  omega
theorem Zl0 {α:Type} {b:α→Nat} {x:α}:∀ {l:List α},x ∈ l→b x+1≤Xw b l
 | y :: l,h=>by
  simp only [Xw,cP,fA]
  rcases List.mem_cons.1 h with rfl | h
  ·omega
  ·have:=Zl0 (b:=b) h
   simp only [Xw] at this
   omega
theorem Zpy {α:Type} {b:α→Nat} (l:List α):1≤Xw b l:=by simp only [Xw];omega
theorem Zmy (s:ByteArray):1≤Vz s:=by simp only [Vz];omega
theorem Zmx {α:Type} (s:α):1≤Y9 s:=by simp only [Y9];omega
theorem Zpw {α:Type} {b:α→Nat} (s:α):1≤Vy b s:=by simp only [Vy];omega
abbrev Qn:QV→Nat:=Vy (Ws (Vy (Ws Y9 (Xw Y9))) (Xw Y9))
abbrev qQ:QV→Prop:=Tv (Tv (fun _=>True) (Vd (Tj .u32))) (Vd (Tj .u32))
abbrev Zha:Xa→Nat:=Vy (Ws Vz (Ws (Xw Vz) (Ws (Xw (Xw Vz)) (Ws (Xw (Xw Y9)) (Xw (Xw Qn))))))
abbrev Zro:Xa→Prop:=Tv (fun _=>True) (Tv (Vd (fun _=>True)) (Tv (Vd (Vd (fun _=>True))) (Tv (Vd (Vd (Tj .i64))) (Vd (Vd qQ)))))
theorem Zwl {l:List Int} (h:Vd (Tj .u32) l):Zo l:=by
 intro d a
 have b:=h d a
 simp [Tj,Lit.wf,IntKind.min,IntKind.max,IntKind.signed,IntKind.bits] at b
 omega
theorem Zwk {x:QV} (h:qQ x):Vc x:=⟨Zwl h.1.2,Zwl h.2⟩
theorem Zpx (x:QV):x.1.2.length+x.2.length+4≤Qn x:=by
 have a:=Qv (b:=Y9) Zmx x.1.2
 have c:=Qv (b:=Y9) Zmx x.2
 simp only [Vy,Ws]
 have d:Y9 x.1.1=1:=rfl
 omega
theorem Zyr:∀ t:List QV,Xz t≤Xw Qn t
 | []=>by rw [Xz];omega
 | x :: t=>by
  have a:=Zyr t
  have b:=Zpx x
  rw [Xz]
  simp only [Xw,cP,fA] at a ⊢
  omega
theorem Z10:∀ P:List R2,Th P+P.length≤Xw (Xw Y9) P
 | []=>by simp [Th,Xw]
 | l :: P=>by
  have a:=Z10 P
  have c:=Qv (b:=Y9) Zmx l
  rw [Zmj,nC]
  simp only [Xw,cP,fA] at a c ⊢
  omega
theorem Z72 {n:Xa} (hb:Zha n≤1048576) (hq:Zro n):W6 n 1048576∧Zmr n:=by
 have m:=Zmy n.1
 have o:=Qv (b:=Vz) Zmy n.2.1
 have p:=Qv (b:=Xw Vz) Zpy n.2.2.1
 have q:=Z10 n.2.2.2.1
 have r:=Qv (b:=Xw Qn) Zpy n.2.2.2.2
 have s:=Zpy (b:=Xw Y9) n.2.2.2.1
 simp only [Zha,Vy,Ws] at hb
 have g:∀ l ∈ n.2.2.1,l.length≤1048576:=fun l d=>by
  have c:=Zl0 (b:=Xw Vz) d
  have i:=Qv (b:=Vz) Zmy l
  omega
 have k:∀ l ∈ n.2.2.2.1,l.length≤1048576:=fun l d=>by
  have c:=Zpj d
  omega
 have e:∀ t ∈ n.2.2.2.2,Xw Qn t≤1048576:=fun t a=>by
  have c:=Zl0 (b:=Xw Qn) a
  omega
 have j:∀ t ∈ n.2.2.2.2,t.length≤1048576:=fun t a=>by
  have c:=e t a
  have i:=Qv (b:=Qn) Zpw t
  omega
 refine ⟨⟨by omega,g,⟨by omega,by omega⟩,j,fun t a=>aY (Zyr t) (e t a),fun t a x f=>Zwk (hq.2.2.2.2 t a x f)⟩,⟨by omega,by omega,g,by omega,k,by omega,j,fun t a x f=>?_⟩⟩
 have c:=e t a
 have i:=Zl0 (b:=Qn) f
 have u:=Zpx x
 omega
theorem Zub:∀ t:List QV,(∀ x ∈ t,Vc x)→Xz (t.map W1)≤Xw Qn t
 | [],_=>by rw [List.map_nil,Xz];omega
 | x :: t,h=>by
  have b:=Zub t fun y c=>h y (List.mem_cons_of_mem _ c)
  have e:=Zpx x
  have a:=h x List.mem_cons_self
  have f:=Zyw (Zcg a.1 a.2)
  have d:max (W1 x).1.2.length (W1 x).2.length=qs (Xm x):=rfl
  rw [cP,Xz,d]
  simp only [Xw,cP,fA] at b ⊢
  omega
theorem Z71 {n:Xa} (hb:Zha n≤1048576) (hq:Zro n):∀ t ∈ n.2.2.2.2,Xz (t.map W1)≤1048576:=fun t a=>by
 have d:=Zub t fun x c=>Zwk (hq.2.2.2.2 t a x c)
 have e:=Zl0 (b:=Xw Qn) a
 have f:=Zmy n.1
 simp only [Zha,Vy,Ws] at hb
 omega

end Go.Proofs.YthclpfhncgpnmaaGreat
