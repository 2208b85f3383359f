/-
  What functions of the program compute, as plain Lean functions (m_..), and proofs that they compute it (c_..). Printed by a program of the author; no conditions.
-/
import Derived.Test.YtbmjpjhbankpoaaGreatCodeEncodeBFloat
import Derived.Test.YtbmjpjhbankpoaaGreatProg
import Derived.Test.YtbmjpjhbankpoaaGreatCodeEncodeBBrief
import Derived.Test.YtbmjpjhbankpoaaGreatCodeEncodeBBulk
import Derived.Test.YtbmjpjhbankpoaaGreatCodeEncodeBView
import Derived.Test.YtbmjpjhbankpoaaGreatCodeEncodeF5
set_option linter.unusedVariables false
set_option maxRecDepth 100000
set_option maxHeartbeats 2000000
namespace Go.Proofs.YtbmjpjhbankpoaaGreat
open Go Go.RowKit
open Go.IntKind (i8 i16 i32 i64 u8 u16 u32 u64)
open Go.Proofs.Tryz

abbrev Zil:=ByteArray×List ByteArray×List R9×List R2×List (List QV)
abbrev VQ:=(Bool×R5)×R5
def Yq {α:Type} (ms l:List α):Nat×List α:=(l.length,l++ms)
def Vn (x:QV):VQ:=((x.1.1,Yq [901,902] x.1.2),Yq [903,904] x.2)
def Zag (k:Int):VQ:=((false,(0,[])),([k].length,[k]))
def W7 (t:List QV):Nat×List VQ:=(t.length,t.map Vn++[Zag 97,Zag 98])
def Y0 (n:Zil):ByteArray×R6×List R6×List R5×List (Nat×List VQ):=
 (n.1,Yq [⟨#[35,49]⟩,⟨#[35,50]⟩] n.2.1,n.2.2.1.map (Yq [⟨#[35,51]⟩,⟨#[35,52]⟩]),n.2.2.2.1.map (Yq [-95,-96]),n.2.2.2.2.map W7)
structure Zkz (n:Zil):Prop where
 nm:n.2.1.length≤1048576
 vn:n.2.2.1.length≤1048576
 vl:∀ l ∈ n.2.2.1,l.length≤1048576
 pn:n.2.2.2.1.length≤1048576
 pl:∀ l ∈ n.2.2.2.1,l.length≤1048576
 tn:n.2.2.2.2.length≤1048576
 tl:∀ t ∈ n.2.2.2.2,t.length≤1048576
 tm:∀ t ∈ n.2.2.2.2,∀ x ∈ t,x.1.2.length≤1048576∧x.2.length≤1048576
theorem Zif {α:Type} (ms l:List α):Yw (Yq ms l)=l:=by rw [Yw,Yq];exact List.take_left
theorem Z2a {α:Type} (ms:List α) (L:List (List α)):(L.map (Yq ms)).map Yw=L:=by
 rw [List.map_map]
 conv=>rhs;rw [← List.map_id L]
 exact List.map_congr_left fun l _=>Zif ms l
theorem Z4t (x:QV):Prod.map (Prod.map id Yw) Yw (Vn x)=x:=by
 rw [Vn];simp only [Prod.map,id,Zif]
theorem Z4u (t:List QV):Qk (Prod.map (Prod.map id Yw) Yw) (W7 t)=t:=by
 rw [Qk,W7]
 show List.map _ (List.take t.length (t.map Vn++_))=t
 rw [show t.length=(t.map Vn).length by rw [List.length_map],List.take_left,List.map_map]
 conv=>rhs;rw [← List.map_id t]
 exact List.map_congr_left fun x _=>Z4t x
theorem Z2b (T:List (List QV)):(T.map W7).map (Qk (Prod.map (Prod.map id Yw) Yw))=T:=by
 rw [List.map_map]
 conv=>rhs;rw [← List.map_id T]
 exact List.map_congr_left fun t _=>Z4u t
theorem Z4s (n:Zil):((Y0 n).1,(Y0 n).2.1.2.take (Y0 n).2.1.1,(Y0 n).2.2.1.map Yw,(Y0 n).2.2.2.1.map Yw,(Y0 n).2.2.2.2.map (Qk (Prod.map (Prod.map id Yw) Yw)))=n:=by
 rw [Y0]
 simp only [Z2a,Z2b]
 have:=Zif [⟨#[35,49]⟩,⟨#[35,50]⟩] n.2.1
 rw [Yw] at this
 rw [this]
theorem Z0j {x:QV} (h1:x.1.2.length≤1048576) (h2:x.2.length≤1048576):Zho x=some (Vn x):=by
 rw [Zho,Z9 (by simp only [List.length_nil,maxLen];omega),Z9 (by simp only [List.length_append,List.length_nil,List.length_cons,maxLen];omega),Z9 (by simp only [List.length_nil,maxLen];omega),Z9 (by simp only [List.length_append,List.length_nil,List.length_cons,maxLen];omega),Z9 (by simp only [List.length_append,List.length_nil,List.length_cons];omega),Z9 (by simp only [List.length_append,List.length_nil,List.length_cons];omega),Vn,Yq,Yq,List.nil_append,List.nil_append,Int.toNat_natCast,Int.toNat_natCast]
section
variable {N:Nat} {n:Zil} (hs:Zkz n) (hN:1048577<N)
include hs hN
omit hN in
theorem Zs5 {m4:ByteArray} {m5:List ByteArray} {m9:List R6} {m13:List R5} {m17:List (Nat×List VQ)} {i:Nat} (hi:i<n.2.2.2.2.length) (hm:m17.length≤1048576) (hib:i≤1048576) (kk:ByteArray→List ByteArray→List R6→List R5→List (Nat×List VQ)→Int→Option (ByteArray×R6×List R6×List R5×List (Nat×List VQ))):∀ (f k:Nat) (l:List VQ),k≤n.2.2.2.2[i].length→n.2.2.2.2[i].length<f+k→l=(n.2.2.2.2[i].take k).map Vn→
  Zev N n m4 m5 m9 m13 m17 (i:Int) kk f (k:Int) l=kk m4 m5 m9 m13 (m17++[W7 n.2.2.2.2[i]]) ((i:Int)+1)
 | 0,k,l,h1,h2,_=>by omega
 | f+1,k,l,h1,h2,h3=>by
  have ht:=hs.tl _ (List.getElem_mem hi)
  have hl:l.length=k:=by rw [h3,List.length_map,List.length_take];omega
  rw [Zev.eq_2,Z7 hi,Option.bind_some]
  by_cases hk:k<n.2.2.2.2[i].length
  ·obtain ⟨x1,x2⟩:=hs.tm _ (List.getElem_mem hi) _ (List.getElem_mem hk)
   have hc:Zho (((n.2.2.2.2[i][k]).1.1,(n.2.2.2.2[i][k]).1.2),(n.2.2.2.2[i][k]).2)=some (Vn n.2.2.2.2[i][k]):=Z0j (x:=n.2.2.2.2[i][k]) x1 x2
   rw [if_pos (decide_eq_true (by omega)),Z7 hk,Option.bind_some,hc,Option.bind_some,Z9 (by simp only [List.length_singleton,maxLen];omega),Zt (by omega)]
   exact Zs5 hi hm hib kk f (k+1) _ (by omega) (by omega) (by rw [h3,List.take_add_one,List.getElem?_eq_getElem hk,Option.toList_some,List.map_append];rfl)
  ·have hk2:k=n.2.2.2.2[i].length:=by omega
   rw [if_neg (by rw [decide_eq_false (by omega)];decide),Z9 (by simp only [List.length_cons,List.length_nil,maxLen];omega),Z9 (by simp only [List.length_append,List.length_cons,List.length_nil];omega),Z9 (by simp only [List.length_singleton,maxLen];omega),Zt (by omega),Int.toNat_natCast,h3,hk2,List.take_length]
   rfl
theorem Zs4 {m4:ByteArray} {m5:List ByteArray} {m9:List R6} {m13:List R5}:∀ (f i:Nat) (m17:List (Nat×List VQ)),i≤n.2.2.2.2.length→n.2.2.2.2.length<f+i→m17=(n.2.2.2.2.take i).map W7→
  Zcw N n f m4 m5 m9 m13 m17 (i:Int)=some (m4,(n.2.1.length,m5),m9,m13,n.2.2.2.2.map W7)
 | 0,i,m17,h1,h2,_=>by omega
 | f+1,i,m17,h1,h2,h3=>by
  have htn:=hs.tn
  have hl:m17.length=i:=by rw [h3,List.length_map,List.length_take];omega
  rw [Zcw.eq_2]
  by_cases hi:i<n.2.2.2.2.length
  ·have ht:=hs.tl _ (List.getElem_mem hi)
   rw [if_pos (decide_eq_true (by omega)),show (0:Int)=((0:Nat):Int) from rfl,Zs5 hs hi (by omega) (by omega) _ N 0 [] (by omega) (by omega) (by simp)]
   exact Zs4 f (i+1) _ (by omega) (by omega) (by rw [h3,List.take_add_one,List.getElem?_eq_getElem hi,Option.toList_some,List.map_append];rfl)
  ·rw [if_neg (by rw [decide_eq_false (by omega)];decide),h3,List.take_of_length_le (by omega),Int.toNat_natCast]
theorem Zs3 {m4:ByteArray} {m5:List ByteArray} {m9:List R6}:∀ (f i:Nat) (m13:List R5),i≤n.2.2.2.1.length→n.2.2.2.1.length<f+i→m13=(n.2.2.2.1.take i).map (Yq [-95,-96])→
  Zeu N n f m4 m5 m9 m13 [] (i:Int)=some (m4,(n.2.1.length,m5),m9,n.2.2.2.1.map (Yq [-95,-96]),n.2.2.2.2.map W7)
 | 0,i,m13,h1,h2,_=>by omega
 | f+1,i,m13,h1,h2,h3=>by
  have hpn:=hs.pn;have htn:=hs.tn
  have hl:m13.length=i:=by rw [h3,List.length_map,List.length_take];omega
  rw [Zeu.eq_2]
  by_cases hi:i<n.2.2.2.1.length
  ·have ht:=hs.pl _ (List.getElem_mem hi)
   rw [if_pos (decide_eq_true (by omega)),Z7 hi,Option.bind_some,Z9 (by simp only [List.length_nil,maxLen];omega),Z9 (by simp only [List.length_append,List.length_nil,List.length_cons,maxLen];omega),Z9 (by simp only [List.length_append,List.length_nil,List.length_cons];omega),Z9 (by simp only [List.length_singleton,maxLen];omega),Zt (by omega)]
   exact Zs3 f (i+1) _ (by omega) (by omega) (by rw [h3,List.take_add_one,List.getElem?_eq_getElem hi,Option.toList_some,List.map_append];rfl)
  ·rw [if_neg (by rw [decide_eq_false (by omega)];decide),show (0:Int)=((0:Nat):Int) from rfl,Zs4 hs hN N 0 [] (by omega) (by omega) (by simp),h3,List.take_of_length_le (by omega)]
theorem Zs2 {m4:ByteArray} {m5:List ByteArray}:∀ (f i:Nat) (m9:List R6),i≤n.2.2.1.length→n.2.2.1.length<f+i→m9=(n.2.2.1.take i).map (Yq [⟨#[35,51]⟩,⟨#[35,52]⟩])→
  Zet N n f m4 m5 m9 [] [] (i:Int)=some (m4,(n.2.1.length,m5),n.2.2.1.map (Yq [⟨#[35,51]⟩,⟨#[35,52]⟩]),n.2.2.2.1.map (Yq [-95,-96]),n.2.2.2.2.map W7)
 | 0,i,m9,h1,h2,_=>by omega
 | f+1,i,m9,h1,h2,h3=>by
  have hpn:=hs.vn;have htn:=hs.pn
  have hl:m9.length=i:=by rw [h3,List.length_map,List.length_take];omega
  rw [Zet.eq_2]
  by_cases hi:i<n.2.2.1.length
  ·have ht:=hs.vl _ (List.getElem_mem hi)
   rw [if_pos (decide_eq_true (by omega)),Z7 hi,Option.bind_some,Z9 (by simp only [List.length_nil,maxLen];omega),Z9 (by simp only [List.length_append,List.length_nil,List.length_cons,maxLen];omega),Z9 (by simp only [List.length_append,List.length_nil,List.length_cons];omega),Z9 (by simp only [List.length_singleton,maxLen];omega),Zt (by omega)]
   exact Zs2 f (i+1) _ (by omega) (by omega) (by rw [h3,List.take_add_one,List.getElem?_eq_getElem hi,Option.toList_some,List.map_append];rfl)
  ·rw [if_neg (by rw [decide_eq_false (by omega)];decide),show (0:Int)=((0:Nat):Int) from rfl,Zs3 hs hN N 0 [] (by omega) (by omega) (by simp),h3,List.take_of_length_le (by omega)]
theorem Z10:Zhq N n=some (Y0 n):=by
 have hnm:=hs.nm;have hvn:=hs.vn
 rw [Zhq,Z9 (by simp only [List.length_nil,maxLen];omega),Z9 (by simp only [List.length_append,List.length_nil,List.length_cons,maxLen];omega),Z9 (by simp only [List.length_append,List.length_nil,List.length_cons];omega),show (0:Int)=((0:Nat):Int) from rfl,Zs2 hs hN N 0 [] (by omega) (by omega) (by simp)]
 rfl
end
theorem Zm4 {α:Type} (ms l:List α):(Yq ms l).2.take (Yq ms l).1=l:=Zif ms l
theorem Zoi {α:Type} (ms l:List α):(Yq ms l).2.length=l.length+ms.length:=by rw [Yq];exact List.length_append
theorem Zfg {α:Type} {ms l:List α} {j k:Nat} (hj:j<ms.length) (hk:l.length+j<k):Zo ((l++ms).take k) ((l.length+j:Nat):Int)=some ms[j]:=by
 rw [Us,List.getElem?_take,if_pos hk,List.getElem?_append_right (by omega),show l.length+j - l.length=j by omega,List.getElem?_eq_getElem hj]
theorem Zxc {N:Nat} {l:List ByteArray} {one two:ByteArray} (hl:l.length≤1048576):∀ (f i:Nat),i≤l.length→l.length<f+i→Ze0 N l.length (l++[one,two]) l one two f (i:Int)=some true
 | 0,i,h1,h2=>by omega
 | f+1,i,h1,h2=>by
  have e:(l++[one,two]).take l.length=l:=List.take_left
  rw [Ze0.eq_2,e]
  by_cases hi:i<l.length
  ·rw [if_pos (decide_eq_true (by omega)),Z7 hi,Option.bind_some,Option.bind_some,if_neg (by rw [decide_eq_true rfl];decide),Zt (by omega)]
   exact Zxc hl f (i+1) (by omega) (by omega)
  ·have a0:=Zfg (ms:=[one,two]) (l:=l) (j:=0) (k:=l.length+2) (by simp) (by omega)
   have a1:=Zfg (ms:=[one,two]) (l:=l) (j:=1) (k:=l.length+2) (by simp) (by omega)
   rw [if_neg (by rw [decide_eq_false (by omega)];decide),Zt (x:=(l.length:Int)+2) (by omega),Z9 (by simp only [List.length_append,List.length_cons,List.length_nil];omega),show Int.toNat ((l.length:Int)+2)=l.length+2 by omega]
   simp only [Nat.add_zero] at a0
   rw [a0,Option.bind_some,show [one,two][0]=one from rfl,if_pos (decide_eq_true rfl),Zt (by omega),show (l.length:Int)+1=((l.length+1:Nat):Int) by omega,a1,Option.bind_some,Zj5]
   simp
theorem Zxd {N:Nat} {l:List ByteArray} {one two:ByteArray} (hl:l.length≤1048576) (hN:1048577<N):Zez N (Yq [one,two] l).1 (Yq [one,two] l).2 l one two=some true:=by
 have e:(l++[one,two]).take l.length=l:=List.take_left
 rw [Zez,Yq,e,if_neg (by rw [decide_eq_true rfl];decide)]
 exact Zxc hl N 0 (by omega) (by omega)
theorem Zwz {N:Nat} {x:QV} (h1:x.1.2.length≤1048576):∀ (f i:Nat),i≤x.1.2.length→x.1.2.length<f+i→Zey N x x f (i:Int)=some true
 | 0,i,g1,g2=>by omega
 | f+1,i,g1,g2=>by
  rw [Zey.eq_2]
  by_cases hi:i<x.1.2.length
  ·rw [if_pos (decide_eq_true (by omega)),Z7 hi,Option.bind_some,Option.bind_some,if_neg (by rw [decide_eq_true rfl];decide),Zt (by omega)]
   exact Zwz h1 f (i+1) (by omega) (by omega)
  ·rw [if_neg (by rw [decide_eq_false (by omega)];decide)]
theorem Zwy {N:Nat} {x:QV} (h1:x.1.2.length≤1048576) (h2:x.2.length≤1048576) (hN:1048577<N):∀ (f i:Nat),i≤x.2.length→x.2.length<f+i→Zex N x x f (i:Int)=some true
 | 0,i,g1,g2=>by omega
 | f+1,i,g1,g2=>by
  rw [Zex.eq_2]
  by_cases hi:i<x.2.length
  ·rw [if_pos (decide_eq_true (by omega)),Z7 hi,Option.bind_some,Option.bind_some,if_neg (by rw [decide_eq_true rfl];decide),Zt (by omega)]
   exact Zwy h1 h2 hN f (i+1) (by omega) (by omega)
  ·rw [if_neg (by rw [decide_eq_false (by omega)];decide)]
   exact Zwz h1 N 0 (by omega) (by omega)
theorem Z4e {N:Nat} {x:QV} (h1:x.1.2.length≤1048576) (h2:x.2.length≤1048576) (hN:1048577<N):Zhs N x x=some true:=by
 rw [Zhs,if_neg (by rw [decide_eq_true rfl];decide),if_neg (by rw [decide_eq_true rfl];decide),Zht,if_neg (by rw [decide_eq_true rfl];decide)]
 exact Zwy h1 h2 hN N 0 (by omega) (by omega)
section
variable {N:Nat} {n:Zil} (hs:Zkz n) (hN:1048577<N)
include hs hN
theorem Zsr {i:Nat} (hi:i<n.2.2.2.2.length) (kk:Int→Option Bool):∀ (f j:Nat),j≤n.2.2.2.2[i].length→n.2.2.2.2[i].length<f+j→
  Sv N (Y0 n) n (i:Int) kk n.2.2.2.2[i] f (j:Int)=kk ((i:Int)+1)
 | 0,j,h1,h2=>by omega
 | f+1,j,h1,h2=>by
  have ht:=hs.tl _ (List.getElem_mem hi)
  have htn:=hs.tn
  have hm:Zo (Y0 n).2.2.2.2 (i:Int)=some (W7 n.2.2.2.2[i]):=by
   rw [Us]
   show (n.2.2.2.2.map W7)[i]?=_
   rw [List.getElem?_map,List.getElem?_eq_getElem hi];rfl
  rw [Sv.eq_2,hm,Option.bind_some,Option.bind_some]
  generalize hT:n.2.2.2.2[i]=t at *
  by_cases hj:j<t.length
  ·have hmem:t ∈ n.2.2.2.2:=by rw [← hT];exact List.getElem_mem hi
   obtain ⟨x1,x2⟩:=hs.tm _ hmem _ (List.getElem_mem hj)
   have e1:Zo ((W7 t).2.take (W7 t).1) (j:Int)=some (Vn t[j]):=by
    rw [Us,W7,List.getElem?_take,if_pos hj,List.getElem?_append_left (by rw [List.length_map];exact hj),List.getElem?_map,List.getElem?_eq_getElem hj];rfl
   rw [if_pos (decide_eq_true (by omega)),e1,Option.bind_some]
   obtain ⟨x,hx⟩:∃ x,x=t[j]:=⟨_,rfl⟩
   rw [← hx] at x1 x2 ⊢
   have v1:(Vn x).1.2.2.take (Vn x).1.2.1=x.1.2:=Zif _ _
   have v2:(Vn x).2.2.take (Vn x).2.1=x.2:=Zif _ _
   have l1:(Vn x).1.2.2.length=x.1.2.length+2:=Zoi _ _
   have l2:(Vn x).2.2.length=x.2.length+2:=Zoi _ _
   have hat:Zo n.2.2.2.2 (i:Int)=some t:=by rw [Z7 hi,hT]
   have sm:Zhs N (((Vn x).1.1,x.1.2),x.2) ((x.1.1,x.1.2),x.2)=some true:=Z4e (x:=x) x1 x2 hN
   have t1:(Vn x).1.2.2.take (x.1.2.length+2)=x.1.2++[901,902]:=List.take_of_length_le (by rw [l1];omega)
   have t2:(Vn x).2.2.take (x.2.length+2)=x.2++[903,904]:=List.take_of_length_le (by rw [l2];omega)
   have q:∀ (l:List Int) (a b:Int),Zo (l++[a,b]) ((l.length:Int)+2 - 1)=some b∧Zo (l++[a,b]) ((l.length:Int)+2 - 2)=some a:=fun l a b=>by
    constructor
    ·rw [show (l.length:Int)+2 - 1=((l.length+1:Nat):Int) by omega,Us,List.getElem?_append_right (by omega),show l.length+1 - l.length=1 by omega];rfl
    ·rw [show (l.length:Int)+2 - 2=((l.length:Nat):Int) by omega,Us,List.getElem?_append_right (by omega),show l.length - l.length=0 by omega];rfl
   have ql:∀ (l:List Int) (a b:Int),((l++[a,b]).length:Int)=(l.length:Int)+2:=fun l a b=>by simp
   rw [v1,v2,l1,l2,Zt (x:=(x.1.2.length:Int)+2) (by omega),Zt (x:=(x.2.length:Int)+2) (by omega),Z9 (by omega),Z9 (by omega),hat,Option.bind_some,Z7 hj,Option.bind_some,← hx,sm,Option.bind_some,if_neg (by decide),
    show Int.toNat ((x.1.2.length:Int)+2)=x.1.2.length+2 by omega,show Int.toNat ((x.2.length:Int)+2)=x.2.length+2 by omega,t1,t2,ql,ql,Zt (x:=(x.1.2.length:Int)+2 - 1) (by omega),Zt (x:=(x.1.2.length:Int)+2 - 2) (by omega),Zt (x:=(x.2.length:Int)+2 - 1) (by omega),Zt (x:=(x.2.length:Int)+2 - 2) (by omega),
    (q x.1.2 901 902).1,Option.bind_some,if_neg (by decide),(q x.1.2 901 902).2,Option.bind_some,if_neg (by decide),(q x.2 903 904).1,Option.bind_some,if_neg (by decide),(q x.2 903 904).2,Option.bind_some,Zcv,if_neg (by decide),Zt (by omega)]
   have ih:=Zsr hi kk f (j+1) (by rw [hT];omega) (by rw [hT];omega)
   rw [hT] at ih
   exact ih
  ·have b0:Zo ((W7 t).2.take (t.length+2)) (t.length:Int)=some (Zag 97):=by
    have:=Zfg (ms:=[Zag 97,Zag 98]) (l:=t.map Vn) (j:=0) (k:=t.length+2) (by simp) (by rw [List.length_map];omega)
    rw [List.length_map,Nat.add_zero] at this
    exact this
   have b1:Zo ((W7 t).2.take (t.length+2)) ((t.length:Int)+1)=some (Zag 98):=by
    have:=Zfg (ms:=[Zag 97,Zag 98]) (l:=t.map Vn) (j:=1) (k:=t.length+2) (by simp) (by rw [List.length_map];omega)
    rw [List.length_map] at this
    exact this
   have bl:(W7 t).2.length=t.length+2:=by rw [W7];simp
   have c0:∀ k:Int,(Zag k).2.2.take (Zag k).2.1=[k]:=fun k=>rfl
   rw [if_neg (by rw [decide_eq_false (by omega)];decide),Zt (x:=(t.length:Int)+2) (by omega),Z9 (by omega),show Int.toNat ((t.length:Int)+2)=t.length+2 by omega,b0,Option.bind_some,c0,if_neg (by decide),show Zo [(97:Int)] 0=some 97 from rfl,Option.bind_some,if_neg (by decide),Zt (x:=(t.length:Int)+1) (by omega),b1,Option.bind_some,c0,if_neg (by decide),show Zo [(98:Int)] 0=some 98 from rfl,Option.bind_some,Zeq,if_neg (by decide),Zt (by omega)]
theorem Zsq:∀ (f i:Nat),i≤n.2.2.2.2.length→n.2.2.2.2.length<f+i→Qe N (Y0 n) n f (i:Int)=some true
 | 0,i,h1,h2=>by omega
 | f+1,i,h1,h2=>by
  have htn:=hs.tn
  rw [Qe.eq_2]
  by_cases hi:i<n.2.2.2.2.length
  ·have ht:=hs.tl _ (List.getElem_mem hi)
   have hm:Zo (Y0 n).2.2.2.2 (i:Int)=some (W7 n.2.2.2.2[i]):=by
    rw [Us]
    show (n.2.2.2.2.map W7)[i]?=_
    rw [List.getElem?_map,List.getElem?_eq_getElem hi];rfl
   have hl:((W7 n.2.2.2.2[i]).2.take (W7 n.2.2.2.2[i]).1).length=n.2.2.2.2[i].length:=by rw [W7,List.length_take];simp
   have h5:=Zsr hs hN hi (Qe N (Y0 n) n f) N 0 (by omega) (by omega)
   rw [show ((0:Nat):Int)=0 from rfl] at h5
   rw [if_pos (decide_eq_true (by omega)),Z7 hi,Option.bind_some,hm,Option.bind_some,hl,if_neg (by rw [decide_eq_true rfl];decide),h5]
   exact Zsq f (i+1) (by omega) (by omega)
  ·rw [if_neg (by rw [decide_eq_false (by omega)];decide)]
omit hN in
theorem Zsp {i:Nat} (hi:i<n.2.2.2.1.length) (kk:Int→Option Bool):∀ (f j:Nat),j≤n.2.2.2.1[i].length→n.2.2.2.1[i].length<f+j→Zes N (Y0 n) n (i:Int) kk n.2.2.2.1[i] f (j:Int)=kk ((i:Int)+1)
 | 0,j,h1,h2=>by omega
 | f+1,j,h1,h2=>by
  have ht:=hs.pl _ (List.getElem_mem hi)
  have hpn:=hs.pn
  have hm:Zo (Y0 n).2.2.2.1 (i:Int)=some (Yq [-95,-96] n.2.2.2.1[i]):=by
   rw [Us]
   show (n.2.2.2.1.map (Yq [-95,-96]))[i]?=_
   rw [List.getElem?_map,List.getElem?_eq_getElem hi];rfl
  rw [Zes.eq_2,hm,Option.bind_some,Option.bind_some,Zm4]
  by_cases hj:j<n.2.2.2.1[i].length
  ·rw [if_pos (decide_eq_true (by omega)),Z7 hj,Option.bind_some,Z7 hi,Option.bind_some,Z7 hj,Option.bind_some,if_neg (by rw [decide_eq_true rfl];decide),Zt (by omega)]
   exact Zsp hi kk f (j+1) (by omega) (by omega)
  ·have a0:=Zfg (ms:=[-95,-96]) (l:=n.2.2.2.1[i]) (j:=0) (k:=n.2.2.2.1[i].length+2) (by simp) (by omega)
   have a1:=Zfg (ms:=[-95,-96]) (l:=n.2.2.2.1[i]) (j:=1) (k:=n.2.2.2.1[i].length+2) (by simp) (by omega)
   simp only [Nat.add_zero] at a0
   have hl:(Yq [-95,-96] n.2.2.2.1[i]).2=n.2.2.2.1[i]++[-95,-96]:=rfl
   rw [if_neg (by rw [decide_eq_false (by omega)];decide),Zt (x:=(n.2.2.2.1[i].length:Int)+2) (by omega),Z9 (by rw [Zoi];simp only [List.length_cons,List.length_nil];omega),show Int.toNat ((n.2.2.2.1[i].length:Int)+2)=n.2.2.2.1[i].length+2 by omega,hl,a0,Option.bind_some,if_neg (by decide),Zt (by omega),show (n.2.2.2.1[i].length:Int)+1=((n.2.2.2.1[i].length+1:Nat):Int) by omega,a1,Option.bind_some,Zj3,if_neg (by decide),Zt (by omega)]
theorem Zso:∀ (f i:Nat),i≤n.2.2.2.1.length→n.2.2.2.1.length<f+i→Zaf N (Y0 n) n f (i:Int)=some true
 | 0,i,h1,h2=>by omega
 | f+1,i,h1,h2=>by
  have htn:=hs.pn;have htn2:=hs.tn
  rw [Zaf.eq_2]
  by_cases hi:i<n.2.2.2.1.length
  ·have ht:=hs.pl _ (List.getElem_mem hi)
   have hm:Zo (Y0 n).2.2.2.1 (i:Int)=some (Yq [-95,-96] n.2.2.2.1[i]):=by
    rw [Us]
    show (n.2.2.2.1.map (Yq [-95,-96]))[i]?=_
    rw [List.getElem?_map,List.getElem?_eq_getElem hi];rfl
   have h5:=Zsp (N:=N) hs hi (Zaf N (Y0 n) n f) N 0 (by omega) (by omega)
   rw [show ((0:Nat):Int)=0 from rfl] at h5
   rw [if_pos (decide_eq_true (by omega)),Z7 hi,Option.bind_some,hm,Option.bind_some,Zm4,if_neg (by rw [decide_eq_true rfl];decide),h5]
   exact Zso f (i+1) (by omega) (by omega)
  ·rw [if_neg (by rw [decide_eq_false (by omega)];decide)]
   exact Zsq hs hN N 0 (by omega) (by omega)
theorem Zsn:∀ (f i:Nat),i≤n.2.2.1.length→n.2.2.1.length<f+i→Zer N (Y0 n) n f (i:Int)=some true
 | 0,i,h1,h2=>by omega
 | f+1,i,h1,h2=>by
  have htn:=hs.vn;have htn2:=hs.pn
  rw [Zer.eq_2]
  by_cases hi:i<n.2.2.1.length
  ·have ht:=hs.vl _ (List.getElem_mem hi)
   have hm:Zo (Y0 n).2.2.1 (i:Int)=some (Yq [⟨#[35,51]⟩,⟨#[35,52]⟩] n.2.2.1[i]):=by
    rw [Us]
    show (n.2.2.1.map (Yq [⟨#[35,51]⟩,⟨#[35,52]⟩]))[i]?=_
    rw [List.getElem?_map,List.getElem?_eq_getElem hi];rfl
   rw [if_pos (decide_eq_true (by omega)),hm,Option.bind_some,Z7 hi,Option.bind_some,Zxd ht hN,Option.bind_some,if_neg (by decide),Zt (by omega)]
   exact Zsn f (i+1) (by omega) (by omega)
  ·rw [if_neg (by rw [decide_eq_false (by omega)];decide)]
   exact Zso hs hN N 0 (by omega) (by omega)
theorem Z1o:Zhp N (Y0 n) n=some true:=by
 have h1:=hs.nm;have h2:=hs.vn
 have l1:(Y0 n).2.2.1.length=n.2.2.1.length:=by show (n.2.2.1.map _).length=_;rw [List.length_map]
 have l2:(Y0 n).2.2.2.1.length=n.2.2.2.1.length:=by show (n.2.2.2.1.map _).length=_;rw [List.length_map]
 have l3:(Y0 n).2.2.2.2.length=n.2.2.2.2.length:=by show (n.2.2.2.2.map _).length=_;rw [List.length_map]
 have t1:Zez N (Y0 n).2.1.1 (Y0 n).2.1.2 n.2.1 (⟨#[35,49]⟩) (⟨#[35,50]⟩)=some true:=Zxd h1 hN
 rw [Zhp,l1,l2,l3,if_neg (by rw [show (Y0 n).1=n.1 from rfl,decide_eq_true rfl];decide),if_neg (by rw [decide_eq_true rfl];decide),if_neg (by rw [decide_eq_true rfl];decide),if_neg (by rw [decide_eq_true rfl];decide),t1,Option.bind_some,Zcu,if_neg (by decide)]
 exact Zsn hs hN N 0 (by omega) (by omega)
end
def Zhr (ae:R0) (aa:Int) (kk_L1:(Int→Int→Option Int)) (ab:Int) (ac:Int) (kk_L2:(Int→Int→Option Int)) (af:Bool):Option Int:=
  if af=true then ((Zo ae.2.2.2.2 aa).bind fun ag=>(Zo ag ac).bind fun ad=>kk_L2 (i64.wrap ((i64.wrap (ab+(ad.1.2.length:Int)))+(ad.2.length:Int))) (i64.wrap (ac+1))) else (kk_L1 ab (i64.wrap (aa+1)))
def Zbi (N:Nat) (aa:R0) (ab:Int) (kk_L1:(Int→Int→Option Int)):Nat→Int→Int→Option Int
  | 0,_,_=>none
  | ae+1,ac,ad=>(Zo aa.2.2.2.2 ab).bind fun af=>if (decide (ad<(af.length:Int)))=true then (Zhr aa ab kk_L1 ac ad (Zbi N aa ab kk_L1 ae) (decide (ac<10000))) else (Zhr aa ab kk_L1 ac ad (Zbi N aa ab kk_L1 ae) false)
termination_by structural x=>x
def Qf (N:Nat) (aa:R0):Nat→Int→Int→Option Int
  | 0,_,_=>none
  | ad+1,ab,ac=>if (decide (ac<(aa.2.2.2.2.length:Int)))=true then (Zbi N aa ac (Qf N aa ad) N ab 0) else (some (if 10000<ab then 10000 else ab))
termination_by structural x=>x
def Zl1 (N:Nat) (aa:R0):Option Int:=
  Qf N aa N 0 0
theorem Zzn {N al am an ao:Nat} {ap aq ar au:Option Addr} {col:Zf} {w0:World} {aa:R0} {r:Int} (hm:Zl1 N aa=some r) (bs:Sl Za.str col w0 ap al aa.2.1) (bt:Sl (Za.slice Za.str) col w0 aq am aa.2.2.1) (bu:Sl (Za.slice (Za.int .i64)) col w0 ar an aa.2.2.2.1) (ag:Sl (Za.slice (Za.pair (Za.pair Za.bool (Za.slice (Za.int .u32))) (Za.slice (Za.int .u32)))) col w0 au ao aa.2.2.2.2):
    Calls Tryz.prog 84 #[(.agg #[.string aa.1,.slice ap aa.2.1.length al,.slice aq aa.2.2.1.length am,.slice ar aa.2.2.2.1.length an,.slice au aa.2.2.2.2.length ao])] w0 (fun e w'=>e= .returned ((.int .i64 r))∧Below w0.heap.size w0 w'):=by
 refine Xi 2 (m:=53) func84 rfl rfl rfl rfl rfl ?_;rw [Zl1.eq_1] at hm;have ab:=St.start col w0;refine go ?_;refine Xd (col:=(Zi col)) 1 rfl ?_;intro ay bv bw a8 ac;refine go ?_;replace ab:=ab.grow a8;refine Z8 [1,1000000] (fun n f az=>∃ a0 ai aj ae,ae=n∧Qf N aa ae ai aj=some r∧St w0 (Zi col) a0 az∧Zn 27 1 a0 az ay #[.string aa.1,.slice ap aa.2.1.length al,.slice aq aa.2.2.1.length am,.slice ar aa.2.2.2.1.length an,.slice au aa.2.2.2.2.length ao]∧[3,4].map f=[.int .i64 ai,.int .i64 aj]) N ⟨_,0,0,_,rfl,hm,ab,ac,rfl⟩ ?_;clear hm;intro n f az hI;obtain ⟨a0,ai,aj,ae,hn,hm,ab,ac,hs⟩:=hI;subst hn;refine .lL [3,4] hs ?_;replace ag:=ag.keep (Zj.start col w0)
 cases ae with
 | zero=>rw [Qf.eq_1] at hm;cases hm
 | succ ae=>
  rw [Qf.eq_2] at hm;refine go ?_;refine Xc ac ?_;refine go ?_;refine Zq hm (fun hb hm=>go ?_) fun hb hm=>go ?_
  ·refine Z8 [1,4,1000000] (fun n f a1=>∃ a2 av aw ah,ah=n∧Zbi N aa aj (Qf N aa ae) ah av aw=some r∧St w0 (Zi col) a2 a1∧Zn 27 1 a2 a1 ay #[.string aa.1,.slice ap aa.2.1.length al,.slice aq aa.2.2.1.length am,.slice ar aa.2.2.2.1.length an,.slice au aa.2.2.2.2.length ao]∧[3,5].map f=[.int .i64 av,.int .i64 aw]) N ⟨_,_,0,_,rfl,hm,ab,ac,rfl⟩ ?_;clear hm;intro n f a1 hI;obtain ⟨a2,av,aw,ah,hn,hm,ab,ac,hs⟩:=hI;subst hn;refine .lL [3,5] hs ?_
   cases ah with
   | zero=>rw [Zbi.eq_1] at hm;cases hm
   | succ ah=>
    rw [Zbi.eq_2] at hm;refine Zy<|Zy ?_;refine Wp.cutK [1,3,4,5,1000000] (fun f a3=>∃ ad a4,Zhr aa aj (Qf N aa ae) av aw (Zbi N aa aj (Qf N aa ae) ah) a4=some r∧St w0 (Zi col) ad a3∧Zn 27 1 ad a3 ay #[.string aa.1,.slice ap aa.2.1.length al,.slice aq aa.2.2.1.length am,.slice ar aa.2.2.2.1.length an,.slice au aa.2.2.2.2.length ao]∧[24].map f=[.bool a4]) ?_ ?_
    ·intro f a3 hJ;obtain ⟨ad,a4,hm,ab,ac,hs⟩:=hJ;rw [Zhr.eq_1] at hm;refine .lL [24] hs ?_;refine Zq hm (fun hb hm=>go ?_) fun hb hm=>go ?_
     ·refine Wc (col:=ad) (by kernel_rfl) (by kernel_rfl)<|go ?_;refine qF ⟨_,_,rfl⟩ ?_;refine qW (fun _ hC=>((ac.atN).nth (q:=4) rfl).gr (hC.bl ad)) ?_;refine go ?_;obtain ⟨bx,ak,hm⟩:=bZ hm;refine qI ak ((ag.ks ab).addr ak) ?_;obtain ⟨_,a9,ba⟩:=(ag.ks ab).atN ak;obtain ⟨⟨bz,b0,rfl,ax⟩,_⟩:=a9;refine qW (fun _ hC=>ba.one.gr (hC.bl ad)) ?_;refine go ?_;obtain ⟨b1,af,hm⟩:=bZ hm;refine qI af (ax.addr af)<|qF (Wi (ax.addr af)) ?_;refine qF (Wi (Wi (ax.addr af))) ?_;obtain ⟨_,bb,bc⟩:=ax.atN af;obtain ⟨_,_,rfl,bd,be⟩:=Y5 bb;obtain ⟨_,_,rfl,bf,bg⟩:=Y5 bd;obtain ⟨rfl,_⟩:=bf;obtain ⟨⟨b2,b3,rfl,b4⟩,_⟩:=bg;obtain ⟨⟨b5,b6,rfl,b7⟩,_⟩:=be;refine qW (fun _ hC=>((((bc).part 0 2 _ rfl)).nth (q:=1) rfl).gr (hC.bl ad)) ?_;refine go ?_;refine qF ⟨_,_,rfl⟩ ?_;refine qW (fun _ hC=>((ac.atN).nth (q:=4) rfl).gr (hC.bl ad)) ?_;refine go ?_;refine qI ak ((ag.ks ab).addr ak) ?_;obtain ⟨_,bh,bi⟩:=(ag.ks ab).atN ak;obtain ⟨⟨b8,b9,rfl,a5⟩,_⟩:=bh;refine qW (fun _ hC=>bi.one.gr (hC.bl ad)) ?_;refine go ?_;refine qI af (a5.addr af)<|qF (Wi (a5.addr af)) ?_;obtain ⟨_,bj,bk⟩:=a5.atN af;obtain ⟨_,_,rfl,bm,bn⟩:=Y5 bj;obtain ⟨_,_,rfl,bo,bp⟩:=Y5 bm;obtain ⟨rfl,_⟩:=bo;obtain ⟨⟨ca,cb,rfl,cc⟩,_⟩:=bp;obtain ⟨⟨cd,ce,rfl,cf⟩,_⟩:=bn;refine qW (fun _ hC=>((bk).nth (q:=2) rfl).gr (hC.bl ad)) ?_;refine go ?_;refine Yf ?_;intro cg hC;replace hC:=hC.bl ad;refine go ?_;replace ac:=ac.gr hC;replace ab:=ab.grow hC;exact ⟨ah,by omega,rfl,⟨_,_,_,_,rfl,hm,ab,ac,rfl⟩⟩
     exact ⟨ae,by omega,rfl,⟨_,_,_,_,rfl,hm,ab,ac,rfl⟩⟩
    refine go ?_;refine Xc ac<|Xo rfl ?_;obtain ⟨ch,a6,hm⟩:=bZ hm;refine lI a6 ((ag.ks ab).addr a6) ?_;obtain ⟨_,bq,br⟩:=(ag.ks ab).atN a6;obtain ⟨⟨ci,cj,rfl,ck⟩,_⟩:=bq;refine lW br.one<|go ?_;refine Xv hm (fun a7 hm=>go ?_) fun a7 hm=>go ?_
    ·refine lV (.bool (decide (av<10000))) (Xj (congrArg Value.bool a7) rfl)<|Zk ?_;exact ⟨rfl,_,_,hm,ab,ac,rfl⟩
    refine lV (.bool false) (Xs (congrArg Value.bool a7) rfl)<|Zk ?_;exact ⟨rfl,_,_,hm,ab,ac,rfl⟩
  refine lV (.int .i64 (if 10000<ai then 10000 else ai)) (Zms ai 10000 rfl rfl)<|go ?_;cases hm;exact ⟨rfl,rfl,ab.below⟩
def Zgd (aa:Bool):Option Bool:=
  some aa
def Zdr (N:Nat) (aa:R0) (ab:Int) (ac:Int) (kk_L1:(Int→Int→Option Bool)) (ad:Bool):Option Bool:=
  if ad=true then ((Zo aa.2.2.2.2 ac).bind fun ae=>kk_L1 (i64.wrap (ab+(ae.length:Int))) (i64.wrap (ac+1))) else (if (decide (12<(aa.2.1.length:Int)))=true then (Zgd true) else (if (decide (600<ab))=true then (Zgd true) else (if (decide (12<(aa.2.2.2.2.length:Int)))=true then (Zgd true) else ((Zl1 N (aa.1,aa.2.1,aa.2.2.1,aa.2.2.2.1,aa.2.2.2.2)).bind fun af=>Zgd (decide (3000<af))))))
def Q6 (N:Nat) (aa:R0):Nat→Int→Int→Option Bool
  | 0,_,_=>none
  | ac+1,ad,ab=>if (decide (ab<(aa.2.2.2.2.length:Int)))=true then (Zdr N aa ad ab (Q6 N aa ac) (decide (ab<13))) else (Zdr N aa ad ab (Q6 N aa ac) false)
termination_by structural x=>x
def Zjb (N:Nat) (aa:R0):Option Bool:=
  Q6 N aa N 0 0
theorem Zym {N ai aj ak al:Nat} {am an ao ap:Option Addr} {col:Zf} {w0:World} {aa:R0} {r:Bool} (hm:Zjb N aa=some r) (ar:Sl Za.str col w0 am ai aa.2.1) (au:Sl (Za.slice Za.str) col w0 an aj aa.2.2.1) (av:Sl (Za.slice (Za.int .i64)) col w0 ao ak aa.2.2.2.1) (ae:Sl (Za.slice (Za.pair (Za.pair Za.bool (Za.slice (Za.int .u32))) (Za.slice (Za.int .u32)))) col w0 ap al aa.2.2.2.2):
    Calls Tryz.prog 21 #[(.agg #[.string aa.1,.slice am aa.2.1.length ai,.slice an aa.2.2.1.length aj,.slice ao aa.2.2.2.1.length ak,.slice ap aa.2.2.2.2.length al])] w0 (fun e w'=>e= .returned ((.bool r))∧Below w0.heap.size w0 w'):=by
 refine Xi 2 (m:=43) func21 rfl rfl rfl rfl rfl ?_;rw [Zjb.eq_1] at hm;have ab:=St.start col w0;refine go ?_;refine Xd (col:=(Zi col)) 1 rfl ?_;intro a6 bf bg a9 ac;refine go ?_;replace ab:=ab.grow a9;refine Z8 [1,1000000] (fun n f aw=>∃ ax af ag ad,ad=n∧Q6 N aa ad af ag=some r∧St w0 (Zi col) ax aw∧Zn 27 1 ax aw a6 #[.string aa.1,.slice am aa.2.1.length ai,.slice an aa.2.2.1.length aj,.slice ao aa.2.2.2.1.length ak,.slice ap aa.2.2.2.2.length al]∧[3,4].map f=[.int .i64 af,.int .i64 ag]) N ⟨_,0,0,_,rfl,hm,ab,ac,rfl⟩ ?_;clear hm;intro n f aw hI;obtain ⟨ax,af,ag,ad,hn,hm,ab,ac,hs⟩:=hI;subst hn;refine .lL [3,4] hs ?_;replace ar:=ar.keep (Zj.start col w0);replace au:=au.keep (Zj.start col w0);replace av:=av.keep (Zj.start col w0);replace ae:=ae.keep (Zj.start col w0)
 cases ad with
 | zero=>rw [Q6.eq_1] at hm;cases hm
 | succ ad=>
  rw [Q6.eq_2] at hm;refine Zy<|Zy ?_;refine Wp.cutK [1,3,4,1000000] (fun f aq=>∃ ah ay,Zdr N aa af ag (Q6 N aa ad) ay=some r∧St w0 (Zi col) ah aq∧Zn 27 1 ah aq a6 #[.string aa.1,.slice am aa.2.1.length ai,.slice an aa.2.2.1.length aj,.slice ao aa.2.2.2.1.length ak,.slice ap aa.2.2.2.2.length al]∧[13].map f=[.bool ay]) ?_ ?_
  ·intro f aq hJ;obtain ⟨ah,ay,hm,ab,ac,hs⟩:=hJ;rw [Zdr.eq_1] at hm;refine .lL [13] hs ?_;refine Zq hm (fun hb hm=>go ?_) fun hb hm=>?_
   ·refine Xc ac<|Xo rfl ?_;obtain ⟨bh,az,hm⟩:=bZ hm;refine lI az ((ae.ks ab).addr az) ?_;obtain ⟨_,ba,bb⟩:=(ae.ks ab).atN az;obtain ⟨⟨bi,bj,rfl,bk⟩,_⟩:=ba;refine lW bb.one<|go ?_;exact ⟨ad,by omega,rfl,⟨_,_,_,_,rfl,hm,ab,ac,rfl⟩⟩
   refine Zkt (Zi0 ?_);refine Zy ?_;refine Wp.cutK [1000000] (fun f a7=>∃ a8 a0,Zgd a0=some r∧St w0 (Zi col) a8 a7∧[2].map f=[.bool a0]) ?_ ?_
   ·intro f a7 hJ;obtain ⟨a8,a0,hm,ab,hs⟩:=hJ;rw [Zgd.eq_1] at hm;refine .lL [2] hs<|Ys ?_;cases hm;exact ⟨rfl,rfl,ab.below⟩
   refine Wd<|Xc ac ?_;refine go ?_;refine Xv hm (fun a1 hm=>go ?_) fun a1 hm=>go ?_
   ·refine lV (.bool true) (Xj (congrArg Value.bool a1) rfl)<|Yo rfl<|lP 32 rfl rfl<|lP 32 rfl rfl<|lP 32 rfl rfl<|lP 32 rfl rfl<|lV (.bool true) (Xj rfl rfl)<|Yo rfl<|lP 38 rfl rfl<|lP 38 rfl rfl<|lP 38 rfl rfl<|lV (.bool true) (Xj rfl rfl)<|go ?_;exact ⟨rfl,_,_,hm,ab,rfl⟩
   refine lV (.bool (decide (600<af))) (Xs (congrArg Value.bool a1) rfl)<|Yo rfl ?_;refine Xv hm (fun a2 hm=>go ?_) fun a2 hm=>go ?_
   ·refine lV (.bool true) (Xj (congrArg Value.bool a2) rfl)<|Yo rfl<|lP 38 rfl rfl<|lP 38 rfl rfl<|lP 38 rfl rfl<|lV (.bool true) (Xj rfl rfl)<|go ?_;exact ⟨rfl,_,_,hm,ab,rfl⟩
   refine Xh ⟨_,_,rfl⟩ ?_;refine go ?_;refine lW ((ac.atN).nth (q:=4) rfl)<|go ?_;refine lV (.bool (decide (12<(aa.2.2.2.2.length:Int)))) (Xs (congrArg Value.bool a2) rfl)<|Yo rfl ?_;refine Xv hm (fun a3 hm=>go ?_) fun a3 hm=>go ?_
   ·refine lV (.bool true) (Xj (congrArg Value.bool a3) rfl)<|go ?_;exact ⟨rfl,_,_,hm,ab,rfl⟩
   refine lV _ (Xa isAgg27 sizeOf27 ac)<|go ?_;obtain ⟨bc,bd,hm⟩:=bZ hm;refine Zh (Zzn bd (ar.ks ab) (au.ks ab) (av.ks ab) (ae.ks ab)) ?_;rintro _ be ⟨rfl,a4⟩;refine ⟨_,rfl,?_⟩;replace a4:Zg ah aq ah be:=.of_below a4;refine go ?_;refine lV (.bool (decide (3000<bc))) (Xs (congrArg Value.bool a3) rfl)<|go ?_;replace ab:=ab.grow a4;exact ⟨rfl,_,_,hm,ab,rfl⟩
  refine go ?_;refine Xc ac ?_;refine go ?_;refine Xv hm (fun a5 hm=>go ?_) fun a5 hm=>go ?_
  ·refine lV (.bool (decide (ag<13))) (Xj (congrArg Value.bool a5) rfl)<|Zk ?_;exact ⟨rfl,_,_,hm,ab,ac,rfl⟩
  refine lV (.bool false) (Xs (congrArg Value.bool a5) rfl)<|Zk ?_;exact ⟨rfl,_,_,hm,ab,ac,rfl⟩
def Zew (N:Nat) (ab:List Int) (ac:List Int):Nat→Int→Option Bool
  | 0,_=>none
  | ad+1,aa=>if (decide (aa<(ab.length:Int)))=true then ((Zo ab aa).bind fun ae=>(Zo ac aa).bind fun af=>if (!decide (ae=af))=true then (some false) else ((Zew N ab ac ad) (i64.wrap (aa+1)))) else (some true)
termination_by structural x=>x
def Zj4 (N:Nat) (aa:List Int) (ab:List Int):Option Bool:=
  if (!decide ((aa.length:Int)=(ab.length:Int)))=true then (some false) else (Zew N aa ab N 0)
theorem Zzp {N ai aj:Nat} {a0 a1:Option Addr} {col:Zf} {w0:World} {ad ae:R2} {r:Bool} (hm:Zj4 N ad ae=some r) (h0:Sl (Za.int .i64) col w0 a0 ai ad) (h1:Sl (Za.int .i64) col w0 a1 aj ae):
    Calls Tryz.prog 31 #[.slice a0 ad.length ai,.slice a1 ae.length aj] w0 (fun e w'=>e= .returned ((.bool r))∧Below w0.heap.size w0 w'):=by
 refine Xi 4 (m:=26) func31 rfl rfl rfl rfl rfl ?_;rw [Zj4.eq_1] at hm;have aa:=St.start col w0;refine go ?_;replace h0:=h0.keep (Zj.start col w0);replace h1:=h1.keep (Zj.start col w0);refine Zq hm (fun hb hm=>go ?_) fun hb hm=>go ?_
 ·cases hm;exact ⟨rfl,rfl,aa.below⟩
 refine Z8 [0,1,1000000] (fun n f ak=>∃ ab af ac,ac=n∧Zew N ad ae ac af=some r∧St w0 (Zi col) ab ak∧[5].map f=[.int .i64 af]) N ⟨_,0,_,rfl,hm,aa,rfl⟩ ?_;clear hm;intro n f ak hI;obtain ⟨ab,af,ac,hn,hm,aa,hs⟩:=hI;subst hn;refine .lL [5] hs ?_
 cases ac with
 | zero=>rw [Zew.eq_1] at hm;cases hm
 | succ ac=>
  rw [Zew.eq_2] at hm;refine go ?_;refine Zq hm (fun hb hm=>go ?_) fun hb hm=>go ?_
  ·refine Wc (col:=ab) (by kernel_rfl) (by kernel_rfl)<|go ?_;obtain ⟨al,ag,hm⟩:=bZ hm;refine qI ag ((h0.ks aa).addr ag)<|qW (fun _ hC=>((h0.ks aa).gr (hC.bl ab)).atInt ag) ?_;refine go ?_;obtain ⟨am,ah,hm⟩:=bZ hm;refine qI ah ((h1.ks aa).addr ah)<|qW (fun _ hC=>((h1.ks aa).gr (hC.bl ab)).atInt ah) ?_;refine go ?_;refine Yf ?_;intro an hC;replace hC:=hC.bl ab;replace aa:=aa.grow hC;refine Zq hm (fun hb hm=>go ?_) fun hb hm=>go ?_
   ·cases hm;exact ⟨rfl,rfl,aa.below⟩
   exact ⟨ac,by omega,rfl,⟨_,_,_,rfl,hm,aa,rfl⟩⟩
  cases hm;exact ⟨rfl,rfl,aa.below⟩
theorem Zw0 {N:Nat} {l:List Int} (hl:l.length≤1048576):∀ (f i:Nat),i≤l.length→l.length<f+i→Zew N l l f (i:Int)=some true
 | 0,i,h1,h2=>by omega
 | f+1,i,h1,h2=>by
  rw [Zew.eq_2]
  by_cases hi:i<l.length
  ·rw [if_pos (decide_eq_true (by omega)),Z7 hi,Option.bind_some,Option.bind_some,if_neg (by rw [decide_eq_true rfl];decide),wS (by omega)]
   exact Zw0 hl f (i+1) (by omega) (by omega)
  ·rw [if_neg (by rw [decide_eq_false (by omega)];decide)]
theorem Z4f {N:Nat} {l:List Int} (hl:l.length≤1048576) (hN:1048577<N):Zj4 N l l=some true:=by
 rw [Zj4,if_neg (by rw [decide_eq_true rfl];decide)]
 exact Zw0 hl N 0 (Nat.zero_le _) (by omega)
/-! which networks are gone through -/
theorem Zta {N:Nat} {n:Xu} (hb:∀ t ∈ n.2.2.2.2,t.length≤1048576∧∀ x ∈ t,x.1.2.length≤1048576∧x.2.length≤1048576) {i:Nat} (hi:i<n.2.2.2.2.length) (hib:i<4611686018427387904) (kk:Int→Int→Option Int) (hkk:∀ s:Int,0≤s→s≤3000000→∃ r,kk s ((i+1:Nat):Int)=some r):∀ (f k:Nat) (s:Int),0≤s→s≤3000000→k≤n.2.2.2.2[i].length→n.2.2.2.2[i].length<f+k→∃ r,Zbi N n (i:Int) kk f s (k:Int)=some r
 | 0,k,s,_,_,h1,h2=>by omega
 | f+1,k,s,s1,s2,h1,h2=>by
  have ht:=hb _ (List.getElem_mem hi)
  rw [Zbi.eq_2,Z7 hi,Option.bind_some]
  by_cases hk:k<n.2.2.2.2[i].length
  ·have hx:=ht.2 _ (List.getElem_mem hk)
   rw [if_pos (decide_eq_true (by omega)),Zhr]
   by_cases hs:s<10000
   ·rw [decide_eq_true hs,if_pos rfl,Z7 hi,Option.bind_some,Z7 hk,Option.bind_some,Zt (x:=s+_) (by omega),Zt (by omega),wS (by omega)]
    exact Zta hb hi hib kk hkk f (k+1) _ (by omega) (by omega) (by omega) (by omega)
   ·rw [decide_eq_false hs,if_neg (by decide),wS (by omega)]
    exact hkk s s1 s2
  ·rw [if_neg (by rw [decide_eq_false (by omega)];decide),Zhr,if_neg (by decide),wS (by omega)]
   exact hkk s s1 s2
theorem Zs9 {N:Nat} {n:Xu} (hb:∀ t ∈ n.2.2.2.2,t.length≤1048576∧∀ x ∈ t,x.1.2.length≤1048576∧x.2.length≤1048576) (hl:n.2.2.2.2.length≤1048576) (hN:1048577<N):∀ (f i:Nat) (s:Int),0≤s→s≤3000000→i≤n.2.2.2.2.length→n.2.2.2.2.length<f+i→∃ r,Qf N n f s (i:Int)=some r
 | 0,i,s,_,_,h1,h2=>by omega
 | f+1,i,s,s1,s2,h1,h2=>by
  rw [Qf.eq_2]
  by_cases hi:i<n.2.2.2.2.length
  ·rw [if_pos (decide_eq_true (by omega))]
   have ht:=hb _ (List.getElem_mem hi)
   have:=Zta (N:=N) hb hi (by omega) (Qf N n f) (fun s' a b=>Zs9 hb hl hN f (i+1) s' a b (by omega) (by omega)) N 0 s s1 s2 (Nat.zero_le _) (by omega)
   exact this
  ·rw [if_neg (by rw [decide_eq_false (by omega)];decide)]
   exact ⟨_,rfl⟩
theorem Zte {N:Nat} {n:Xu} (hb:∀ t ∈ n.2.2.2.2,t.length≤1048576∧∀ x ∈ t,x.1.2.length≤1048576∧x.2.length≤1048576) (hl:n.2.2.2.2.length≤1048576) (hN:1048577<N):∀ (f i:Nat) (s:Int),0≤s→s≤1048576 * (i:Int)→i≤13→13<f+i→∃ r,Q6 N n f s (i:Int)=some r
 | 0,i,s,_,_,h1,h2=>by omega
 | f+1,i,s,s1,s2,h1,h2=>by
  have fin:∃ r,Zdr N n s (i:Int) (Q6 N n f) false=some r:=by
   rw [Zdr,if_neg (by decide)]
   by_cases c1:(12:Int)<(n.2.1.length:Int)
   ·rw [if_pos (decide_eq_true c1)];exact ⟨_,rfl⟩
   ·rw [if_neg (by rw [decide_eq_false c1];decide)]
    by_cases c2:(600:Int)<s
    ·rw [if_pos (decide_eq_true c2)];exact ⟨_,rfl⟩
    ·rw [if_neg (by rw [decide_eq_false c2];decide)]
     by_cases c3:(12:Int)<(n.2.2.2.2.length:Int)
     ·rw [if_pos (decide_eq_true c3)];exact ⟨_,rfl⟩
     ·rw [if_neg (by rw [decide_eq_false c3];decide)]
      obtain ⟨r,hr⟩:=Zs9 (N:=N) hb hl hN N 0 0 (by omega) (by omega) (Nat.zero_le _) (by omega)
      have hr':Zl1 N (n.1,n.2.1,n.2.2.1,n.2.2.2.1,n.2.2.2.2)=some r:=hr
      rw [hr',Option.bind_some];exact ⟨_,rfl⟩
  rw [Q6.eq_2]
  by_cases hi:i<n.2.2.2.2.length
  ·rw [if_pos (decide_eq_true (by omega))]
   by_cases h13:i<13
   ·rw [decide_eq_true (by omega),Zdr,if_pos rfl,Z7 hi,Option.bind_some]
    have ht:=hb _ (List.getElem_mem hi)
    rw [Zt (x:=s+_) (by omega),wS (by omega)]
    exact Zte hb hl hN f (i+1) _ (by omega) (by omega) (by omega) (by omega)
   ·rw [decide_eq_false (by omega)];exact fin
  ·rw [if_neg (by rw [decide_eq_false (by omega)];decide)];exact fin
theorem Z19 {N:Nat} {n:Xu} (hb:∀ t ∈ n.2.2.2.2,t.length≤1048576∧∀ x ∈ t,x.1.2.length≤1048576∧x.2.length≤1048576) (hl:n.2.2.2.2.length≤1048576) (hN:1048577<N):∃ r,Zjb N n=some r:=
 Zte hb hl hN N 0 0 (by omega) (by omega) (by omega) (by omega)
def Zja (aa:List Int):Option R5:=
  Z1 ((([]:List Int).length+aa.length) * 8≤140737488355328∧([]:List Int).length+aa.length≤maxLen) (Z1 (((([]:List Int)++aa).length+[(-61),(-62),(-63)].length) * 8≤140737488355328∧(([]:List Int)++aa).length+[(-61),(-62),(-63)].length≤maxLen) (Z1 ((0:Int)≤(aa.length:Int)∧(aa.length:Int)≤(((([]:List Int)++aa)++[(-61),(-62),(-63)]).length:Int)) (some ((Int.toNat (aa.length:Int)),(([]:List Int)++aa)++[(-61),(-62),(-63)]))))
theorem Zyl {ag:Nat} {a0:Option Addr} {col:Zf} {w0:World} {aa:R2} {r:R5} (c1:Nat) (hm:Zja aa=some r) (h0:Sl (Za.int .i64) col w0 a0 ag aa):
    Calls Tryz.prog 23 #[.slice a0 aa.length ag] w0 (fun e w'=>∃ (col':Zf) (ra1:Option Addr) (rc2:Nat),e= .returned ((.slice ra1 ((r.2.take r.1).length) rc2))∧Zg col w0 col' w'∧Zc (Za.int .i64) 3 c1 col' w' ra1 rc2 r.2):=by
 refine Xi 2 (m:=14) func23 rfl rfl rfl rfl rfl ?_;rw [Zja.eq_1] at hm;have ab:=St.start col w0;refine go ?_;obtain ⟨aj,hm⟩:=Z3 hm;replace h0:=h0.keep (Zj.start col w0);refine Ws (c:=1) Zc.nil (h0.ks ab).srcC aj ?_;intro ap aq ar ak al ac;refine go ?_;refine Wx (col:=ak) [(-61),(-62),(-63)] 2 ?_;intro au av aw ah am;obtain ⟨an,hm⟩:=Z3 hm;replace ac:=ac.gr ah;refine Ws ac (am.srcN (NB.int (k:=.i64))) an ?_;intro ad ae ax ay ao ai;refine go ?_;obtain ⟨af,hm⟩:=Z3 hm;refine lv (v:=.slice ad (Int.toNat (aa.length:Int)) ae) rfl rfl (V1 underlying40 sizeOf3 rfl rfl af.1 (by have:=ai.lecap;have:=af.2;omega))<|.ld (d:=13) (v:=(.slice ad ((((([]:List Int)++aa)++[(-61),(-62),(-63)]).take (Int.toNat (aa.length:Int))).length) ae)) (congrArg (fun n=>Value.slice ad n ae) (List.length_take_of_le (show (Int.toNat (aa.length:Int))≤((([]:List Int)++aa)++[(-61),(-62),(-63)]).length by have:=af.2;omega)).symm) ?_;refine go ?_;cases hm;replace ab:=((ab.kpp al).grow ah).kpp ao;exact ⟨rfl,_,_,_,rfl,ab.fin (cm [(1,c1)]),ab.fo ai⟩
def Zge (aa:Bool):Option Bool:=
  some aa
def Zjc (N:Nat) (n0:Nat) (aa:List Int) (ab:List Int):Option Bool:=
  Z1 ((0:Int)≤(i64.wrap (((aa.take n0).length:Int)+3))∧(i64.wrap (((aa.take n0).length:Int)+3))≤(aa.length:Int)) ((Zj4 N (aa.take n0) ab).bind fun ac=>if ac=true then ((Zo (aa.take (Int.toNat (i64.wrap (((aa.take n0).length:Int)+3)))) ((aa.take n0).length:Int)).bind fun ad=>if (decide (ad=(-61)))=true then ((Zo (aa.take (Int.toNat (i64.wrap (((aa.take n0).length:Int)+3)))) (i64.wrap (((aa.take n0).length:Int)+2))).bind fun ae=>Zge (decide (ae=(-63)))) else (Zge false)) else (Zge false))
theorem Zyn {N ac n0 al:Nat} {a0 a1:Option Addr} {col:Zf} {w0:World} {ab ad:R2} {r:Bool} (hm:Zjc N n0 ab ad=some r) (h0:Sl (Za.int .i64) col w0 a0 ac ab) (h1:Sl (Za.int .i64) col w0 a1 al ad):
    Calls Tryz.prog 26 #[.slice a0 ((ab.take n0).length) ac,.slice a1 ad.length al] w0 (fun e w'=>e= .returned ((.bool r))∧Below w0.heap.size w0 w'):=by
 refine Xi 4 (m:=31) func26 rfl rfl rfl rfl rfl ?_;rw [Zjc.eq_1] at hm;have aa:=St.start col w0;refine go ?_;obtain ⟨ae,hm⟩:=Z3 hm;replace h0:=h0.keep (Zj.start col w0);refine lv (v:=.slice a0 (Int.toNat (i64.wrap (((ab.take n0).length:Int)+3))) ac) rfl rfl (V1 underlying40 sizeOf3 rfl rfl ae.1 (by have:=(h0.ks aa).1.2;have:=ae.2;omega))<|.ld (d:=10) (v:=(.slice a0 ((ab.take (Int.toNat (i64.wrap (((ab.take n0).length:Int)+3)))).length) ac)) (congrArg (fun n=>Value.slice a0 n ac) (List.length_take_of_le (show (Int.toNat (i64.wrap (((ab.take n0).length:Int)+3)))≤ab.length by have:=ae.2;omega)).symm) ?_;refine Tt rfl<|Zk<|Zy ?_;replace h1:=h1.keep (Zj.start col w0);refine Wp.cutK [1000000] (fun f am=>∃ an af,Zge af=some r∧St w0 (Zi col) an am∧[4].map f=[.bool af]) ?_ ?_
 ·intro f am hJ;obtain ⟨an,af,hm,aa,hs⟩:=hJ;rw [Zge.eq_1] at hm;refine .lL [4] hs<|Ys ?_;cases hm;exact ⟨rfl,rfl,aa.below⟩
 refine go ?_;obtain ⟨au,ao,hm⟩:=bZ hm;refine Zh (Zzp ao ((h0.ks aa).take n0) (h1.ks aa)) ?_;rintro _ ap ⟨rfl,ag⟩;refine ⟨_,rfl,?_⟩;replace ag:Zg (Zi col) w0 (Zi col) ap:=.of_below ag;refine Yo rfl ?_;replace aa:=aa.grow ag;refine Xv hm (fun ah hm=>go ?_) fun ah hm=>go ?_
 ·obtain ⟨aq,ai,hm⟩:=bZ hm;refine lI ai (((h0.ks aa).take (Int.toNat (i64.wrap (((ab.take n0).length:Int)+3)))).addr ai) ?_;refine go ?_;refine lW (((h0.ks aa).take (Int.toNat (i64.wrap (((ab.take n0).length:Int)+3)))).atInt ai)<|go ?_;refine lV (.bool (decide (aq=(-61)))) (Xj (congrArg Value.bool ah) rfl)<|Yo rfl ?_;refine Xv hm (fun aj hm=>go ?_) fun aj hm=>go ?_
  ·obtain ⟨ar,ak,hm⟩:=bZ hm;refine lI ak (((h0.ks aa).take (Int.toNat (i64.wrap (((ab.take n0).length:Int)+3)))).addr ak) ?_;refine go ?_;refine lW (((h0.ks aa).take (Int.toNat (i64.wrap (((ab.take n0).length:Int)+3)))).atInt ak)<|go ?_;refine lV (.bool (decide (ar=(-63)))) (Xj (congrArg Value.bool aj) rfl)<|go ?_;exact ⟨rfl,_,_,hm,aa,rfl⟩
  refine lV (.bool false) (Xs (congrArg Value.bool aj) rfl)<|go ?_;exact ⟨rfl,_,_,hm,aa,rfl⟩
 refine lV (.bool false) (Xs (congrArg Value.bool ah) rfl)<|Yo rfl<|lP 22 rfl rfl<|lP 22 rfl rfl<|lP 22 rfl rfl<|lP 22 rfl rfl<|lP 22 rfl rfl<|lP 22 rfl rfl<|lP 22 rfl rfl<|lV (.bool false) (Xs rfl rfl)<|go ?_;exact ⟨rfl,_,_,hm,aa,rfl⟩
/-! a list with Zbl behind it -/
theorem Z1n {l:List Int} (hl:l.length≤1048576):Zja l=some (Yq [-61,-62,-63] l):=by
 rw [Zja,Z9 (by simp only [List.length_nil,maxLen];omega),Z9 (by simp only [List.length_append,List.length_cons,List.length_nil,maxLen];omega),Z9 (by simp only [List.length_append,List.length_cons,List.length_nil];omega),List.nil_append]
 rfl
theorem Zp7 {l:List Int} (a b c:Int):Zo (l++[a,b,c]) (l.length:Int)=some a∧Zo (l++[a,b,c]) ((l.length:Int)+2)=some c:=by
 constructor
 ·rw [Us,List.getElem?_append_right (by omega),Nat.sub_self];rfl
 ·rw [show (l.length:Int)+2=((l.length+2:Nat):Int) by omega,Us,List.getElem?_append_right (by omega),show l.length+2 - l.length=2 by omega];rfl
theorem Z4p {N:Nat} {l:List Int} (hl:l.length≤1048576) (hN:1048577<N):Zjc N (Yq [-61,-62,-63] l).1 (Yq [-61,-62,-63] l).2 l=some true:=by
 have v1:(Yq [-61,-62,-63] l).2.take (Yq [-61,-62,-63] l).1=l:=Zm4 _ _
 have v2:(Yq [-61,-62,-63] l).2=l++[-61,-62,-63]:=rfl
 have ql:((l++[-61,-62,-63]).length:Int)=(l.length:Int)+3:=by simp
 have tk:(l++[-61,-62,-63]).take (l.length+3)=l++[-61,-62,-63]:=List.take_of_length_le (by simp)
 rw [Zjc,v1,v2,Zt (x:=(l.length:Int)+3) (by omega),Zt (x:=(l.length:Int)+2) (by omega),Z9 (by rw [ql];omega),show Int.toNat ((l.length:Int)+3)=l.length+3 by omega,tk,Z4f hl hN,Option.bind_some,if_pos rfl,(Zp7 (l:=l) _ _ _).1,Option.bind_some,if_pos (decide_eq_true rfl),(Zp7 (l:=l) _ _ _).2,Option.bind_some,Zge,decide_eq_true rfl]
def Zdq (aa:Bool):Option Bool:=
  some aa
def Zlq (N:Nat) (aa:R0) (ad:List Int):Option Bool:=
  (Zjb N (aa.1,aa.2.1,aa.2.2.1,aa.2.2.2.1,aa.2.2.2.2)).bind fun ag=>if ag=true then (some true) else ((Zhu N (aa.1,aa.2.1,aa.2.2.1,aa.2.2.2.1,aa.2.2.2.2) ad).bind fun ae=>(Zhq N (aa.1,aa.2.1,aa.2.2.1,aa.2.2.2.1,aa.2.2.2.2)).bind fun ab=>(Zja ad).bind fun ac=>(Zi4 N (ab.1,ab.2.1.2.take ab.2.1.1,ab.2.2.1.map Yw,ab.2.2.2.1.map Yw,ab.2.2.2.2.map (Qk (Prod.map (Prod.map id Yw) Yw))) (ac.2.take ac.1)).bind fun af=>if (decide (af.1=ae.1))=true then (if (decide (af.2=ae.2))=true then ((Zhp N (ab.1,(ab.2.1.1,ab.2.1.2),ab.2.2.1,ab.2.2.2.1,ab.2.2.2.2) (aa.1,aa.2.1,aa.2.2.1,aa.2.2.2.1,aa.2.2.2.2)).bind fun ah=>if ah=true then ((Zjc N ac.1 ac.2 ad).bind fun ai=>Zdq ai) else (Zdq false)) else (Zdq false)) else (Zdq false))
theorem Zyk (N:Nat) (col:Zf) (w0:World) (a8:Option Addr) (a9:Nat) (ba:Option Addr) (bb:Nat) (bc:Option Addr) (bd:Nat) (be:Option Addr) (bf:Nat) (ac:R0) (a1:Option Addr) (bg:Nat) (a2:List Int) (ag:Sl Za.str col w0 a8 a9 ac.2.1) (ah:Sl (Za.slice Za.str) col w0 ba bb ac.2.2.1) (ai:Sl (Za.slice (Za.int .i64)) col w0 bc bd ac.2.2.2.1) (aj:Sl (Za.slice (Za.pair (Za.pair Za.bool (Za.slice (Za.int .u32))) (Za.slice (Za.int .u32)))) col w0 be bf ac.2.2.2.2) (h1:Sl (Za.int .i64) col w0 a1 bg a2) (r:Bool) (hm:Zlq N ac a2=some r):
    Calls Tryz.prog 8 #[(.agg #[.string ac.1,.slice a8 ac.2.1.length a9,.slice ba ac.2.2.1.length bb,.slice bc ac.2.2.2.1.length bd,.slice be ac.2.2.2.2.length bf]),.slice a1 a2.length bg] w0 (fun e w'=>e= .returned ((.bool r))∧Below w0.heap.size w0 w'):=by
 refine Xi 4 (m:=47) func8 rfl rfl rfl rfl rfl ?_;rw [Zlq.eq_1] at hm;have aa:=St.start col w0;refine go ?_;refine Xd (col:=(Zi col)) 1 rfl ?_;intro cg bw ax bx ad;refine go ?_;refine lV _ (Xa isAgg27 sizeOf27 ad) ?_;obtain ⟨ch,bz,hm⟩:=bZ hm;replace ag:=ag.keep (Zj.start col w0);replace ah:=ah.keep (Zj.start col w0);replace ai:=ai.keep (Zj.start col w0);replace aj:=aj.keep (Zj.start col w0);replace aa:=aa.grow bx;refine Zh (Zym bz (ag.ks aa) (ah.ks aa) (ai.ks aa) (aj.ks aa)) ?_;rintro _ bh ⟨rfl,ay⟩;refine ⟨_,rfl,?_⟩;replace ay:Zg ax bw ax bh:=.of_below ay;refine Zk ?_;replace h1:=h1.keep (Zj.start col w0);replace ad:=ad.gr ay;replace aa:=aa.grow ay;refine Zq hm (fun hb hm=>go ?_) fun hb hm=>go ?_
 ·cases hm;exact ⟨rfl,rfl,aa.below⟩
 refine lV _ (Xa isAgg27 sizeOf27 ad)<|Wa rfl ?_;obtain ⟨av,b0,hm⟩:=bZ hm;refine Zh (Zzq b0 (ag.ks aa) (ah.ks aa) (ai.ks aa) (aj.ks aa) (h1.ks aa)) ?_;rintro _ b1 ⟨rfl,az⟩;refine ⟨_,rfl,?_⟩;replace az:Zg ax bh ax b1:=.of_below az;refine lM (.tuple #[.string av.1,.int .i64 av.2])<|lV (.string av.1) (Xl rfl rfl)<|lV (.int .i64 av.2) (Xl rfl rfl)<|go ?_;replace ad:=ad.gr az;refine lV _ (Xa isAgg27 sizeOf27 ad) ?_;obtain ⟨ab,b2,hm⟩:=bZ hm;replace aa:=aa.grow az;refine Zh (Zzm b2 (ag.ks aa) (ah.ks aa) (ai.ks aa) (aj.ks aa)) ?_;rintro _ ci ⟨b3,bi,bj,bk,bm,bn,bo,bp,bq,rfl,br,ak,al,am,an⟩;refine ⟨_,rfl,?_⟩;refine Xf (col:=b3) #[.string (⟨#[]⟩),.slice none (([]:List ByteArray).length) 0,.slice none (([]:List R9).length) 0,.slice none (([]:List R2).length) 0,(.slice none (([]:List Rc).length) 0)] 2 zeroValue27 ?_;intro cj ck cl ao b4;refine Zw b4 ?_;intro cn ap b5 aq;refine go ?_;obtain ⟨b6,b7,hm⟩:=bZ hm;replace aa:=((aa.grow br).grow ao).kp ap b5;refine Zh (Zyl 3 b7 (h1.ks aa)) ?_;rintro _ b8 ⟨ar,co,cp,rfl,af,au⟩;refine ⟨_,rfl,go ?_⟩;replace aq:=aq.gr af;refine lV _ (Xa isAgg27 sizeOf27 aq)<|Wa rfl ?_;have b9:((.agg #[.string ab.1,.slice bi ((ab.2.1.2.take ab.2.1.1).length) bj,.slice bk ab.2.2.1.length bm,.slice bn ab.2.2.2.1.length bo,.slice bp ab.2.2.2.2.length bq]):Value)=(.agg #[.string ab.1,(.slice bi (ab.1,ab.2.1.2.take ab.2.1.1,ab.2.2.1.map Yw,ab.2.2.2.1.map Yw,ab.2.2.2.2.map (Qk (Prod.map (Prod.map id Yw) Yw))).2.1.length bj),(.slice bk (ab.1,ab.2.1.2.take ab.2.1.1,ab.2.2.1.map Yw,ab.2.2.2.1.map Yw,ab.2.2.2.2.map (Qk (Prod.map (Prod.map id Yw) Yw))).2.2.1.length bm),(.slice bn (ab.1,ab.2.1.2.take ab.2.1.1,ab.2.2.1.map Yw,ab.2.2.2.1.map Yw,ab.2.2.2.2.map (Qk (Prod.map (Prod.map id Yw) Yw))).2.2.2.1.length bo),(.slice bp (ab.1,ab.2.1.2.take ab.2.1.1,ab.2.2.1.map Yw,ab.2.2.2.1.map Yw,ab.2.2.2.2.map (Qk (Prod.map (Prod.map id Yw) Yw))).2.2.2.2.length bq)]):=by first | (simp only [List.length_map];done) | simp only [List.length_map,List.take_length]
 obtain ⟨aw,ca,hm⟩:=bZ hm;replace ak:=((ak.gr ao).kp ap).gr af;replace al:=((al.gr ao).kp ap).gr af;replace am:=((am.gr ao).kp ap).gr af;replace an:=((an.gr ao).kp ap).gr af;refine lc rfl rfl (Zc6 call46 b9 rfl) (Zx5 ca ((ak.take ab.2.1.1).froz 3) ((al.froz 3).weak Vj.view0) ((am.froz 3).weak Vj.view0) ((an.froz 3).weak (Vj.view (Vj.pair (Vj.pair Vj.rfl Vj.view0) Vj.view0))) ((au.take b6.1).toSlF (Zl.int .i64)):) ?_;rintro _ bs ⟨rfl,ae⟩;refine ⟨_,rfl,?_⟩;replace ae:Zg ar b8 ar bs:=.of_below ae;refine lM (.tuple #[.string aw.1,.int .i64 aw.2])<|lV (.string aw.1) (Xl rfl rfl)<|lV (.int .i64 aw.2) (Xl rfl rfl)<|lAT rfl<|Yu rfl<|Zk<|Zy ?_;replace ad:=((((ad.gr br).gr ao).kp ap).gr af).gr ae;replace aa:=(aa.grow af).grow ae;replace ak:=ak.gr ae;replace al:=al.gr ae;replace am:=am.gr ae;replace an:=an.gr ae;replace au:=au.gr ae;replace aq:=aq.gr ae;refine Wp.cutK [1000000] (fun f bt=>∃ bu a3,Zdq a3=some r∧St w0 (Zi col) bu bt∧[4].map f=[.bool a3]) ?_ ?_
 ·intro f bt hJ;obtain ⟨bu,a3,hm,aa,hs⟩:=hJ;rw [Zdq.eq_1] at hm;refine .lL [4] hs<|Ys ?_;cases hm;exact ⟨rfl,rfl,aa.below⟩
 refine go ?_;refine Xv hm (fun a4 hm=>go ?_) fun a4 hm=>go ?_
 ·refine lV (.bool (decide (aw.2=av.2))) (Xj (congrArg Value.bool a4) rfl)<|Yo rfl ?_;refine Xv hm (fun a5 hm=>go ?_) fun a5 hm=>go ?_
  ·refine lV _ (Xa isAgg27 sizeOf27 aq)<|go ?_;refine lV _ (Xa isAgg27 sizeOf27 ad)<|go ?_;obtain ⟨cb,cc,hm⟩:=bZ hm;refine Zh (Zzl cc ak al am an (ag.ks aa) (ah.ks aa) (ai.ks aa) (aj.ks aa)) ?_;rintro _ bv ⟨rfl,a0⟩;refine ⟨_,rfl,?_⟩;replace a0:Zg ar bs ar bv:=.of_below a0;refine lV (.bool cb) (Xj (congrArg Value.bool a5) rfl)<|Yo rfl ?_;replace au:=au.gr a0;replace aa:=aa.grow a0;refine Xv hm (fun a6 hm=>go ?_) fun a6 hm=>go ?_
   ·obtain ⟨cd,ce,hm⟩:=bZ hm;refine Zh (Zyn ce (au.toSlF (Zl.int .i64)) ((h1.ks aa).froz 3)) ?_;rintro _ cf ⟨rfl,a7⟩;refine ⟨_,rfl,?_⟩;replace a7:Zg ar bv ar cf:=.of_below a7;refine lV (.bool cd) (Xj (congrArg Value.bool a6) rfl)<|go ?_;replace aa:=aa.grow a7;exact ⟨rfl,_,_,hm,aa,rfl⟩
   refine lV (.bool false) (Xs (congrArg Value.bool a6) rfl)<|go ?_;exact ⟨rfl,_,_,hm,aa,rfl⟩
  refine lV (.bool false) (Xs (congrArg Value.bool a5) rfl)<|Yo rfl<|lP 42 rfl rfl<|lP 42 rfl rfl<|lP 42 rfl rfl<|lV (.bool false) (Xs rfl rfl)<|go ?_;exact ⟨rfl,_,_,hm,aa,rfl⟩
 refine lV (.bool false) (Xs (congrArg Value.bool a4) rfl)<|Yo rfl<|lP 37 rfl rfl<|lP 37 rfl rfl<|lP 37 rfl rfl<|lV (.bool false) (Xs rfl rfl)<|Yo rfl<|lP 42 rfl rfl<|lP 42 rfl rfl<|lP 42 rfl rfl<|lV (.bool false) (Xs rfl rfl)<|go ?_;exact ⟨rfl,_,_,hm,aa,rfl⟩
theorem Zxu {N W K:Nat} {n:Xu} {w:List Int} (hs:Ur n W) (hb:Zkz n) (hw:w.length≤1048576) (hr:Xe N (13 * K+64)) (hWK:1025 * (W+2)+4≤K) (hN:2199023255552<N):Zlq N n w=some true:=by
 obtain ⟨r,hm⟩:=Z19 (N:=N) (n:=n) (fun t ht=>⟨hb.tl t ht,hb.tm t ht⟩) hb.tn (by omega)
 have hm':Zjb N (n.1,n.2.1,n.2.2.1,n.2.2.2.1,n.2.2.2.2)=some r:=hm
 rw [Zlq,hm',Option.bind_some]
 cases r with
 | true=>rw [if_pos rfl]
 | false=>
  obtain ⟨x,s1,s2⟩:=Z0z (w:=w) hs hr hWK hN
  have s2':Zhu N (n.1,n.2.1,n.2.2.1,n.2.2.2.1,n.2.2.2.2) w=some x:=s2
  have l:Zhq N (n.1,n.2.1,n.2.2.1,n.2.2.2.1,n.2.2.2.2)=some (Y0 n):=Z10 hb (by omega)
  have v1:(Yq [-61,-62,-63] w).2.take (Yq [-61,-62,-63] w).1=w:=Zm4 _ _
  have k1:Zhp N ((Y0 n).1,((Y0 n).2.1.1,(Y0 n).2.1.2),(Y0 n).2.2.1,(Y0 n).2.2.2.1,(Y0 n).2.2.2.2) (n.1,n.2.1,n.2.2.1,n.2.2.2.1,n.2.2.2.2)=some true:=Z1o hb (by omega)
  have st:=Z4p (N:=N) hw (by omega)
  rw [if_neg (show ¬ false=true by decide),s2',Option.bind_some,l,Option.bind_some,Z1n hw,Option.bind_some,Z4s,v1,s1,Option.bind_some,if_pos (decide_eq_true rfl),if_pos (decide_eq_true rfl),k1,Option.bind_some,if_pos rfl,st,Option.bind_some,Zdq]
theorem Qw {α:Type} {b:α→Nat} (hb:∀ x,1≤b x):∀ (l:List α),l.length+1≤Xt b l
 | []=>by simp [Xt]
 | x :: l=>by
  have h:=Qw hb l
  have:=hb x
  simp only [Xt,List.map_cons,List.sum_cons,List.length_cons] at h ⊢
  omega
theorem Zl9 {α:Type} {b:α→Nat} {x:α}:∀ {l:List α},x ∈ l→b x+1≤Xt b l
 | y :: l,h=>by
  simp only [Xt,List.map_cons,List.sum_cons]
  rcases List.mem_cons.1 h with rfl | h
  ·omega
  ·have:=Zl9 (b:=b) h
   simp only [Xt] at this
   omega
theorem Zng {α:Type} {b:α→Nat} (l:List α):1≤Xt b l:=by simp only [Xt];omega
theorem Znh (s:ByteArray):1≤Vq s:=by simp only [Vq];omega
theorem Zk3 {α:Type} (s:α):1≤Wf s:=by simp only [Wf];omega
theorem Zp9 {α:Type} {b:α→Nat} (s:α):1≤U3 b s:=by simp only [U3];omega
abbrev Zan:QV→Nat:=U3 (Ww (U3 (Ww Wf (Xt Wf))) (Xt Wf))
abbrev qQ:QV→Prop:=T6 (T6 (fun _=>True) (W6 (Ql .u32))) (W6 (Ql .u32))
abbrev Zk4:Xu→Nat:=U3 (Ww Vq (Ww (Xt Vq) (Ww (Xt (Xt Vq)) (Ww (Xt (Xt Wf)) (Xt (Xt Zan))))))
abbrev Zut:Xu→Prop:=T6 (fun _=>True) (T6 (W6 (fun _=>True)) (T6 (W6 (W6 (fun _=>True))) (T6 (W6 (W6 (Ql .i64))) (W6 (W6 qQ)))))
theorem Zs8 {l:List Int} (h:W6 (Ql .u32) l):Zp l:=by
 intro d hd
 have h1:=h d hd
 simp [Ql,Lit.wf,IntKind.min,IntKind.max,IntKind.signed,IntKind.bits] at h1
 omega
theorem Z14 {x:QV} (h:qQ x):W2 x:=⟨Zs8 h.1.2,Zs8 h.2⟩
theorem Zqa (x:QV):x.1.2.length+x.2.length+4≤Zan x:=by
 have h1:=Qw (b:=Wf) Zk3 x.1.2
 have h2:=Qw (b:=Wf) Zk3 x.2
 simp only [U3,Ww]
 have h3:Wf x.1.1=1:=rfl
 omega
theorem Zux:∀ t:List QV,X9 t≤Xt Zan t
 | []=>by rw [X9];omega
 | x :: t=>by
  have h1:=Zux t
  have h2:=Zqa x
  rw [X9]
  simp only [Xt,List.map_cons,List.sum_cons] at h1 ⊢
  omega
theorem Zxi:∀ P:List R2,U9 P+P.length≤Xt (Xt Wf) P
 | []=>by simp [U9,Xt]
 | l :: P=>by
  have h1:=Zxi P
  have h2:=Qw (b:=Wf) Zk3 l
  rw [Zkq,List.length_cons]
  simp only [Xt,List.map_cons,List.sum_cons] at h1 h2 ⊢
  omega
theorem Z2p {n:Xu} (hb:Zk4 n≤1048576) (hq:Zut n):Ur n 1048576∧Zkz n:=by
 have a1:=Znh n.1
 have a2:=Qw (b:=Vq) Znh n.2.1
 have a3:=Qw (b:=Xt Vq) Zng n.2.2.1
 have a4:=Zxi n.2.2.2.1
 have a5:=Qw (b:=Xt Zan) Zng n.2.2.2.2
 have a6:=Zng (b:=Xt Wf) n.2.2.2.1
 simp only [Zk4,U3,Ww] at hb
 have b3:∀ l ∈ n.2.2.1,l.length≤1048576:=fun l hl=>by
  have h1:=Zl9 (b:=Xt Vq) hl
  have h2:=Qw (b:=Vq) Znh l
  omega
 have b4:∀ l ∈ n.2.2.2.1,l.length≤1048576:=fun l hl=>by
  have h1:=Zm5 hl
  omega
 have b5:∀ t ∈ n.2.2.2.2,Xt Zan t≤1048576:=fun t ht=>by
  have h1:=Zl9 (b:=Xt Zan) ht
  omega
 have b6:∀ t ∈ n.2.2.2.2,t.length≤1048576:=fun t ht=>by
  have h1:=b5 t ht
  have h2:=Qw (b:=Zan) Zp9 t
  omega
 refine ⟨⟨by omega,b3,⟨by omega,by omega⟩,b6,fun t ht=>Nat.le_trans (Zux t) (b5 t ht),fun t ht x hx=>Z14 (hq.2.2.2.2 t ht x hx)⟩,⟨by omega,by omega,b3,by omega,b4,by omega,b6,fun t ht x hx=>?_⟩⟩
 have h1:=b5 t ht
 have h2:=Zl9 (b:=Zan) hx
 have h3:=Zqa x
 omega
end Go.Proofs.YtbmjpjhbankpoaaGreat
