/-
  Text that is written bit by bit: a row of bytes behind which a string's bytes are put; what the library's Builder checks. Over any program.
-/
import Derived.Test.YtdpdogdkolblnaaGreatDoorQueryAskBMore
import Derived.Test.YtdpdogdkolblnaaGreatDoorQueryAskBBrief
import Derived.Lib.AppendStr
import Derived.Lib.Builder
import Derived.Lib.UnsafeStr
set_option linter.unusedVariables false
namespace Go.Proofs.YtdpdogdkolblnaaGreatDoor
open Go Go.RowKit
open Go.IntKind (i8 i16 i32 i64 u8 u16 u32 u64)

def Wg (s:ByteArray):List Int:=s.data.toList.map fun b=>(b.toNat:Int)
theorem Zc0 (s:ByteArray):(Wg s).length=s.size:=by rw [Wg,List.length_map,Array.length_toList];rfl
theorem Zu1 (s:ByteArray):Lib.strCells s=(Wg s).map (Value.int .u8):=by
 rw [Lib.strCells,Wg,List.map_map];rfl
theorem Zlr {k:IntKind} {col:Zd} {w:World}:∀ (xs:List Int),Rows (Za.int k) col w (xs.map (Value.int k)) xs []
 | []=>⟨rfl,rfl⟩
 | x :: xs=>⟨[.int k x],_,[],[],rfl,rfl,⟨rfl,rfl⟩,Zlr xs⟩
theorem Zo1 {k:IntKind} {col:Zd} {w:World}:∀ {xs:List Int} {fl:List Value} {bs:List Nat},Rows (Za.int k) col w fl xs bs→fl=xs.map (Value.int k)∧bs=[]
 | [],_,_,h=>h
 | x :: xs,_,_,⟨cs,fl',b1,b2,h,hb,h1,h2⟩=>by
  have h1:cs=[.int k x]∧b1=[]:=h1
  obtain ⟨h3,h4⟩:=Zo1 h2
  rw [h,hb,h1.1,h1.2,h3,h4];exact ⟨rfl,rfl⟩
section
variable {col:Zd} {w:World} {e c cap:Nat} {a:Option Addr} {xs:List Int}
theorem Zc.appendS {P:Program} {f:Fr} {T U t:Nat} {dst:Option Nat} {p:String} {af:Array Edge} {x y:Operand} {s:ByteArray} {i:TypeInfo}
  (h:Zc (Za.int .u8) e c col w a cap xs) (hc:c≠0) (hT:P.underlying T=some (.slice e)) (hU:P.underlying U=some .string) (hi:P.info? e=some i) (hz:i.zero=some (.int .u8 0)) (hs1:i.size=1) (hb1:i.bytes=1)
  (hx:ev f x= .slice a xs.length cap) (hy:ev f y= .string s) (hb:xs.length+s.size≤140737488355328):
  ∃ a' cap' w' col',(execOp (ev f) ⟨dst,.call { callee:=.builtin .append,args:=#[x,y],argTypes:=#[T,U] },t,p,af,none⟩).run P w= .ok (.value (.slice a' (xs++Wg s).length cap')) w'∧
   Xe c col w col' w'∧Xt w w'∧Zc (Za.int .u8) e c col' w' a' cap' (xs++Wg s):=by
 obtain ⟨bs,⟨fl,b2,h3,h4,rfl⟩,hm⟩:=h
 obtain ⟨rfl,rfl⟩:=Zo1 h4
 have hlen:(xs++Wg s).length=xs.length+s.size:=by rw [List.length_append,Zc0]
 have hcells:xs.map (Value.int .u8)++Lib.strCells s=(xs++Wg s).map (Value.int .u8):=by rw [Zu1,List.map_append]
 have hexec:∀ v w',(Builtin.append_ #[T,U] t #[.slice a xs.length cap,.string s]).run P w= .ok v w'→
   (execOp (ev f) ⟨dst,.call { callee:=.builtin .append,args:=#[x,y],argTypes:=#[T,U] },t,p,af,none⟩).run P w= .ok (.value v) w':=by
  intro v w' hr
  simp [execOp,resolve,invoke,builtin,hx,hy,hr]
 have hml:xs.length+s.size≤maxLen:=by simp only [maxLen];omega
 have fin:∀ (g cp:Nat) (w':World),(g=w.heap.size∨(Value.slice a xs.length cap).ownBlock=some g)→w.grownBy w' (Value.slice a xs.length cap).ownBlock→w'.ownsRow 0 e 1 (.slice (some ⟨g,0,none⟩) (xs.length+s.size) cp) (xs.length+s.size) (xs.map (Value.int .u8)++Lib.strCells s)→
   Xe c col w (Xw col w c) w'∧Xt w w'∧Zc (Za.int .u8) e c (Xw col w c) w' (some ⟨g,0,none⟩) cp (xs++Wg s):=by
  intro g cp w' hg hgr ho
  rw [hcells,← hlen] at ho
  refine ⟨⟨hgr.size,fun k hk=>by simp [Xw,hk],fun k hk hck=>hgr.block k hk fun hb=>hck (hm.2 k (by rw [← hb];simp))⟩,⟨hgr.1,hgr.2,hgr.3⟩,[g],⟨_,[],ho,Zlr _,by simp [Value.ownBlock]⟩,by simp,fun b hb=>?_⟩
  rw [List.mem_singleton] at hb
  subst hb
  rcases hg with rfl | hg
  ·simp [Xw]
  ·have hmem:b ∈ (Value.slice a xs.length cap).ownBlock.toList++([]:List Nat):=by rw [hg];simp
   have hlt:b<w.heap.size:=(h3.lt b hg).2
   simp only [Xw,hlt,if_true]
   exact hm.2 b hmem
 rcases h3.2 with ⟨hv,hn⟩ | ⟨g,cp,cur,hv,hbase,hh,hle,hmx,hcs,ht⟩
 ·simp only [Value.slice.injEq] at hv
  obtain ⟨rfl,_,rfl⟩:=hv
  obtain rfl:=List.length_eq_zero_iff.1 hn
  obtain ⟨v',w',hr,ho,hgr,hnil⟩:=Lib.run_append_own_string (P:=P) w w.heap.size T U t e i hT hU hi hz hs1 hb1 (.slice none 0 0) 0 [] (World.ownsRow_nil _ _ _ _) s (by simpa using hml) (by simpa using hb) (Nat.le_refl _)
  have hr2:=hexec _ _ hr
  rcases ho.2 with ⟨hv,hn⟩ | ⟨g,cp,cur,hv,hbase,hrest⟩
  ·subst hv
   have hs0:s.size=0:=by omega
   have hnl:Wg s=[]:=List.eq_nil_of_length_eq_zero (by rw [Zc0];exact hs0)
   have hk:Xe c col w (Xw col w c) w':=⟨hgr.size,fun k hk=>by simp [Xw,hk],fun k hk hck=>hgr.block k hk (by simp [Value.ownBlock])⟩
   refine ⟨none,0,w',_,by rw [hnl];exact hr2,hk,⟨hgr.1,hgr.2,hgr.3⟩,by rw [hnl];exact Zc.nil⟩
  ·subst hv
   have hgw:g<w'.heap.size:=(ho.lt g (by simp [Value.ownBlock])).2
   have ho':w'.ownsRow 0 e 1 (.slice (some ⟨g,0,none⟩) (0+s.size) cp) (0+s.size) ([]++Lib.strCells s):=⟨ho.1,.inr ⟨g,cp,cur,rfl,Nat.zero_le _,hrest⟩⟩
   refine ⟨some ⟨g,0,none⟩,cp,w',Xw col w c,?_,?_⟩
   ·rw [hlen];exact hr2
   ·have hk:Xe c col w (Xw col w c) w':=⟨hgr.size,fun k hk=>by simp [Xw,hk],fun k hk hck=>hgr.block k hk (by simp [Value.ownBlock])⟩
    refine ⟨hk,⟨hgr.1,hgr.2,hgr.3⟩,[g],⟨(Wg s).map (Value.int .u8),[],?_,Zlr _,by simp [Value.ownBlock]⟩,by simp,fun b hb=>?_⟩
    ·rw [List.nil_append,Zc0,← Zu1]
     have hz1:(Za.int u8).sz=1:=rfl
     rw [hz1]
     simpa using ho'
    ·rw [List.mem_singleton] at hb
     subst hb
     have:¬ b<w.heap.size:=by omega
     simp [Xw,this]
 ·simp only [Value.slice.injEq] at hv
  obtain ⟨rfl,_,rfl⟩:=hv
  have hz1:(Za.int u8).sz=1:=rfl
  rw [hz1,Nat.mul_one] at hcs ht
  have hcs':cur.size=cap:=hcs
  by_cases hroom:xs.length+s.size≤cap
  ·have hr:=Lib.run_append_room_string (P:=P) w T U t e i hT hU hi hs1 g xs.length cap cur hh s hroom (by omega)
   have htk:cur.toList.take xs.length=xs.map (Value.int .u8):=ht
   refine ⟨some ⟨g,0,none⟩,cap,_,Xw col w c,by rw [hlen];exact hexec _ _ hr,?_⟩
   refine fin g cap _ (.inr rfl) ⟨rfl,rfl,rfl,by simp,fun k _ hk=>setRow_other w g k _ (fun e=>hk (by simp [Value.ownBlock,e]))⟩ ⟨by rw [List.length_append,List.length_map,Lib.strCells_length,Nat.mul_one],.inr ⟨g,cap,_,rfl,Nat.zero_le _,setRow_heap w g cur _ e _ hh,hroom,hmx,?_,?_⟩⟩
   ·simp only [List.size_toArray,List.length_append,List.length_take,List.length_drop,Array.length_toList,Lib.strCells_length]
    omega
   ·have hl2:(xs.map (Value.int .u8)++Lib.strCells s).length=(xs.length+s.size) * 1:=by rw [List.length_append,List.length_map,Lib.strCells_length,Nat.mul_one]
    rw [htk,← hl2]
    exact List.take_left
  ·have holds:∀ j u,(xs.map (Value.int .u8))[j]?=some u→w.cell? ((⟨g,0,none⟩:Addr).add j)=some u:=h3.cells (g:=g) rfl
   have hr:=Lib.run_append_grow_string (P:=P) w T U t e i (.int .u8 0) hT hU hi hz ⟨g,0,none⟩ xs.length cap (xs.map (Value.int .u8)) (by rw [hs1,List.length_map,Nat.mul_one]) holds s (by omega) (by omega) (by rw [hb1];exact growslice_fits (by omega) (by omega))
   have hge:=grownCap_ge w (xs.length+s.size) cap e
   have hcm:grownCap w (xs.length+s.size) cap e≤maxLen:=grownCap_le_maxLen w (xs.length+s.size) cap e hml
   refine ⟨some ⟨w.heap.size,0,none⟩,_,_,Xw col w c,by rw [hlen];exact hexec _ _ hr,?_⟩
   refine fin w.heap.size _ _ (.inl rfl) ⟨rfl,rfl,rfl,by simp,fun k hk _=>(heap_alloc_old w.drew _ hk:_)⟩ ⟨by rw [List.length_append,List.length_map,Lib.strCells_length,Nat.mul_one],.inr ⟨w.heap.size,_,_,rfl,Nat.zero_le _,heap_alloc_new w.drew _,hge,hcm,?_,?_⟩⟩
   ·have hz1:(Value.int u8 0).cells.size=1:=rfl
    simp only [Array.size_append,List.size_toArray,size_zeroCells,hz1,List.length_map,Lib.strCells_length]
    omega
   ·have hl2:(xs.map (Value.int .u8)++Lib.strCells s).length=(xs.length+s.size) * 1:=by rw [List.length_append,List.length_map,Lib.strCells_length,Nat.mul_one]
    simp only [Array.toList_append,List.append_assoc]
    rw [← List.append_assoc,← hl2]
    exact List.take_left
end
section
variable {P:Program} {m:Nat} {rd:Option Nat} {ops:Array Oper} {K:Fr→World→Prop} {rest:List Oper} {f:Fr} {w:World} {col:Zd} {d t e c cap:Nat} {p:String} {af:Array Edge} {x y:Operand} {a:Option Addr} {xs:List Int}
theorem Z0y {T U:Nat} {s:ByteArray} {i:TypeInfo} (h:Zc (Za.int .u8) e c col w a cap xs) (hd:Nat.blt d m=true) (hT:P.underlying T=some (.slice e)) (hU:P.underlying U=some .string) (hi:P.info? e=some i) (hz:i.zero=some (.int .u8 0)) (hs1:i.size=1) (hb1:i.bytes=1)
  (hx:ev f x= .slice a xs.length cap) (hy:ev f y= .string s) (hb:xs.length+s.size≤140737488355328) (hc:c≠0)
  (k:∀ a' cap' w' col',Xe c col w col' w'→Xt w w'→Zc (Za.int .u8) e c col' w' a' cap' (xs++Wg s)→Zp P m rd ops K rest (Zu f d (.slice a' (xs++Wg s).length cap')) w'):
  Zp P m rd ops K (⟨some d,.call { callee:=.builtin .append,args:=#[x,y],argTypes:=#[T,U] },t,p,af,none⟩ :: rest) f w:=by
 obtain ⟨a',cap',w',col',hr,h1,h2,h3⟩:=Zc.appendS (t:=t) (dst:=some d) (p:=p) (af:=af) h hc hT hU hi hz hs1 hb1 hx hy hb
 exact lv hd rfl hr (k _ _ _ _ h1 h2 h3)
end
end Go.Proofs.YtdpdogdkolblnaaGreatDoor
