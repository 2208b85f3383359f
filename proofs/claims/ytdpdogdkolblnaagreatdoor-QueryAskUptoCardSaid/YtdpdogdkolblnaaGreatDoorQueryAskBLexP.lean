/-
  What the reader of words calls of the library: their contracts, over this program; and the fault that it hands back.
-/
import Derived.Test.YtdpdogdkolblnaaGreatDoorQueryAskBBld
import Derived.Test.YtdpdogdkolblnaaGreatDoorQueryAskBErr
import Derived.Test.YtdpdogdkolblnaaGreatDoorQueryAskBThree
import Derived.Test.YtdpdogdkolblnaaGreatDoorProg
import Derived.Test.YtdpdogdkolblnaaGreatDoorShelf
import Derived.Shelf.RegionOpenPlain
import Derived.WalkKit
import Derived.Laws.Externs
import Derived.Lib.Strings
import Derived.Lib.Index
import Derived.Lib.Strings
set_option linter.unusedVariables false
set_option maxRecDepth 100000
set_option maxHeartbeats 2000000
namespace Go.Proofs.YtdpdogdkolblnaaGreatDoor
open Go Go.RowKit
open Go.IntKind (i8 i16 i32 i64 u8 u16 u32 u64)
open Go.Proofs.Tryz
theorem Zqb (b:Nat) (w:World) (h0:w.cell? ⟨b,0,none⟩=some (.pointer (some ⟨b,0,none⟩))):
  Calls prog 68 #[.pointer (some ⟨b,0,none⟩)] w fun e w'=>e= .returned (.tuple #[])∧w'=w:=by
 go_enter func68,Tryz.ntmps68
 go_wp2
 rw [Lib.run_neq_ptr_same w _ underlying79 (show prog.info? 82=some Tryz.t82 from rfl)]
 go_wp2
 go_end0
 exact ⟨rfl,rfl⟩
theorem Zqa {e n:Nat} (b:Nat) (w:World) (h0:w.cell? ⟨b,0,none⟩=some (.pointer none)) (hsh:w.shape? b=some (e,n)) (hn:0<n) (hl:liesAt prog prog.depth e (n / prog.cellsOf e) 0 82 1=true) (hfz:w.frozen? ⟨b,0,none⟩=false):
  Calls prog 68 #[.pointer (some ⟨b,0,none⟩)] w fun e w'=>e= .returned (.tuple #[])∧w'=w.setCell ⟨b,0,none⟩ (.pointer (some ⟨b,0,none⟩)):=by
 go_enter func68,Tryz.ntmps68
 go_wp2
 rw [Lib.run_to_unsafe w ⟨b,0,none⟩ underlying79 underlying102 (show prog.info? 82=some Tryz.t82 from rfl) (by decide) hsh hn]
 simp only [Result.andThen]
 rw [Oper.upon_value]
 go_wp2
 rw [run_callFunc_extern func91 (by kernel_rfl) (by kernel_rfl) (by kernel_rfl) (e:=Extern.AbiNoEscape.same) (by kernel_rfl)]
 rw [Lib.run_noEscape]
 simp only [Result.andThen]
 rw [Oper.upon_value]
 go_wp2
 rw [Lib.run_from_unsafe w ⟨b,0,none⟩ underlying102 underlying79 (show prog.info? 82=some Tryz.t82 from rfl) hsh hl]
 simp only [Result.andThen]
 rw [Oper.upon_value]
 go_wp2
 go_end0
 exact ⟨rfl,rfl⟩
def Zne (p:Bool×List Int):Option (Bool×List Int):=some (true,p.2)
theorem Zqr {a b:Nat} (h:Yk [a,b]=true):a≠0∧b≠0∧a≠b:=by
 simp only [Yk,List.all_cons,List.all_nil,Zk2,Bool.and_eq_true,Bool.not_eq_true',Bool.and_true] at h
 refine ⟨fun e=>?_,fun e=>?_,fun e=>?_⟩
 ·subst e;simp at h
 ·subst e;simp at h
 ·subst e;simp at h
theorem Zwq (col:Zd) (w0:World) (qc0:Nat) (qc0_1:Nat) (hd:Yk [qc0,qc0_1]=true) (g0:Nat) (p:(Bool×List Int)) (a:Option Addr) (cap:Nat) (h0:Zc (Za.int .u8) 5 qc0_1 col w0 a cap p.2) (hb0:Ze 82 qc0 col w0 g0 #[.pointer (bif p.1 then some ⟨g0,0,none⟩ else none),.slice a p.2.length cap]) (r:(Bool×List Int)) (hm:Zne p=some r):
  Calls prog 68 #[.pointer (some ⟨g0,0,none⟩)] w0 (fun e w'=>∃ (col':Zd) (oa1:Option Addr) (oc2:Nat),e= .returned (.tuple #[])∧Zs (pS [qc0,qc0_1]) col w0 col' w'∧Zc (Za.int .u8) 5 qc0_1 col' w' oa1 oc2 r.2∧Ze 82 qc0 col' w' g0 #[.pointer (bif r.1 then some ⟨g0,0,none⟩ else none),.slice oa1 r.2.length oc2]):=by
 obtain ⟨n0,n1,n2⟩:=Zqr hd
 have hr:(true,p.2)=r:=Option.some.inj hm
 subst hr
 have hlt:=(Array.getElem?_eq_some_iff.1 hb0.2).1
 cases hp:p.1 with
 | true=>
  rw [hp] at hb0
  refine (Zqb g0 w0 (by rw [Lib.cell_of_heap hb0.2];rfl)).mono ?_
  rintro e w' ⟨rfl,rfl⟩
  exact ⟨col,a,cap,rfl,⟨Nat.le_refl _,fun _ _ _=>rfl,fun _ _ _=>rfl,⟨rfl,rfl,rfl⟩⟩,h0,hb0⟩
 | false=>
  rw [hp] at hb0
  have hb:w0.heap[g0]?=some (.cells #[.pointer none,.slice a p.2.length cap] 82 (0,0)):=hb0.2
  refine (Zqa (e:=82) (n:=2) g0 w0 (by rw [Lib.cell_of_heap hb];rfl) (by simp [World.shape?,hb]) (by decide) (by kernel_rfl) (Lib.frozen_of_heap hb 0)).mono ?_
  rintro e w' ⟨rfl,rfl⟩
  have hk:Xe qc0 col w0 col (w0.setCell ⟨g0,0,none⟩ (.pointer (some ⟨g0,0,none⟩))):=by
   refine ⟨by simp [World.setCell],fun _ _=>rfl,fun k hk hck=>?_⟩
   have hne:g0≠k:=fun e=>hck (by rw [← e];exact hb0.1)
   simp [World.setCell,Array.getElem?_modify,hne]
  refine ⟨col,a,cap,rfl,⟨hk.size,fun _ _ _=>rfl,fun k hk1 hp=>hk.block k hk1 fun e=>?_,⟨rfl,rfl,rfl⟩⟩,h0.kp hk n0 (fun e=>n2 e.symm),hb0.1,?_⟩
  ·rw [e] at hp;simp [pS] at hp
  ·simp [World.setCell,Array.getElem?_modify,hb]
def Zng (p:Bool×List Int):Option ByteArray:=Zr (∀ x ∈ p.2,0≤x∧x<256) (some (Zac p.2))
def Q7 (xs:List Int):List UInt8:=xs.map fun x=>UInt8.ofNat x.toNat
theorem Zwy (xs:List Int):Zac xs=⟨(Q7 xs).toArray⟩:=by
 have h:∀ (xs:List Int) (r:ByteArray),xs.foldl (fun r n=>r.push (UInt8.ofNat n.toNat)) r=⟨r.data++(Q7 xs).toArray⟩:=by
  intro xs
  induction xs with
  | nil=>intro r;simp [Q7]
  | cons x xs ih=>
   intro r
   rw [List.foldl_cons,ih]
   simp [Q7,ByteArray.push]
 rw [Zac,h]
 simp [ByteArray.empty,ByteArray.emptyWithCapacity]
 rfl
theorem Zy1 {xs:List Int} (h:∀ x ∈ xs,0≤x∧x<256):Lib.byteCells (Q7 xs)=xs.map (Value.int .u8):=by
 rw [Lib.byteCells,Q7,List.map_map]
 refine List.map_congr_left fun x hx=>?_
 obtain ⟨h1,h2⟩:=h x hx
 simp only [Function.comp]
 congr 1
 rw [UInt8.toNat_ofNat']
 omega
theorem Zu4 {col:Zd} {w:World} {g e cb cr cap:Nat} {cs:Array Value} {a:Option Addr} {xs:List Int} (hB:Ze e cb col w g cs) (hc1:cs[1]?=some (.slice a xs.length cap)) (hO:Zc (Za.int .u8) 5 cr col w a cap xs) (hw:∀ x ∈ xs,0≤x∧x<256):
  Calls prog 36 #[.pointer (some ⟨g,0,none⟩)] w fun e' w'=>e'= .returned (.string (Zac xs))∧Zs (p2 cb cr) col w col w':=by
 obtain ⟨bs,⟨fl,b2,h3,h4,rfl⟩,hm⟩:=hO
 obtain ⟨rfl,rfl⟩:=Zo1 h4
 have hbk:=hB.2
 have mixed:prog.follows Departure.mixedOrders=true:=by kernel_rfl
 have hUS0:∀ (W:World) (q:Option Addr),(Builtin.unsafeString_ #[118,3] 9 #[.pointer q,.int .i64 0]).run prog W= .ok (.string .empty) W:=fun W q=>Lib.run_unsafeString_none W _ _ _ q
 have c0:w.cell? ⟨g,1,none⟩=some (.slice a xs.length cap):=by rw [Lib.cell_of_heap hbk];exact hc1
 have c1:w.drew.cell? ⟨g,1,none⟩=some (.slice a xs.length cap):=c0
 have hz1:(Za.int u8).sz=1:=rfl
 have kd:Zs (p2 cb cr) col w col w.drew:=⟨Nat.le_refl _,fun _ _ _=>rfl,fun _ _ _=>rfl,⟨rfl,rfl,rfl⟩⟩
 rcases h3.2 with ⟨hv,hn⟩ | ⟨g2,cp,cur,hv,hbase,hh,hle,hmx,hcs,ht⟩
 ·simp only [Value.slice.injEq] at hv
  obtain ⟨rfl,_,rfl⟩:=hv
  obtain rfl:=List.length_eq_zero_iff.1 hn
  have hSD:(Builtin.unsafeSliceData_ #[80] 118 #[.slice none 0 0]).run prog w.drew= .ok (.pointer none) w.drew:=rfl
  go_enter func36,Tryz.ntmps36
  go_wp2
  go_region_o
  all_goals (go_wp2;go_ret;exact ⟨rfl,kd⟩)
 ·simp only [Value.slice.injEq] at hv
  obtain ⟨rfl,_,rfl⟩:=hv
  rw [hz1,Nat.mul_one] at hcs ht
  have hsh:w.drew.shape? g2=some (5,cur.size):=by
   have hg':w.drew.heap[g2]?=some (.cells cur 5 (0,0)):=hh
   simp [World.shape?,hg']
  by_cases hx0:xs=[]
  ·subst hx0
   by_cases hc0:cap=0
   ·subst hc0
    have hSD:(Builtin.unsafeSliceData_ #[80] 118 #[.slice (some ⟨g2,0,none⟩) 0 0]).run prog w.drew= .ok (.pointer (some ⟨w.drew.heap.size,0,none⟩)) (w.drew.alloc (.view ⟨g2,0,none⟩ 5)):=
     Lib.run_unsafeSliceData_zero w.drew _ _ 5 underlying118 ⟨g2,0,none⟩ 0 (5,cur.size) hsh
    have hlt:g<w.heap.size:=(Array.getElem?_eq_some_iff.1 hbk).1
    have c2:(w.drew.alloc (.view ⟨g2,0,none⟩ 5)).cell? ⟨g,1,none⟩=some (.slice (some ⟨g2,0,none⟩) 0 0):=by
     have:(w.drew.alloc (.view ⟨g2,0,none⟩ 5)).heap[g]?=_:=(Lib.alloc_old w.drew _ g hlt).trans hbk
     rw [Lib.cell_of_heap this];exact hc1
    have c3:(w.alloc (.view ⟨g2,0,none⟩ 5)).drew.cell? ⟨g,1,none⟩=some (.slice (some ⟨g2,0,none⟩) 0 0):=c2
    have ka:Zs (p2 cb cr) col w col (w.drew.alloc (.view ⟨g2,0,none⟩ 5)):=⟨by rw [World.size_alloc];exact Nat.le_succ _,fun _ _ _=>rfl,fun k hk _=>Lib.alloc_old w.drew _ k hk,⟨rfl,rfl,rfl⟩⟩
    go_enter func36,Tryz.ntmps36
    go_wp2
    go_region_o
    all_goals (go_wp2;go_ret;exact ⟨rfl,ka⟩)
   ·have hSD:(Builtin.unsafeSliceData_ #[80] 118 #[.slice (some ⟨g2,0,none⟩) 0 cap]).run prog w.drew= .ok (.pointer (some ⟨g2,0,none⟩)) w.drew:=Lib.run_unsafeSliceData_row _ _ _ _ _ _ hc0
    clear hc0
    go_enter func36,Tryz.ntmps36
    go_wp2
    go_region_o
    all_goals (go_wp2;go_ret;exact ⟨rfl,kd⟩)
  ·have hpos:0<xs.length:=List.length_pos_iff.2 hx0
   have hu:=Zy1 hw
   have hul:(Q7 xs).length=xs.length:=by rw [Q7,List.length_map]
   have hSD:(Builtin.unsafeSliceData_ #[80] 118 #[.slice (some ⟨g2,0,none⟩) xs.length cap]).run prog w.drew= .ok (.pointer (some ⟨g2,0,none⟩)) w.drew:=
    Lib.run_unsafeSliceData_row _ _ _ _ _ _ (by omega)
   have hUS:(Builtin.unsafeString_ #[118,3] 9 #[.pointer (some ⟨g2,0,none⟩),.int .i64 xs.length]).run prog w.drew= .ok (.string (Zac xs)) (w.drew.freeze ⟨g2,0,none⟩ xs.length):=by
    rw [Zwy]
    have:=Lib.run_unsafeString_row (P:=prog) w.drew 118 3 9 5 underlying118 (by kernel_rfl) g2 cur.size hsh (Q7 xs) (fun h=>hx0 (List.eq_nil_of_length_eq_zero (by rw [← hul,h];rfl))) (by omega) (by simp only [maxLen] at hmx;omega) ?_
    ·rw [hul] at this;exact this
    ·intro j x hx
     have:=h3.cells (g:=g2) rfl j (.int .u8 x.toNat) (by rw [← hu];simp [Lib.byteCells,hx])
     exact this
   have kf:Zs (p2 cb cr) col w col (w.drew.freeze ⟨g2,0,none⟩ xs.length):=by
    have hg2:col g2=cr:=hm.2 g2 (by simp [Value.ownBlock])
    have hb:=Lib.below_freeze (Below.drew (Below.refl 0 w)) (p:=⟨g2,0,none⟩) (Nat.zero_le _) xs.length
    refine ⟨hb.size,fun _ _ _=>rfl,fun k hk hp=>?_,⟨hb.1,hb.2,hb.3⟩⟩
    have hne:g2≠k:=fun e=>by
     subst e
     rw [hg2] at hp
     simp [p2] at hp
    unfold World.freeze
    split
    ·rfl
    ·simp only [Array.getElem?_modify]
     rw [if_neg hne];rfl
   go_enter func36,Tryz.ntmps36
   go_wp2
   go_region_o
   all_goals (go_wp2;go_ret;exact ⟨rfl,kf⟩)
theorem Zww (col:Zd) (w0:World) (qc0:Nat) (qc1:Nat) (hd:Yk [qc0,qc1]=true) (g0:Nat) (p:(Bool×List Int)) (a:Option Addr) (cap:Nat) (h0:Zc (Za.int .u8) 5 qc1 col w0 a cap p.2) (hb0:Ze 82 qc0 col w0 g0 #[.pointer (bif p.1 then some ⟨g0,0,none⟩ else none),.slice a p.2.length cap]) (r:ByteArray) (hm:Zng p=some r):
  Calls prog 36 #[.pointer (some ⟨g0,0,none⟩)] w0 (fun e w'=>∃ (col':Zd),e= .returned ((.string r))∧Zs (pS [qc0,qc1]) col w0 col' w'):=by
 obtain ⟨hc,hr⟩:=Zt hm
 have hr:Zac p.2=r:=Option.some.inj hr
 subst hr
 refine (Zu4 hb0 rfl h0 hc).mono ?_
 rintro e w' ⟨rfl,hk⟩
 have hp:∀ k,p2 qc0 qc1 k=pS [qc0,qc1] k:=fun k=>by simp only [pS,p2,List.any_cons,List.any_nil,Bool.or_false]
 exact ⟨col,rfl,hk.size,fun k h1 h2=>hk.tint k h1 ((hp _).trans h2),fun k h1 h2=>hk.block k h1 ((hp _).trans h2),hk.still⟩
def Zgi (s:ByteArray) (c:Int):Option Int:=some (Lib.indexByte s.data.toList c.toNat.toUInt8)
theorem Z0u (col:Zd) (w0:World) (s:ByteArray) (c:Int) (r:Int) (hm:Zgi s c=some r):
  Calls prog 89 #[.string s,.int .u8 c] w0 (fun e w'=>e= .returned ((.int .i64 r))∧Below w0.heap.size w0 w'):=by
 have hr:Lib.indexByte s.data.toList c.toNat.toUInt8=r:=Option.some.inj hm
 subst hr
 refine (Tryz.strings_IndexByte s c w0).mono ?_
 rintro e w' ⟨rfl,rfl⟩
 exact ⟨rfl,Below.refl _ _⟩
def Zj4 (s p:ByteArray):Option Bool:=some (Lib.hasPrefix s.data.toList p.data.toList)
theorem Z2b (col:Zd) (w0:World) (s p:ByteArray) (r:Bool) (hm:Zj4 s p=some r):
  Calls prog 107 #[.string s,.string p] w0 (fun e w'=>e= .returned ((.bool r))∧Below w0.heap.size w0 w'):=by
 have hr:Lib.hasPrefix s.data.toList p.data.toList=r:=Option.some.inj hm
 subst hr
 refine (Tryz.strings_HasPrefix s p w0).mono ?_
 rintro e w' ⟨rfl,rfl⟩
 exact ⟨rfl,Below.refl _ _⟩
def Znh (s p:ByteArray):Option Int:=Zr (s.size<4294967281) (some (Lib.index s.data.toList p.data.toList))
theorem Z0t {v:Value} (col:Zd) (w0:World) (s p:ByteArray) (hgl:Gl v col w0) (r:Int) (hm:Znh s p=some r):
  Calls prog 108 #[.string s,.string p] w0 (fun e w'=>e= .returned ((.int .i64 r))∧Below w0.heap.size w0 w'):=by
 obtain ⟨h1,h2⟩:=Zt hm
 have hr:Lib.index s.data.toList p.data.toList=r:=Option.some.inj h2
 subst hr
 obtain ⟨k,hk⟩:=hgl.len
 refine (Tryz.strings_Index s p k w0 h1 hk).mono ?_
 rintro e w' ⟨rfl,rfl⟩
 exact ⟨rfl,Below.refl _ _⟩
def Zky (s c:ByteArray):Option ByteArray:=if c=⟨#[48]⟩ then some ⟨(Lib.trimLeftB s.data.toList 48).toArray⟩ else none
theorem Z3r (col:Zd) (w0:World) (s c:ByteArray) (r:ByteArray) (hm:Zky s c=some r):
  Calls prog 109 #[.string s,.string c] w0 (fun e w'=>e= .returned ((.string r))∧Below w0.heap.size w0 w'):=by
 unfold Zky at hm
 split at hm
 ·rename_i hc
  subst hc
  have hr:=Option.some.inj hm
  subst hr
  refine (Tryz.strings_TrimLeft_one s 48 (by decide) w0).mono ?_
  rintro e w' ⟨rfl,rfl⟩
  exact ⟨rfl,Below.refl _ _⟩
 ·cases hm
def Zbs (code:Int) (word:ByteArray) (t:Int×ByteArray×Int×Int):Option ((Int×ByteArray×Int×Int)×Option (Int×Int×Int×ByteArray)):=some ((0,⟨#[]⟩,0,0),some (code,t.2.2.1,t.2.2.2,word))
theorem Zz5 (col:Zd) (w0:World) (qc2:Nat) (hqqc2:qc2≠0) (code:Int) (word:ByteArray) (g2:Nat) (t:(Int×ByteArray×Int×Int)) (hb2:Ze 63 qc2 col w0 g2 #[.int .i8 t.1,.string t.2.1,.int .i64 t.2.2.1,.int .i64 t.2.2.2]) (r:((Int×ByteArray×Int×Int)×(Option (Int×Int×Int×ByteArray)))) (hm:Zbs code word t=some r):
  Calls prog 84 #[.int .i64 code,.string word,.pointer (some ⟨g2,0,none⟩)] w0 (fun e w'=>∃ (col':Zd) (rv1:Value),e= .returned (.tuple #[(.agg #[.int .i8 r.1.1,.string r.1.2.1,.int .i64 r.1.2.2.1,.int .i64 r.1.2.2.2]),rv1])∧Zg col w0 col' w'∧Rd (Za.err 72 29 (Za.pair (Za.int .i64) (Za.pair (Za.int .i64) (Za.pair (Za.int .i64) Za.str)))) col' w' [rv1] r.2):=by
 have hr:=Option.some.inj hm
 subst hr
 have hlt:=(Array.getElem?_eq_some_iff.1 hb2.2).1
 have c2:w0.cell? ⟨g2,2,none⟩=some (.int .i64 t.2.2.1):=by rw [Lib.cell_of_heap hb2.2];rfl
 have c3:w0.cell? ⟨g2,3,none⟩=some (.int .i64 t.2.2.2):=by rw [Lib.cell_of_heap hb2.2];rfl
 have mixed:prog.follows Departure.mixedOrders=true:=by kernel_rfl
 go_enter func84,Tryz.ntmps84
 go_wp2
 go_region_o
 all_goals (
  go_wp2
  have hsz1:(w0.alloc (.cells #[.int .i8 0,.string ⟨#[]⟩,.int .i64 0,.int .i64 0] 63)).heap.size=w0.heap.size+1:=by simp
  have hb':(((w0.alloc (.cells #[.int .i8 0,.string ⟨#[]⟩,.int .i64 0,.int .i64 0] 63)).alloc (.cells #[.int .i64 code,.int .i64 t.2.2.1,.int .i64 t.2.2.2,.string word] 29)).drew).heap[w0.heap.size]?=some (.cells #[.int .i8 0,.string ⟨#[]⟩,.int .i64 0,.int .i64 0] 63 (0,0)):=by
   show ((w0.alloc _).alloc _).heap[w0.heap.size]?=_
   rw [heap_alloc_old _ _ (by rw [hsz1];omega),heap_alloc_new]
  have l0:=run_loadCells_list (P:=prog) (w:=((w0.alloc (.cells #[.int .i8 0,.string ⟨#[]⟩,.int .i64 0,.int .i64 0] 63)).alloc (.cells #[.int .i64 code,.int .i64 t.2.2.1,.int .i64 t.2.2.2,.string word] 29)).drew) ⟨w0.heap.size,0,none⟩ [.int .i8 0,.string ⟨#[]⟩,.int .i64 0,.int .i64 0] (fun j v hj=>by
   rw [Vc,Nat.zero_add,Lib.cell_of_heap hb']
   simpa using hj)
  change Sem.run prog (loadCells _ 4) _=_ at l0
  refine ⟨rfl,.tuple #[.agg #[.int .i8 0,.string ⟨#[]⟩,.int .i64 0,.int .i64 0],.iface 72 (.pointer (some ⟨w0.heap.size+1,0,none⟩))],?_,Xw col w0 0,_,rfl,Zg.new ((((Below.refl _ _).alloc (Nat.le_refl _) _).alloc (by rw [hsz1];omega) _).drew) 0,Wb.err (b:=w0.heap.size+1) (cs:=[.int .i64 code,.int .i64 t.2.2.1,.int .i64 t.2.2.2,.string word]) ⟨by simp only [Xw];rw [if_neg (by omega)],by show ((w0.alloc _).alloc _).heap[w0.heap.size+1]?=_;rw [← hsz1,heap_alloc_new]⟩ ?_⟩
  ·simp [results,Tryz.f84,loadVar,asAddr,isAgg63,sizeOf63,l0]
  ·exact W5 (Vf .i64 code) (W5 (Vf .i64 t.2.2.1) (W5 (Vf .i64 t.2.2.2) (Vj word))))
end Go.Proofs.YtdpdogdkolblnaaGreatDoor
