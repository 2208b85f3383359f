/-
  errors.As at a pointer to a fault's pointer: its contract (after the kit's worked example of errors.As).
-/
import Derived.Test.YtdpdogdkolblnaaGreatDoorQueryAskBErr
import Derived.Test.YtdpdogdkolblnaaGreatDoorQueryAskBBld
import Derived.Test.YtdpdogdkolblnaaGreatDoorProg
import Derived.WalkKit
import Derived.LaidEql
import Derived.Stop.Asserts
import Derived.RowKitTokens
set_option maxRecDepth 100000
namespace Go.Proofs.YtdpdogdkolblnaaGreatDoor
open Go Go.RowKit Go.Extern.Stop Go.Stop Go.Extern
open Go.IntKind (i8 i16 i32 i64 u8 u16 u32 u64)
open Go.Proofs.Tryz

theorem Zwb (t:Value) (w:World):
  Calls prog 30 #[.nilIface,t] w fun e w'=>e= .returned (.bool false)∧w'=w:=by
 go_enter func30,Tryz.ntmps30
 go_wp2
 go_ret
 exact ⟨rfl,rfl⟩


theorem Zwj (t:Addr) (w:World):(ReflectliteValue.unpack (.iface 77 (.pointer (some t)))).run prog w
  = .ok (.agg #[.pointer (some ⟨4,77,none⟩),.pointer (some ⟨w.heap.size,0,none⟩),.int .u64 150]) (w.alloc (.cells #[.pointer (some t)] 77)):=by kernel_rfl
theorem Zwg (a:Addr) (w:World):(ReflectliteValue.methodAny (ReflectliteValue.valueError "reflectlite.Value.Type" 0) (fun t _ _ _=>ReflectliteType.toType t) #[.agg #[.pointer (some ⟨4,77,none⟩),.pointer (some a),.int .u64 150]]).run prog w
  = .ok (.iface 141 (.agg #[.pointer (some ⟨4,77,none⟩)])) w:=by kernel_rfl
theorem Zv9 (h:Value) (w:World):(Go.method 370 141 (.agg #[h]) "Kind").run prog w= .ok (186,h) w:=by kernel_rfl
theorem Zv5 (w:World):((ReflectliteType.abiMethod fun t=>(fun a:Nat=>Value.int u8 (a:Int))<$>Rtype.kind t) #[.pointer (some ⟨4,77,none⟩)]).run prog w= .ok (.int .u8 22) w:=by kernel_rfl
theorem Zv4 (w:World):((ReflectliteType.abiMethod fun t=>(fun a:Nat=>Value.int u8 (a:Int))<$>Rtype.kind t) #[.pointer (some ⟨4,72,none⟩)]).run prog w= .ok (.int .u8 22) w:=by kernel_rfl


theorem rlm (z:Sem Value) (f:TypeId→Addr→Nat→Nat→Sem Value) (v:Value):
  ReflectliteValue.method z f #[v]=(do match ← ReflectliteValue.parts v with | none=>z | some (t,a,fl)=>f t a fl (fl % 32)):=rfl
theorem Zpj (a:Addr) (w:World):(ReflectliteValue.parts (.agg #[.pointer (some ⟨4,77,none⟩),.pointer (some a),.int .u64 150])).run prog w= .ok (some (77,a,150)) w:=by kernel_rfl
theorem Zv3 (a p:Addr) (W:World) (ha:W.cell? a=some (.pointer (some p))):
  (ReflectliteValue.method (ReflectliteValue.valueError "reflectlite.Value.IsNil" 0) ReflectliteValue.isNil #[.agg #[.pointer (some ⟨4,77,none⟩),.pointer (some a),.int .u64 150]]).run prog W= .ok (.bool false) W:=by
 rw [rlm]
 simp only [Sem.run_bind,Zpj,Result.andThen]
 simp [ReflectliteValue.isNil,loadVar,isAgg,underlying,underlying77,ha,Result.andThen]

theorem Zv7 (h:Value) (w:World):(Go.method 370 141 (.agg #[h]) "Elem").run prog w= .ok (199,.agg #[h]) w:=by kernel_rfl
theorem Zv8 (h:Value) (w:World):(Go.method 370 141 (.agg #[h]) "Implements").run prog w= .ok (200,.agg #[h]) w:=by kernel_rfl
theorem Zv6 (h:Value) (w:World):(Go.method 370 141 (.agg #[h]) "AssignableTo").run prog w= .ok (197,.agg #[h]) w:=by kernel_rfl
theorem Zvy (w:World):(ReflectliteType.method ReflectliteType.elem #[.agg #[.pointer (some ⟨4,77,none⟩)]]).run prog w= .ok (.iface 141 (.agg #[.pointer (some ⟨4,72,none⟩)])) w:=by kernel_rfl
theorem Zv2 (w:World):(ReflectliteType.relation "Implements" ReflectliteType.implements_ #[.agg #[.pointer (some ⟨4,72,none⟩)],.iface 141 (.agg #[.pointer (some ⟨4,24,none⟩)])]).run prog w= .ok (.bool true) w:=by kernel_rfl
theorem Zwh (v:Value) (w:World):(ReflectliteType.typeOf #[.iface 72 v]).run prog w= .ok (.iface 141 (.agg #[.pointer (some ⟨4,72,none⟩)])) w:=by kernel_rfl
theorem Zvw (w:World):(ReflectliteType.relation "AssignableTo" ReflectliteType.assignableTo #[.agg #[.pointer (some ⟨4,72,none⟩)],.iface 141 (.agg #[.pointer (some ⟨4,72,none⟩)])]).run prog w= .ok (.bool true) w:=by kernel_rfl
theorem Zwi (e:Addr) (w:World):(ReflectliteValue.unpack (.iface 72 (.pointer (some e)))).run prog w
  = .ok (.agg #[.pointer (some ⟨4,72,none⟩),.pointer (some ⟨w.heap.size,0,none⟩),.int .u64 150]) (w.alloc (.cells #[.pointer (some e)] 72)):=by kernel_rfl

theorem Zvz (w:World):(Rtype.elem? 77).run prog w= .ok (some 72) w:=by kernel_rfl
theorem Zwa (p:Addr) (w:World):(ReflectliteValue.mk 72 p ReflectliteValue.flagAddr).run prog w= .ok (.agg #[.pointer (some ⟨4,72,none⟩),.pointer (some p),.int .u64 406]) w:=by kernel_rfl
theorem Zv0 (a p:Addr) (W:World) (ha:W.cell? a=some (.pointer (some p))):
  (ReflectliteValue.method (ReflectliteValue.valueError "reflectlite.Value.Elem" 0) ReflectliteValue.elem #[.agg #[.pointer (some ⟨4,77,none⟩),.pointer (some a),.int .u64 150]]).run prog W
   = .ok (.agg #[.pointer (some ⟨4,72,none⟩),.pointer (some p),.int .u64 406]) W:=by
 rw [rlm]
 simp only [Sem.run_bind,Zpj,Result.andThen]
 simp [ReflectliteValue.elem,loadVar,isAgg,underlying,underlying77,ha,Result.andThen,Zvz,Zwa]
theorem rls (v x:Value):ReflectliteValue.set #[v,x]=(do
  let (some (dst,a,fl),some (src,b,_)):=(← ReflectliteValue.parts v,← ReflectliteValue.parts x)
   | unsupported (.noEntry "extern/(internal/reflectlite.Value).Set.zeroValue")
  if fl / ReflectliteValue.flagAddr % 2==0 then unsupported (.noEntry "extern/(internal/reflectlite.Value).Set.unaddressable")
  let val ← loadVar src b
  if ← Rtype.directlyAssignable dst src then storeVar dst a val
  else if ← Rtype.implements dst src then
   if (← Rtype.kind src)==20 then
    match val with
    | .nilIface=>unsupported (.noEntry "extern/reflectlite: a nil value of one interface type handed on as a value of another")
    | _=>storeVar dst a val
   else storeVar dst a (.iface src val)
  else panicString ("reflectlite.Set: value of type "++(← Rtype.spelt src)++ " is not assignable to type "++(← Rtype.spelt dst))
  pure (.tuple #[])):=rfl
theorem Zwe (a:Addr) (w:World):(ReflectliteValue.parts (.agg #[.pointer (some ⟨4,72,none⟩),.pointer (some a),.int .u64 406])).run prog w= .ok (some (72,a,406)) w:=by kernel_rfl
theorem Zwd (a:Addr) (w:World):(ReflectliteValue.parts (.agg #[.pointer (some ⟨4,72,none⟩),.pointer (some a),.int .u64 150])).run prog w= .ok (some (72,a,150)) w:=by kernel_rfl
theorem Zvx (w:World):(Rtype.directlyAssignable 72 72).run prog w= .ok true w:=by kernel_rfl
theorem Zwf (ta b e:Addr) (old:Value) (W:World) (hb:W.cell? b=some (.pointer (some e))) (ht:W.cell? ta=some old) (hf:W.frozen? ta=false):
  (ReflectliteValue.set #[.agg #[.pointer (some ⟨4,72,none⟩),.pointer (some ta),.int .u64 406],.agg #[.pointer (some ⟨4,72,none⟩),.pointer (some b),.int .u64 150]]).run prog W
   = .ok (.tuple #[]) (W.setCell ta (.pointer (some e))):=by
 rw [rls]
 simp only [Sem.run_bind,Zwe,Zwd,Result.andThen]
 simp [ReflectliteValue.flagAddr,loadVar,isAgg,underlying,underlying72,hb,Result.andThen,Zvx,storeVar,Value.cells,storeCells,Addr.add]
 rw [run_store prog W ta _ _ (by rfl)]
 simp [ht,hf]

set_option maxHeartbeats 4000000 in
theorem Zv1 (e t:Addr) (old:Value) (w:World) (hg:w.cell? ⟨0,0,none⟩=some (.iface 141 (.agg #[.pointer (some ⟨4,24,none⟩)]))) (ht0:w.cell? t=some old) (hf0:w.frozen? t=false):
  Calls prog 30 #[.iface 72 (.pointer (some e)),.iface 77 (.pointer (some t))] w fun ev w'=>ev= .returned (.bool true)∧w'=((((w.alloc (.cells #[.pointer (some t)] 77)).alloc (.cells #[.pointer (some ⟨4,77,none⟩),.pointer (some ⟨w.heap.size,0,none⟩),.int .u64 150] 105)).alloc (.cells #[.pointer (some ⟨4,77,none⟩),.pointer (some ⟨w.heap.size,0,none⟩),.int .u64 150] 105)).alloc (.cells #[.pointer (some e)] 72)).setCell t (.pointer (some e)):=by
 have h6:=@run_callFunc_extern prog 45 _ (fun args=>ReflectliteValue.unpack (args.getD 0 (.tuple #[]))) func45 (by kernel_rfl) (by kernel_rfl) (by kernel_rfl) (by kernel_rfl)
 have h7:=@run_callFunc_extern prog 46 _ (ReflectliteValue.methodAny (ReflectliteValue.valueError "reflectlite.Value.Type" 0) (fun t _ _ _=>ReflectliteType.toType t)) func46 (by kernel_rfl) (by kernel_rfl) (by kernel_rfl) (by kernel_rfl)
 have h8:=@run_callFunc_extern prog 47 _ (ReflectliteValue.method (ReflectliteValue.valueError "reflectlite.Value.IsNil" 0) ReflectliteValue.isNil) func47 (by kernel_rfl) (by kernel_rfl) (by kernel_rfl) (by kernel_rfl)
 have h27:=@run_callFunc_extern prog 186 _ (ReflectliteType.abiMethod fun t=>do pure (.int .u8 (← Rtype.kind t))) func186 (by kernel_rfl) (by kernel_rfl) (by kernel_rfl) (by kernel_rfl)
 have h37:=@run_callFunc_extern prog 199 _ (ReflectliteType.method ReflectliteType.elem) func199 (by kernel_rfl) (by kernel_rfl) (by kernel_rfl) (by kernel_rfl)
 have h38:=@run_callFunc_extern prog 200 _ (ReflectliteType.relation "Implements" ReflectliteType.implements_) func200 (by kernel_rfl) (by kernel_rfl) (by kernel_rfl) (by kernel_rfl)
 have h10:=@run_callFunc_extern prog 65 _ ReflectliteType.typeOf func65 (by kernel_rfl) (by kernel_rfl) (by kernel_rfl) (by kernel_rfl)
 have h35:=@run_callFunc_extern prog 197 _ (ReflectliteType.relation "AssignableTo" ReflectliteType.assignableTo) func197 (by kernel_rfl) (by kernel_rfl) (by kernel_rfl) (by kernel_rfl)
 have h11:=@run_callFunc_extern prog 66 _ (ReflectliteValue.method (ReflectliteValue.valueError "reflectlite.Value.Elem" 0) ReflectliteValue.elem) func66 (by kernel_rfl) (by kernel_rfl) (by kernel_rfl) (by kernel_rfl)
 have h12:=@run_callFunc_extern prog 67 _ ReflectliteValue.set func67 (by kernel_rfl) (by kernel_rfl) (by kernel_rfl) (by kernel_rfl)
 have tO:=Zwh
 have mA:=Zv6
 have a25:=Zvw
 have v25:=Zwi
 have f6:=Zwj
 have f7:=Zwg
 have mK:=Zv9
 have mE:=Zv7
 have mI:=Zv8
 have k27:=Zv5
 have k25:=Zv4
 have e27:=Zvy
 have i25:=Zv2
 have n8:=Zv3 ⟨w.heap.size,0,none⟩ t ((w.alloc (.cells #[.pointer (some t)] 77)).alloc (.cells #[.pointer (some ⟨4,77,none⟩),.pointer (some ⟨w.heap.size,0,none⟩),.int .u64 150] 105)) (by simp)
 have hlt:0<w.heap.size:=by
  rcases Nat.eq_zero_or_pos w.heap.size with h0 | h
  ·simp [World.cell?,h0] at hg
  ·exact h
 have hg2:((w.alloc (.cells #[.pointer (some t)] 77)).alloc (.cells #[.pointer (some ⟨4,77,none⟩),.pointer (some ⟨w.heap.size,0,none⟩),.int .u64 150] 105)).cell? ⟨0,0,none⟩=some (.iface 141 (.agg #[.pointer (some ⟨4,24,none⟩)])):=by
  rw [World.cell?_alloc_lt _ _ ⟨0,0,none⟩ (by simp),World.cell?_alloc_lt _ _ ⟨0,0,none⟩ hlt];exact hg
 have htl:t.block<w.heap.size:=by
  rcases Nat.lt_or_ge t.block w.heap.size with h | h
  ·exact h
  ·simp [World.cell?,Array.getElem?_eq_none h] at ht0
 have el:=Zv0 ⟨w.heap.size,0,none⟩ t (((w.alloc (.cells #[.pointer (some t)] 77)).alloc (.cells #[.pointer (some ⟨4,77,none⟩),.pointer (some ⟨w.heap.size,0,none⟩),.int .u64 150] 105)).alloc (.cells #[.pointer (some ⟨4,77,none⟩),.pointer (some ⟨w.heap.size,0,none⟩),.int .u64 150] 105)) (by rw [World.cell?_alloc_lt _ _ ⟨w.heap.size,0,none⟩ (by simp;omega)];simp)
 have st:=Zwf t ⟨w.heap.size+1+1+1,0,none⟩ e old ((((w.alloc (.cells #[.pointer (some t)] 77)).alloc (.cells #[.pointer (some ⟨4,77,none⟩),.pointer (some ⟨w.heap.size,0,none⟩),.int .u64 150] 105)).alloc (.cells #[.pointer (some ⟨4,77,none⟩),.pointer (some ⟨w.heap.size,0,none⟩),.int .u64 150] 105)).alloc (.cells #[.pointer (some e)] 72))
  (by rw [World.cell?_alloc_at _ _ _ _ (by simp)];rfl)
  (by rw [World.cell?_alloc_lt _ _ t (by simp;omega),World.cell?_alloc_lt _ _ t (by simp;omega),World.cell?_alloc_lt _ _ t (by simp;omega),World.cell?_alloc_lt _ _ t htl];exact ht0)
  (by rw [World.frozen?_alloc_old _ _ t (by simp;omega),World.frozen?_alloc_old _ _ t (by simp;omega),World.frozen?_alloc_old _ _ t (by simp;omega),World.frozen?_alloc_old _ _ t (Nat.ne_of_lt htl)];exact hf0)
 go_enter func30,Tryz.ntmps30
 go_wp2
 refine wp_loop_rounds 1 ?_
 rw [rounds_succ]
 go_wp2
 go_ret
 exact ⟨rfl,rfl⟩


theorem Zwc (t:Value) (w:World):Calls prog 30 #[.nilIface,t] w fun e w'=>e= .returned (.bool false)∧Below w.heap.size w w':=by
 refine (Zwb t w).mono ?_
 rintro e w' ⟨rfl,rfl⟩
 exact ⟨rfl,Below.refl _ _⟩
theorem Zwk {α:Type} {r:Za α} {x:α} {v old:Value} {e c g k:Nat} {col:Zd} {w:World} {cs:Array Value} {q:Option Addr} (hg:Gl (.iface 141 (.agg #[.pointer (some ⟨4,24,none⟩)])) col w) (h:Rd (Za.err 72 29 r) col w [v] (some x)) (hB:Ze e c col w g cs) (hk:cs[k]?=some old) (hq:q=some ⟨g,k,none⟩) (hc:c≠0:=by decide):
  Calls prog 30 #[v,.iface 77 (.pointer q)] w fun ev w'=>∃ (col':Zd) (b:Nat),ev= .returned (.bool true)∧Xe c col w col' w'∧Xt w w'∧Ze e c col' w' g (cs.toList.take k++[(.pointer (some ⟨b,0,none⟩):Value)]++cs.toList.drop (k+1)).toArray∧Rd (Za.fptr 29 r) col' w' [.pointer (some ⟨b,0,none⟩)] (some x):=by
 subst hq
 obtain ⟨b,ds,rfl,h3,h4⟩:=h.eS
 have hlt:=(Array.getElem?_eq_some_iff.1 hB.2).1
 refine (Zv1 ⟨b,0,none⟩ ⟨g,k,none⟩ old w hg.cell (by rw [Lib.cell_of_heap hB.2];exact hk) (Lib.frozen_of_heap hB.2 k)).mono ?_
 rintro e' w' ⟨rfl,rfl⟩
 generalize hw4:(((w.alloc _).alloc _).alloc _).alloc _=w4
 have hsz:w.heap.size≤w4.heap.size:=by rw [← hw4];simp <;> omega
 have hold:∀ i,i<w.heap.size→w4.heap[i]?=w.heap[i]?:=fun i hi=>by
  rw [← hw4,heap_alloc_old _ _ (by simp <;> omega),heap_alloc_old _ _ (by simp <;> omega),heap_alloc_old _ _ (by simp <;> omega),heap_alloc_old _ _ hi]
 have hst:Xt w w4:=by rw [← hw4];exact ⟨rfl,rfl,rfl⟩
 have hk4:Xe c col w col (w4.setCell ⟨g,k,none⟩ (.pointer (some ⟨b,0,none⟩))):=by
  refine ⟨by simpa [World.setCell] using hsz,fun _ _=>rfl,fun i hi hci=>?_⟩
  rw [Below.heap_setCell _ _ _ _ (fun e=>hci (by rw [e];exact hB.1))]
  exact hold i hi
 refine ⟨col,b,rfl,hk4,hst,⟨hB.1,?_⟩,(h3.kp hk4 hc).ptr (r.keep h4 (hk4.stay hc) fun _ hb=>by cases hb)⟩
 have hg4:w4.heap[g]?=some (.cells cs e (0,0)):=(hold g hlt).trans hB.2
 have hkl:=(Array.getElem?_eq_some_iff.1 hk).1
 simp only [World.setCell,Array.getElem?_modify,if_true,hg4,Option.map_some]
 congr 2
 apply Array.toList_inj.1
 simp [List.set_eq_take_append_cons_drop,hkl]
end Go.Proofs.YtdpdogdkolblnaaGreatDoor
