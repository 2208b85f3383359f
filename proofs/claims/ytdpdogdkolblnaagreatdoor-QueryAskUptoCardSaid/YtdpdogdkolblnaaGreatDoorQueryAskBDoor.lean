/-
  The variables that the rows list: what they give a walk (the type error's handle; some greatest length); a world in which they lie so.
-/
import Derived.Test.YtdpdogdkolblnaaGreatDoorCards
import Derived.Test.YtdpdogdkolblnaaGreatDoorTie
import Derived.Test.YtdpdogdkolblnaaGreatDoorQueryAskBErr
import Derived.Test.YtdpdogdkolblnaaGreatDoorShelf
import Derived.Stop.Joined
import Derived.LaidHandle
import Derived.LaidSub
import Derived.Lay
import Derived.Deep.DeepHandedRow
import Derived.JoinedCond
set_option linter.unusedVariables false
set_option maxRecDepth 100000
namespace Go.Proofs.YtdpdogdkolblnaaGreatDoor
open Go Go.RowKit
open Go.IntKind (i8 i16 i32 i64 u8 u16 u32 u64)

def Zgc:List (String×DataW Unit):=[("unicode/utf8.acceptRanges",Rows.laid_unicode_utf8_acceptRanges),("errors.errorType",Rows.laid_errors_errorType),("unicode/utf8.first",Rows.laid_unicode_utf8_first)]
def T8:List (String×DataW Unit):=[("unicode/utf8.acceptRanges",Rows.laid_unicode_utf8_acceptRanges),("unicode/utf8.first",Rows.laid_unicode_utf8_first)]
theorem d_et:Tryz.prog.globalNamed "errors.errorType"=some 0:=by kernel_rfl
theorem d_rt:(Tryz.prog.cutTypes.find? (·.1== "internal/reflectlite.rtype")).map (·.2)=some 141:=by kernel_rfl
theorem Zzg:Tryz.prog.types.size=270:=by kernel_rfl
theorem Zzf:((List.range 270).filter fun t=>Tryz.prog.rowNamed t [101,114,114,111,114])=[24]:=by kernel_rfl
theorem Zze:(Zgc.filter fun x=>x.2.handleName?.isSome)=[("errors.errorType",Rows.laid_errors_errorType)]:=by kernel_rfl
theorem Zzd:(Zgc.filter fun x=>x.2.handleName?.isNone)=T8:=by kernel_rfl
theorem Z0s {W:World} (h:laidMetH Tryz.prog Zgc W):W.cell? ⟨0,0,none⟩=some (.iface 141 (.agg #[.pointer (some ⟨4,24,none⟩)])):=by
 obtain ⟨_,h2⟩:=laidMetH_iff.1 h
 rw [Zze] at h2
 obtain ⟨name,u,ty,e1,e2,e3,e4,e5⟩:=h2 _ (List.mem_singleton.2 rfl)
 have en:name=[101,114,114,111,114]:=(Option.some.inj e1).symm
 subst en
 obtain rfl:=Option.some.inj (d_rt.symm.trans e2)
 have hm:ty ∈ (List.range 270).filter fun t=>Tryz.prog.rowNamed t [101,114,114,111,114]:=List.mem_filter.2 ⟨List.mem_range.2 (by rw [← Zzg];exact e3),e4⟩
 rw [Zzf] at hm
 obtain rfl:=List.mem_singleton.1 hm
 have hh:typeHandle Tryz.prog 24= .pointer (some ⟨4,24,none⟩):=by kernel_rfl
 rw [hh] at e5
 simpa using World.var?_cell d_et e5 0
theorem Z0q {W:World} (h:laidMetH Tryz.prog Zgc W) (hs:W.ShapedOpen Tryz.prog):Gl (.iface 141 (.agg #[.pointer (some ⟨4,24,none⟩)])) (fun _=>0) W:=
 ⟨rfl,rfl,Z0s h,Tryz.laysM143.s1_3 W hs⟩

noncomputable def door0 (os:Os):World:=
 { World.holding Tryz.prog os ⟨#[],#[],[]⟩ with heap:=(World.holding Tryz.prog os ⟨#[],#[],[]⟩).heap.modify 0 fun
   | .cells _ t frozen=>.cells #[.iface 141 (.agg #[.pointer (some ⟨4,24,none⟩)])] t frozen
   | o=>o }
noncomputable def door (os:Os):World:=(door0 os).layVars Tryz.prog T8
theorem Zzm (os:Os):(door os).os=os:=World.layVars_os _ _ _
theorem Zm1:(T8.filter fun x=>(T8.map (·.1)).contains x.1)=T8:=List.filter_eq_self.2 fun x hx=>List.contains_iff_mem.2 (List.mem_map.2 ⟨x,hx,rfl⟩)
theorem Zzh:(T8.filter fun x=>!(T8.map (·.1)).contains x.1)=[]:=List.filter_eq_nil_iff.2 fun x hx=>by rw [List.contains_iff_mem.2 (List.mem_map.2 ⟨x,hx,rfl⟩)];simp
theorem Zzb (os:Os):(door0 os).layFits Tryz.prog T8 []=true:=by kernel_rfl
theorem Zzc (os:Os):(door0 os).layIfaces Tryz.prog T8 (door os)=true:=by kernel_rfl
theorem Zza (os:Os):laidMet Tryz.prog T8 (door os):=
 laidMet_layVars (w0:=door0 os) (T8.map (·.1)) [] (by rw [Zm1];rfl) (by rw [Zm1];exact Zzb os) (by rw [Zm1];exact Zzc os) (by rw [Zzh];exact LaidIn.none)
theorem Z04 (os:Os) (args:Array Value):laidMetH Tryz.prog Zgc ((door os).forCall (fun _ _=>0) ⟨#[],args,[]⟩).memory:=
 laidMetH_of_parts (by rw [Zzd];exact (Zza os).of_heap (by simp [World.memory,World.forCall,Input.heap])) (by kernel_rfl)
end Go.Proofs.YtdpdogdkolblnaaGreatDoor
