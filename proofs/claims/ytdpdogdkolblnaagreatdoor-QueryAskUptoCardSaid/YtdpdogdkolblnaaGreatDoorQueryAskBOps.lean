/-
  One rule for each operation that touches no memory, over function frames. Over any program.
-/
import Derived.Test.YtdpdogdkolblnaaGreatDoorQueryAskBWp
import Derived.WalkLawsBesides
namespace Go.Proofs.YtdpdogdkolblnaaGreatDoor
open Go
open Go.IntKind (i8 i16 i32 i64 u8 u16 u32 u64)

section
variable {P:Program} {f:Fr} {w:World} {dst:Option Tmp} {t:Nat} {p:String} {af:Array Edge} {g:Option (Nat×Bool)} {x y c:Operand}

theorem Wo {v:Value} (hv:ev f x=v):
  (execOp (ev f) ⟨dst,.move x,t,p,af,g⟩).run P w= .ok (.value (v)) w:=by simp [execOp,hv,pure]
theorem Y5 {v:Value} (hv:ev f x=v):
  (execOp (ev f) ⟨dst,.assign x,t,p,af,g⟩).run P w= .ok (.value (v)) w:=by simp [execOp,hv,pure]
theorem Zx {v:Value} (hc:ev f c= .bool true) (hv:ev f x=v):
  (execOp (ev f) ⟨dst,.pick c x y,t,p,af,g⟩).run P w= .ok (.value (v)) w:=by simp [execOp,hv,hc,asBool]
theorem Z0 {v:Value} (hc:ev f c= .bool false) (hv:ev f y=v):
  (execOp (ev f) ⟨dst,.pick c x y,t,p,af,g⟩).run P w= .ok (.value (v)) w:=by simp [execOp,hv,hc,asBool]

/-! integers -/
section
variable {xt yt:TypeId} {i:IntKind} (a b:Int)
theorem T0 (hx:ev f x= .int i a) (hy:ev f y= .int i b):
  (execOp (ev f) ⟨dst,.binOp .add xt x y yt,t,p,af,g⟩).run P w= .ok (.value ((.int i (i.wrap (a+b))))) w:=by simp [execOp,hx,hy,eqGuard,binOp,Op.intArith]
theorem Zlm (hx:ev f x= .int i a) (hy:ev f y= .int i b):
  (execOp (ev f) ⟨dst,.binOp .sub xt x y yt,t,p,af,g⟩).run P w= .ok (.value ((.int i (i.wrap (a - b))))) w:=by simp [execOp,hx,hy,eqGuard,binOp,Op.intArith]
theorem Zll (hx:ev f x= .int i a) (hy:ev f y= .int i b):
  (execOp (ev f) ⟨dst,.binOp .mul xt x y yt,t,p,af,g⟩).run P w= .ok (.value ((.int i (i.wrap (a * b))))) w:=by simp [execOp,hx,hy,eqGuard,binOp,Op.intArith]
theorem Uq (hx:ev f x= .int i a) (hy:ev f y= .int i b) (h0:b≠0):
  (execOp (ev f) ⟨dst,.binOp .quo xt x y yt,t,p,af,g⟩).run P w= .ok (.value ((.int i (i.wrap (a.tdiv b))))) w:=by simp [execOp,hx,hy,eqGuard,binOp,Op.intDiv,h0]
theorem T3 (hx:ev f x= .int i a) (hy:ev f y= .int i b) (h0:b≠0):
  (execOp (ev f) ⟨dst,.binOp .rem xt x y yt,t,p,af,g⟩).run P w= .ok (.value ((.int i (a.tmod b)))) w:=by simp [execOp,hx,hy,eqGuard,binOp,Op.intDiv,h0]

def Uw (i:IntKind) (a b:Int):Int:=i.wrap (BitVec.ofInt i.bits a&&& BitVec.ofInt i.bits b).toNat
def Ys (i:IntKind) (a b:Int):Int:=i.wrap (BitVec.ofInt i.bits a||| BitVec.ofInt i.bits b).toNat
def Xu (i:IntKind) (a b:Int):Int:=i.wrap (a * 2 ^ (min b.toNat i.bits))
def X9 (i:IntKind) (a b:Int):Int:=a.fdiv (2 ^ (min b.toNat i.bits))
theorem Zli (hx:ev f x= .int i a) (hy:ev f y= .int i b):
  (execOp (ev f) ⟨dst,.binOp .and xt x y yt,t,p,af,g⟩).run P w= .ok (.value ((.int i (Uw i a b)))) w:=by simp [execOp,hx,hy,eqGuard,binOp,Op.intBits,Uw]
theorem Zos (hx:ev f x= .int i a) (hy:ev f y= .int i b):
  (execOp (ev f) ⟨dst,.binOp .or xt x y yt,t,p,af,g⟩).run P w= .ok (.value ((.int i (Ys i a b)))) w:=by simp [execOp,hx,hy,eqGuard,binOp,Op.intBits,Ys]
theorem Zcw {j:IntKind} (hx:ev f x= .int i a) (hy:ev f y= .int j b) (h0:0≤b):
  (execOp (ev f) ⟨dst,.binOp .shl xt x y yt,t,p,af,g⟩).run P w= .ok (.value ((.int i (Xu i a b)))) w:=by simp [execOp,hx,hy,eqGuard,binOp,Op.shift,Xu,Int.not_lt.2 h0]
theorem T4 {j:IntKind} (hx:ev f x= .int i a) (hy:ev f y= .int j b) (h0:0≤b):
  (execOp (ev f) ⟨dst,.binOp .shr xt x y yt,t,p,af,g⟩).run P w= .ok (.value ((.int i (X9 i a b)))) w:=by simp [execOp,hx,hy,eqGuard,binOp,Op.shift,X9,Int.not_lt.2 h0]

theorem Zoo (hx:ev f x= .int i a) (hy:ev f y= .int i b):
  (execOp (ev f) ⟨dst,.binOp .lss xt x y yt,t,p,af,g⟩).run P w= .ok (.value ((.bool (decide (a<b))))) w:=by simp [execOp,hx,hy,eqGuard,binOp,Op.intCmp]
theorem Ztw (hx:ev f x= .int i a) (hy:ev f y= .int i b):
  (execOp (ev f) ⟨dst,.binOp .leq xt x y yt,t,p,af,g⟩).run P w= .ok (.value ((.bool (decide (a≤b))))) w:=by simp [execOp,hx,hy,eqGuard,binOp,Op.intCmp]
theorem Zom (hx:ev f x= .int i a) (hy:ev f y= .int i b):
  (execOp (ev f) ⟨dst,.binOp .gtr xt x y yt,t,p,af,g⟩).run P w= .ok (.value ((.bool (decide (b<a))))) w:=by simp [execOp,hx,hy,eqGuard,binOp,Op.intCmp]
theorem Ztu (hx:ev f x= .int i a) (hy:ev f y= .int i b):
  (execOp (ev f) ⟨dst,.binOp .geq xt x y yt,t,p,af,g⟩).run P w= .ok (.value ((.bool (decide (b≤a))))) w:=by simp [execOp,hx,hy,eqGuard,binOp,Op.intCmp]
theorem Zlj (hx:ev f x= .int i a) (hy:ev f y= .int i b):
  (execOp (ev f) ⟨dst,.binOp .eql xt x y yt,t,p,af,g⟩).run P w= .ok (.value ((.bool (decide (a=b))))) w:=by simp [execOp,hx,hy,eqGuard,binOp,Op.intCmp];rfl
theorem Zt1 (hx:ev f x= .int i a) (hy:ev f y= .int i b):
  (execOp (ev f) ⟨dst,.binOp .neq xt x y yt,t,p,af,g⟩).run P w= .ok (.value ((.bool (!decide (a=b))))) w:=by simp [execOp,hx,hy,eqGuard,binOp,Op.intCmp];rfl
theorem Zid {j:IntKind} (hs:∃ e,P.underlying xt=some e) (ht:P.underlying yt=some (.int j)) (hx:ev f x= .int i a):
  (execOp (ev f) ⟨dst,.convert xt yt x,t,p,af,g⟩).run P w= .ok (.value ((.int j (j.wrap a)))) w:=by obtain ⟨e,he⟩:=hs;simp [execOp,hx,convert,run_underlying he,run_underlying ht,Conv.intToInt]
theorem Zt0 (hx:ev f x= .int i a):
  (execOp (ev f) ⟨dst,.unOp .neg xt x,t,p,af,g⟩).run P w= .ok (.value ((.int i (i.wrap (-a))))) w:=by simp [execOp,hx,Op.unary,Op.intArith]
end

theorem Zor {xt:TypeId} (b:Bool) (hx:ev f x= .bool b):
  (execOp (ev f) ⟨dst,.unOp .not xt x,t,p,af,g⟩).run P w= .ok (.value ((.bool (!b)))) w:=by simp [execOp,hx,Op.unary]
theorem Xl {j:Nat} {vs:Array Value} {v:Value} (hx:ev f x= .tuple vs) (hv:vs[j]?=some v):
  (execOp (ev f) ⟨dst,.extract x j,t,p,af,g⟩).run P w= .ok (.value (v)) w:=by simp [execOp,hx,Instr.extract,hv]
theorem Zcv {xt e:TypeId} {a:Option Addr} {n cap:Nat} (ht:P.underlying xt=some (.slice e)) (hx:ev f x= .slice a n cap):
  (execOp (ev f) ⟨dst,.call { callee:=.builtin .len,args:=#[x],argTypes:=#[xt] },t,p,af,g⟩).run P w= .ok (.value ((.int .i64 n))) w:=by simp [execOp,hx,resolve,invoke,builtin,Builtin.len_,run_underlying ht,goInt]
theorem Ztv {xt:TypeId} {s:ByteArray} (ht:P.underlying xt=some .string) (hx:ev f x= .string s):
  (execOp (ev f) ⟨dst,.call { callee:=.builtin .len,args:=#[x],argTypes:=#[xt] },t,p,af,g⟩).run P w= .ok (.value ((.int .i64 s.size))) w:=by simp [execOp,hx,resolve,invoke,builtin,Builtin.len_,run_underlying ht,goInt]
end
end Go.Proofs.YtdpdogdkolblnaaGreatDoor

