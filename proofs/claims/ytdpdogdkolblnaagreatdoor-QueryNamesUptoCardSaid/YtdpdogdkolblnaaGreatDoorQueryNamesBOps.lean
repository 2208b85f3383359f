/-
  One rule for each operation that touches no memory, over function frames. Over any program.
-/
import Derived.Test.YtdpdogdkolblnaaGreatDoorQueryNamesBWp
import Derived.WalkLawsBesides
namespace Go.Proofs.YtdpdogdkolblnaaGreatDoor
open Go
open Go.IntKind (i8 i16 i32 i64 u8 u16 u32 u64)

section
variable {P:Program} {f:Fr} {w:World} {dst:Option Tmp} {t:Nat} {p:String} {af:Array Edge} {g:Option (Nat×Bool)} {x y c:Operand}

theorem Yz {v:Value} (hv:ev f x=v):
  (execOp (ev f) ⟨dst,.move x,t,p,af,g⟩).run P w= .ok (.value (v)) w:=by simp [execOp,hv,pure]
theorem Yt {v:Value} (hv:ev f x=v):
  (execOp (ev f) ⟨dst,.assign x,t,p,af,g⟩).run P w= .ok (.value (v)) w:=by simp [execOp,hv,pure]
theorem Zv {v:Value} (hc:ev f c= .bool true) (hv:ev f x=v):
  (execOp (ev f) ⟨dst,.pick c x y,t,p,af,g⟩).run P w= .ok (.value (v)) w:=by simp [execOp,hv,hc,asBool]
theorem Zq {v:Value} (hc:ev f c= .bool false) (hv:ev f y=v):
  (execOp (ev f) ⟨dst,.pick c x y,t,p,af,g⟩).run P w= .ok (.value (v)) w:=by simp [execOp,hv,hc,asBool]

/-! integers -/
section
variable {xt yt:TypeId} {i:IntKind} (a b:Int)
theorem Tl (hx:ev f x= .int i a) (hy:ev f y= .int i b):
  (execOp (ev f) ⟨dst,.binOp .add xt x y yt,t,p,af,g⟩).run P w= .ok (.value ((.int i (i.wrap (a+b))))) w:=by simp [execOp,hx,hy,eqGuard,binOp,Op.intArith]
theorem Zj9 (hx:ev f x= .int i a) (hy:ev f y= .int i b):
  (execOp (ev f) ⟨dst,.binOp .sub xt x y yt,t,p,af,g⟩).run P w= .ok (.value ((.int i (i.wrap (a - b))))) w:=by simp [execOp,hx,hy,eqGuard,binOp,Op.intArith]
theorem Zj8 (hx:ev f x= .int i a) (hy:ev f y= .int i b):
  (execOp (ev f) ⟨dst,.binOp .mul xt x y yt,t,p,af,g⟩).run P w= .ok (.value ((.int i (i.wrap (a * b))))) w:=by simp [execOp,hx,hy,eqGuard,binOp,Op.intArith]
theorem Ue (hx:ev f x= .int i a) (hy:ev f y= .int i b) (h0:b≠0):
  (execOp (ev f) ⟨dst,.binOp .quo xt x y yt,t,p,af,g⟩).run P w= .ok (.value ((.int i (i.wrap (a.tdiv b))))) w:=by simp [execOp,hx,hy,eqGuard,binOp,Op.intDiv,h0]
theorem Tx (hx:ev f x= .int i a) (hy:ev f y= .int i b) (h0:b≠0):
  (execOp (ev f) ⟨dst,.binOp .rem xt x y yt,t,p,af,g⟩).run P w= .ok (.value ((.int i (a.tmod b)))) w:=by simp [execOp,hx,hy,eqGuard,binOp,Op.intDiv,h0]

def Ta (i:IntKind) (a b:Int):Int:=i.wrap (BitVec.ofInt i.bits a&&& BitVec.ofInt i.bits b).toNat
def Y6 (i:IntKind) (a b:Int):Int:=i.wrap (BitVec.ofInt i.bits a||| BitVec.ofInt i.bits b).toNat
def Xx (i:IntKind) (a b:Int):Int:=i.wrap (a * 2 ^ (min b.toNat i.bits))
def Yl (i:IntKind) (a b:Int):Int:=a.fdiv (2 ^ (min b.toNat i.bits))
theorem Zj5 (hx:ev f x= .int i a) (hy:ev f y= .int i b):
  (execOp (ev f) ⟨dst,.binOp .and xt x y yt,t,p,af,g⟩).run P w= .ok (.value ((.int i (Ta i a b)))) w:=by simp [execOp,hx,hy,eqGuard,binOp,Op.intBits,Ta]
theorem Zn8 (hx:ev f x= .int i a) (hy:ev f y= .int i b):
  (execOp (ev f) ⟨dst,.binOp .or xt x y yt,t,p,af,g⟩).run P w= .ok (.value ((.int i (Y6 i a b)))) w:=by simp [execOp,hx,hy,eqGuard,binOp,Op.intBits,Y6]
theorem Zb8 {j:IntKind} (hx:ev f x= .int i a) (hy:ev f y= .int j b) (h0:0≤b):
  (execOp (ev f) ⟨dst,.binOp .shl xt x y yt,t,p,af,g⟩).run P w= .ok (.value ((.int i (Xx i a b)))) w:=by simp [execOp,hx,hy,eqGuard,binOp,Op.shift,Xx,Int.not_lt.2 h0]
theorem Tm {j:IntKind} (hx:ev f x= .int i a) (hy:ev f y= .int j b) (h0:0≤b):
  (execOp (ev f) ⟨dst,.binOp .shr xt x y yt,t,p,af,g⟩).run P w= .ok (.value ((.int i (Yl i a b)))) w:=by simp [execOp,hx,hy,eqGuard,binOp,Op.shift,Yl,Int.not_lt.2 h0]

theorem Zn3 (hx:ev f x= .int i a) (hy:ev f y= .int i b):
  (execOp (ev f) ⟨dst,.binOp .lss xt x y yt,t,p,af,g⟩).run P w= .ok (.value ((.bool (decide (a<b))))) w:=by simp [execOp,hx,hy,eqGuard,binOp,Op.intCmp]
theorem Zrj (hx:ev f x= .int i a) (hy:ev f y= .int i b):
  (execOp (ev f) ⟨dst,.binOp .leq xt x y yt,t,p,af,g⟩).run P w= .ok (.value ((.bool (decide (a≤b))))) w:=by simp [execOp,hx,hy,eqGuard,binOp,Op.intCmp]
theorem Zn1 (hx:ev f x= .int i a) (hy:ev f y= .int i b):
  (execOp (ev f) ⟨dst,.binOp .gtr xt x y yt,t,p,af,g⟩).run P w= .ok (.value ((.bool (decide (b<a))))) w:=by simp [execOp,hx,hy,eqGuard,binOp,Op.intCmp]
theorem Zrh (hx:ev f x= .int i a) (hy:ev f y= .int i b):
  (execOp (ev f) ⟨dst,.binOp .geq xt x y yt,t,p,af,g⟩).run P w= .ok (.value ((.bool (decide (b≤a))))) w:=by simp [execOp,hx,hy,eqGuard,binOp,Op.intCmp]
theorem Zj6 (hx:ev f x= .int i a) (hy:ev f y= .int i b):
  (execOp (ev f) ⟨dst,.binOp .eql xt x y yt,t,p,af,g⟩).run P w= .ok (.value ((.bool (decide (a=b))))) w:=by simp [execOp,hx,hy,eqGuard,binOp,Op.intCmp];rfl
theorem Zrn (hx:ev f x= .int i a) (hy:ev f y= .int i b):
  (execOp (ev f) ⟨dst,.binOp .neq xt x y yt,t,p,af,g⟩).run P w= .ok (.value ((.bool (!decide (a=b))))) w:=by simp [execOp,hx,hy,eqGuard,binOp,Op.intCmp];rfl
theorem Zgm {j:IntKind} (hs:∃ e,P.underlying xt=some e) (ht:P.underlying yt=some (.int j)) (hx:ev f x= .int i a):
  (execOp (ev f) ⟨dst,.convert xt yt x,t,p,af,g⟩).run P w= .ok (.value ((.int j (j.wrap a)))) w:=by obtain ⟨e,he⟩:=hs;simp [execOp,hx,convert,run_underlying he,run_underlying ht,Conv.intToInt]
theorem Zrm (hx:ev f x= .int i a):
  (execOp (ev f) ⟨dst,.unOp .neg xt x,t,p,af,g⟩).run P w= .ok (.value ((.int i (i.wrap (-a))))) w:=by simp [execOp,hx,Op.unary,Op.intArith]
end

theorem Zn7 {xt:TypeId} (b:Bool) (hx:ev f x= .bool b):
  (execOp (ev f) ⟨dst,.unOp .not xt x,t,p,af,g⟩).run P w= .ok (.value ((.bool (!b)))) w:=by simp [execOp,hx,Op.unary]
theorem Z9 {j:Nat} {vs:Array Value} {v:Value} (hx:ev f x= .tuple vs) (hv:vs[j]?=some v):
  (execOp (ev f) ⟨dst,.extract x j,t,p,af,g⟩).run P w= .ok (.value (v)) w:=by simp [execOp,hx,Instr.extract,hv]
theorem Zb7 {xt e:TypeId} {a:Option Addr} {n cap:Nat} (ht:P.underlying xt=some (.slice e)) (hx:ev f x= .slice a n cap):
  (execOp (ev f) ⟨dst,.call { callee:=.builtin .len,args:=#[x],argTypes:=#[xt] },t,p,af,g⟩).run P w= .ok (.value ((.int .i64 n))) w:=by simp [execOp,hx,resolve,invoke,builtin,Builtin.len_,run_underlying ht,goInt]
theorem Zri {xt:TypeId} {s:ByteArray} (ht:P.underlying xt=some .string) (hx:ev f x= .string s):
  (execOp (ev f) ⟨dst,.call { callee:=.builtin .len,args:=#[x],argTypes:=#[xt] },t,p,af,g⟩).run P w= .ok (.value ((.int .i64 s.size))) w:=by simp [execOp,hx,resolve,invoke,builtin,Builtin.len_,run_underlying ht,goInt]
end
end Go.Proofs.YtdpdogdkolblnaaGreatDoor

