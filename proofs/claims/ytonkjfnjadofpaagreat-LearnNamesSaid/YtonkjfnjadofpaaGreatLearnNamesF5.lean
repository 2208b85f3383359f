/-
  What functions of the program compute, as plain Lean functions (m_..), and proofs that they compute it (c_..). Printed by a program of the author; no conditions.
-/
import Derived.Test.YtonkjfnjadofpaaGreatLearnNamesBFloat
import Derived.Test.YtonkjfnjadofpaaGreatProg
import Derived.Test.YtonkjfnjadofpaaGreatLearnNamesF4
set_option linter.unusedVariables false
set_option maxRecDepth 100000
set_option maxHeartbeats 2000000
namespace Go.Proofs.YtonkjfnjadofpaaGreat
open Go Go.RowKit

def m_r03_Cmp (N : Nat) (aa : ((Bool × (List Int)) × (List Int))) (ab : ((Bool × (List Int)) × (List Int))) : Option Int :=
  (m_r03_den N ((ab.1.1, ab.1.2), ab.2)).bind fun ag => (m_r03_whole ag).bind fun ac => (m_r02_Mul N (aa.1.1, aa.1.2) (ac.1, ac.2)).bind fun ad => (m_r03_den N ((aa.1.1, aa.1.2), aa.2)).bind fun ah => (m_r03_whole ah).bind fun ae => (m_r02_Mul N (ab.1.1, ab.1.2) (ae.1, ae.2)).bind fun af => (m_r02_Cmp N (ad.1, ad.2) (af.1, af.2)).bind fun ai => some ai
theorem c_r03_Cmp (N : Nat) (col : Col) (w0 : World) (ah : Option Addr) (ai : Nat) (am : Option Addr) (an : Nat) (aa : ((Bool × (List Int)) × (List Int))) (aj : Option Addr) (ak : Nat) (ao : Option Addr) (ap : Nat) (ab : ((Bool × (List Int)) × (List Int))) (ad : Sl (Rep.int .u32) col w0 ah ai aa.1.2) (ae : Sl (Rep.int .u32) col w0 am an aa.2) (ac : Sl (Rep.int .u32) col w0 aj ak ab.1.2) (a9 : Sl (Rep.int .u32) col w0 ao ap ab.2) (r : Int) (hm : m_r03_Cmp N aa ab = some r) :
    Calls Tryz.prog 92 #[(.agg #[(.bool aa.1.1), (.slice ah aa.1.2.length ai), (.slice am aa.2.length an)]), (.agg #[(.bool ab.1.1), (.slice aj ab.1.2.length ak), (.slice ao ab.2.length ap)])] w0 (fun e w' => e = .returned ((.int .i64 r)) ∧ Below w0.heap.size w0 w') := by
 refine calls_of1 4 (m := 18) (args := [(.agg #[(.bool aa.1.1), (.slice ah aa.1.2.length ai), (.slice am aa.2.length an)]), (.agg #[(.bool ab.1.1), (.slice aj ab.1.2.length ak), (.slice ao ab.2.length ap)])]) Tryz.func92 rfl rfl rfl rfl rfl ?_
 rw [m_r03_Cmp.eq_1] at hm
 have hst := St.start col w0
 refine wS <| wR ?_
 refine l_box (col := (col0 col)) (v := (.agg #[(.bool aa.1.1), (.slice ah aa.1.2.length ai), (.slice am aa.2.length an)])) 1 rfl rfl ?_
 intro bj bx bk au aq
 replace aq : Box 40 1 bk bx bj #[(.bool aa.1.1), (.slice ah aa.1.2.length ai), (.slice am aa.2.length an)] := aq
 refine l_box (col := bk) (v := (.agg #[(.bool ab.1.1), (.slice aj ab.1.2.length ak), (.slice ao ab.2.length ap)])) 2 rfl rfl ?_
 intro bl bm al ar a5
 replace a5 : Box 40 2 al bm bl #[(.bool ab.1.1), (.slice aj ab.1.2.length ak), (.slice ao ab.2.length ap)] := a5
 refine lA (.int .i64 0) <| lN <| wS ?_
 refine wmix (col := al) [(0, 1), (1, 0), (2, 0), (6, 1), (7, 0), (8, 0), (3, 3), (4, 3), (5, 3), (9, 3), (10, 3), (11, 3), (12, 3), (13, 1)] (by kernel_rfl) (by kernel_rfl) ?_
 refine xu (v := (.pointer ((some (⟨bj, 0, none⟩ : Addr)).map (·.add 0)))) rfl rfl (fun _ => rF (sz := 2) (off := 0) Tryz.underlying40 rfl Tryz.sizeOf38 (by decide) rfl rfl ⟨_, _, rfl⟩) ?_
 replace aq := aq.gr ar
 refine xv (v := (.agg #[(.bool aa.1.1), (.slice ah aa.1.2.length ai)])) rfl rfl (fun _ hC => r_ldN Tryz.isAgg38 Tryz.sizeOf38 rfl rfl (((aq.atN).part 0 2 _ rfl).gr (Grow.of_below (col := al) hC.below))) ?_
 refine xv (v := (.agg #[(.bool ab.1.1), (.slice aj ab.1.2.length ak), (.slice ao ab.2.length ap)])) rfl rfl (fun _ hC => r_ldN Tryz.isAgg40 Tryz.sizeOf40 rfl rfl (a5.atN.gr (Grow.of_below (col := al) hC.below))) ?_
 refine xu (v := (.pointer ((some (⟨bl, 0, none⟩ : Addr)).map (·.add 0)))) rfl rfl (fun _ => rF (sz := 2) (off := 0) Tryz.underlying40 rfl Tryz.sizeOf38 (by decide) rfl rfl ⟨_, _, rfl⟩) ?_
 refine xv (v := (.agg #[(.bool ab.1.1), (.slice aj ab.1.2.length ak)])) rfl rfl (fun _ hC => r_ldN Tryz.isAgg38 Tryz.sizeOf38 rfl rfl (((a5.atN).part 0 2 _ rfl).gr (Grow.of_below (col := al) hC.below))) ?_
 refine xv (v := (.agg #[(.bool aa.1.1), (.slice ah aa.1.2.length ai), (.slice am aa.2.length an)])) rfl rfl (fun _ hC => r_ldN Tryz.isAgg40 Tryz.sizeOf40 rfl rfl (aq.atN.gr (Grow.of_below (col := al) hC.below))) ?_
 refine xe rfl rfl ?_
 intro bz hC0
 have hC : Grow al bm al bz := .of_below hC0.below
 obtain ⟨bn, b0, hm⟩ := bS hm
 replace ac := (((ac.keep (Stay.start col w0)).gr au).gr ar).gr hC
 replace a9 := (((a9.keep (Stay.start col w0)).gr au).gr ar).gr hC
 refine lc rfl rfl (r_call1 Tryz.call135 rfl) (c_r03_den N 3 al _ aj ak ao ap ((ab.1.1, ab.1.2), ab.2) ac a9 bn b0) ?_
 rintro _ bo ⟨av, b1, b2, rfl, aw, ax⟩
 refine ⟨_, rfl, ?_⟩
 refine lN ⟨fun w' => Grow av bo av w', Grow.refl _ _, fun _ _ h => cls hC0 aw h, ?_⟩
 refine xe rfl rfl ?_
 intro b3 hC0
 replace ad := ((((ad.keep (Stay.start col w0)).gr au).gr ar).gr hC).gr aw
 replace ae := ((((ae.keep (Stay.start col w0)).gr au).gr ar).gr hC).gr aw
 replace hst := (((hst.grow au).grow ar).grow hC).grow aw
 have hC : Grow av bo av b3 := .of_below hC0.below
 replace ad := ad.gr hC
 replace ad := ad.froz 3
 replace ac := (ac.gr aw).gr hC
 replace ac := ac.froz 3
 replace ae := ae.gr hC
 replace ae := ae.froz 3
 replace ax := ax.gr hC
 replace ax := (ax).toSlF (Froz.int .u32)
 replace hst := hst.grow hC
 replace hst := hst.froz 3 (by decide) (by decide)
 obtain ⟨ba, b4, hm⟩ := bS hm
 refine lc rfl rfl (r_call1 Tryz.call134 rfl) (c_r03_whole (frC 3 av) _ b1 b2 bn ax ba b4) ?_
 rintro _ bp ⟨ay, b5, b6, rfl, az, bb⟩
 refine ⟨_, rfl, ?_⟩
 refine lN ⟨fun w' => Grow ay bp ay w', Grow.refl _ _, fun _ _ h => cls hC0 az h, ?_⟩
 refine xe rfl rfl ?_
 intro b7 hC0
 have hC : Grow ay bp ay b7 := .of_below hC0.below
 obtain ⟨bc, b8, hm⟩ := bS hm
 replace ad := (ad.gr az).gr hC
 replace bb := bb.gr hC
 refine lc rfl rfl (r_call2 Tryz.call133 rfl rfl) (c_r02_Mul N 4 ay _ ah ai (aa.1.1, aa.1.2) b5 b6 (ba.1, ba.2) ad bb bc b8) ?_
 rintro _ bq ⟨a0, b9, ca, rfl, a1, af⟩
 refine ⟨_, rfl, ?_⟩
 refine lN ⟨fun w' => Grow a0 bq a0 w', Grow.refl _ _, fun _ _ h => cls hC0 a1 h, ?_⟩
 refine xe rfl rfl ?_
 intro cb hC0
 replace ac := ((ac.gr az).gr hC).gr a1
 replace ae := ((ae.gr az).gr hC).gr a1
 replace hst := ((hst.grow az).grow hC).grow a1
 have hC : Grow a0 bq a0 cb := .of_below hC0.below
 obtain ⟨br, cc, hm⟩ := bS hm
 replace ad := (ad.gr a1).gr hC
 replace ae := ae.gr hC
 refine lc rfl rfl (r_call1 Tryz.call135 rfl) (c_r03_den N 5 a0 _ ah ai am an ((aa.1.1, aa.1.2), aa.2) ad ae br cc) ?_
 rintro _ bs ⟨a2, cd, ce, rfl, a6, a3⟩
 refine ⟨_, rfl, ?_⟩
 refine lN ⟨fun w' => Grow a2 bs a2 w', Grow.refl _ _, fun _ _ h => cls hC0 a6 h, ?_⟩
 refine xe rfl rfl ?_
 intro cf hC0
 replace ac := (ac.gr hC).gr a6
 replace af := (af.gr hC).gr a6
 replace hst := (hst.grow hC).grow a6
 have hC : Grow a2 bs a2 cf := .of_below hC0.below
 replace ac := ac.gr hC
 replace ac := ac.froz 5
 replace af := af.gr hC
 replace af := af.froz 5 (by decide)
 replace a3 := a3.gr hC
 replace a3 := (a3).toSlF (Froz.int .u32)
 replace hst := hst.grow hC
 replace hst := hst.froz 5 (by decide) (by decide)
 obtain ⟨bd, cg, hm⟩ := bS hm
 refine lc rfl rfl (r_call1 Tryz.call134 rfl) (c_r03_whole (frC 5 a2) _ cd ce br a3 bd cg) ?_
 rintro _ bt ⟨a4, ch, ci, rfl, a7, be⟩
 refine ⟨_, rfl, ?_⟩
 refine lN ⟨fun w' => Grow a4 bt a4 w', Grow.refl _ _, fun _ _ h => cls hC0 a7 h, ?_⟩
 refine xe rfl rfl ?_
 intro cj hC0
 have hC : Grow a4 bt a4 cj := .of_below hC0.below
 obtain ⟨bf, ck, hm⟩ := bS hm
 replace ac := (ac.gr a7).gr hC
 replace be := be.gr hC
 refine lc rfl rfl (r_call2 Tryz.call133 rfl rfl) (c_r02_Mul N 6 a4 _ aj ak (ab.1.1, ab.1.2) ch ci (bd.1, bd.2) ac be bf ck) ?_
 rintro _ bu ⟨ag, cl, cm, rfl, bg, bh⟩
 refine ⟨_, rfl, ?_⟩
 refine lN ⟨fun w' => Grow ag bu ag w', Grow.refl _ _, fun _ _ h => cls hC0 bg h, ?_⟩
 refine xe rfl rfl ?_
 intro bv hC0
 replace af := ((af.gr a7).gr hC).gr bg
 replace hst := ((hst.grow a7).grow hC).grow bg
 have hC : Grow ag bu ag bv := .of_below hC0.below
 obtain ⟨bw, cn, hm⟩ := bS hm
 replace af := af.gr hC
 replace bh := bh.gr hC
 refine lc rfl rfl (r_call2 Tryz.call132 rfl rfl) (c_r02_Cmp N (frC 6 (frC 4 ag)) _ b9 ca (bc.1, bc.2) cl cm (bf.1, bf.2) ((af.toSlF (Froz.int .u32)).froz 6) ((bh.froz 4 (by decide)).toSlF (Froz.int .u32)) bw cn) ?_
 rintro _ bi ⟨rfl, a8⟩
 refine ⟨_, rfl, ?_⟩
 replace a8 : Grow ag bv ag bi := .of_below a8
 refine lN ⟨fun w' => Grow ag bi ag w', Grow.refl _ _, fun _ _ h => cls hC0 a8 h, ?_⟩
 refine xu (v := (.int .i64 bw)) rfl rfl (fun _ => r_assign rfl) ?_
 refine xnil ?_
 replace hst := (hst.grow hC).grow a8
 intro co hC
 replace hC : Grow ag bi ag co := .of_below hC.below
 refine wret ?_
 cases hm
 replace hst := hst.grow hC
 exact ⟨rfl, rfl, hst.below⟩
def m_r19_Same_J3 (aa : Int) (kk_L1 : (Bool → Int → Option Bool)) (ab : Bool) : Option Bool :=
  kk_L1 ab (IntKind.i64.wrap (aa + 1))
def m_r19_Same_J4 (aa : Int) (kk_L2 : (Bool → Int → Option Bool)) (ab : Bool) : Option Bool :=
  kk_L2 ab (IntKind.i64.wrap (aa + 1))
def m_r19_Same_J6 (N : Nat) (ae : (ByteArray × (List ByteArray) × (List (List ByteArray)) × (List (List Int)) × (List (List ((Bool × (List Int)) × (List Int)))))) (af : (ByteArray × (List ByteArray) × (List (List ByteArray)) × (List (List Int)) × (List (List ((Bool × (List Int)) × (List Int)))))) (aa : Int) (kk_L2 : (Bool → Int → Option Bool)) (ag : Bool) (ab : Int) (kk_L3 : (Bool → Int → Option Bool)) (ah : Bool) : Option Bool :=
  if ah = true then ((at? ae.2.2.2.2 aa).bind fun ai => (at? ai ab).bind fun ac => (at? af.2.2.2.2 aa).bind fun aj => (at? aj ab).bind fun ad => (m_r03_Cmp N ((ac.1.1, ac.1.2), ac.2) ((ad.1.1, ad.1.2), ad.2)).bind fun ak => kk_L3 (decide (ak = 0)) (IntKind.i64.wrap (ab + 1))) else (m_r19_Same_J4 aa kk_L2 ag)
def m_r19_Same_L3 (N : Nat) (aa : (ByteArray × (List ByteArray) × (List (List ByteArray)) × (List (List Int)) × (List (List ((Bool × (List Int)) × (List Int)))))) (ac : (ByteArray × (List ByteArray) × (List (List ByteArray)) × (List (List Int)) × (List (List ((Bool × (List Int)) × (List Int)))))) (ab : Int) (kk_L2 : (Bool → Int → Option Bool)) : Nat → Bool → Int → Option Bool
  | 0, _, _ => none
  | af + 1, ad, ae => if ad = true then ((at? aa.2.2.2.2 ab).bind fun ag => m_r19_Same_J6 N aa ac ab kk_L2 ad ae (m_r19_Same_L3 N aa ac ab kk_L2 af) (decide (ae < (ag.length : Int)))) else (m_r19_Same_J6 N aa ac ab kk_L2 ad ae (m_r19_Same_L3 N aa ac ab kk_L2 af) false)
termination_by structural x => x
def m_r19_Same_J5 (N : Nat) (aa : (ByteArray × (List ByteArray) × (List (List ByteArray)) × (List (List Int)) × (List (List ((Bool × (List Int)) × (List Int)))))) (ab : (ByteArray × (List ByteArray) × (List (List ByteArray)) × (List (List Int)) × (List (List ((Bool × (List Int)) × (List Int)))))) (ac : Int) (kk_L2 : (Bool → Int → Option Bool)) (ad : Bool) : Option Bool :=
  m_r19_Same_L3 N aa ab ac kk_L2 N ad 0
def m_r19_Same_L2 (N : Nat) (aa : (ByteArray × (List ByteArray) × (List (List ByteArray)) × (List (List Int)) × (List (List ((Bool × (List Int)) × (List Int)))))) (ab : (ByteArray × (List ByteArray) × (List (List ByteArray)) × (List (List Int)) × (List (List ((Bool × (List Int)) × (List Int)))))) : Nat → Bool → Int → Option Bool
  | 0, _, _ => none
  | ad + 1, ae, ac => if (decide (ac < (aa.2.2.2.2.length : Int))) = true then (if ae = true then ((at? aa.2.2.2.2 ac).bind fun af => (at? ab.2.2.2.2 ac).bind fun ag => m_r19_Same_J5 N aa ab ac (m_r19_Same_L2 N aa ab ad) (decide ((af.length : Int) = (ag.length : Int)))) else (m_r19_Same_J5 N aa ab ac (m_r19_Same_L2 N aa ab ad) false)) else (some ae)
termination_by structural x => x
def m_r19_Same_L1 (N : Nat) (aa : (ByteArray × (List ByteArray) × (List (List ByteArray)) × (List (List Int)) × (List (List ((Bool × (List Int)) × (List Int)))))) (ac : (ByteArray × (List ByteArray) × (List (List ByteArray)) × (List (List Int)) × (List (List ((Bool × (List Int)) × (List Int)))))) : Nat → Bool → Int → Option Bool
  | 0, _, _ => none
  | ad + 1, ae, ab => if (decide (ab < (aa.2.2.1.length : Int))) = true then (if ae = true then ((at? aa.2.2.1 ab).bind fun af => (at? ac.2.2.1 ab).bind fun ag => (m_r07_SameTexts N af ag).bind fun ah => m_r19_Same_J3 ab (m_r19_Same_L1 N aa ac ad) ah) else (m_r19_Same_J3 ab (m_r19_Same_L1 N aa ac ad) false)) else (m_r19_Same_L2 N aa ac N ae 0)
termination_by structural x => x
def m_r19_Same_J2 (N : Nat) (aa : (ByteArray × (List ByteArray) × (List (List ByteArray)) × (List (List Int)) × (List (List ((Bool × (List Int)) × (List Int)))))) (ab : (ByteArray × (List ByteArray) × (List (List ByteArray)) × (List (List Int)) × (List (List ((Bool × (List Int)) × (List Int)))))) (ac : Bool) : Option Bool :=
  m_r19_Same_L1 N aa ab N ac 0
def m_r19_Same_J1 (N : Nat) (aa : (ByteArray × (List ByteArray) × (List (List ByteArray)) × (List (List Int)) × (List (List ((Bool × (List Int)) × (List Int)))))) (ab : (ByteArray × (List ByteArray) × (List (List ByteArray)) × (List (List Int)) × (List (List ((Bool × (List Int)) × (List Int)))))) (ac : Bool) : Option Bool :=
  if ac = true then none else ((m_r07_SameTexts N aa.2.1 ab.2.1).bind fun ad => if ad = true then ((m_r19_lists N aa.2.2.2.1 ab.2.2.2.1).bind fun ae => m_r19_Same_J2 N aa ab ae) else (m_r19_Same_J2 N aa ab false))
def m_r19_Same (N : Nat) (aa : (ByteArray × (List ByteArray) × (List (List ByteArray)) × (List (List Int)) × (List (List ((Bool × (List Int)) × (List Int)))))) (ab : (ByteArray × (List ByteArray) × (List (List ByteArray)) × (List (List Int)) × (List (List ((Bool × (List Int)) × (List Int)))))) : Option Bool :=
  if (!decide (aa.1 = ab.1)) = true then (m_r19_Same_J1 N aa ab true) else (if (!decide ((aa.2.2.1.length : Int) = (ab.2.2.1.length : Int))) = true then (m_r19_Same_J1 N aa ab true) else (m_r19_Same_J1 N aa ab (!decide ((aa.2.2.2.2.length : Int) = (ab.2.2.2.2.length : Int)))))
theorem c_r19_Same (N : Nat) (col : Col) (w0 : World) (a5 : Option Addr) (a6 : Nat) (au : Option Addr) (aw : Nat) (a7 : Option Addr) (a8 : Nat) (am : Option Addr) (ao : Nat) (aa : (ByteArray × (List ByteArray) × (List (List ByteArray)) × (List (List Int)) × (List (List ((Bool × (List Int)) × (List Int)))))) (a9 : Option Addr) (ba : Nat) (az : Option Addr) (a2 : Nat) (bb : Option Addr) (bc : Nat) (aq : Option Addr) (ax : Nat) (ab : (ByteArray × (List ByteArray) × (List (List ByteArray)) × (List (List Int)) × (List (List ((Bool × (List Int)) × (List Int)))))) (ai : Sl Rep.str col w0 a5 a6 aa.2.1) (ag : Sl (Rep.slice Rep.str) col w0 au aw aa.2.2.1) (aj : Sl (Rep.slice (Rep.int .i64)) col w0 a7 a8 aa.2.2.2.1) (ae : Sl (Rep.slice (Rep.pair (Rep.pair Rep.bool (Rep.slice (Rep.int .u32))) (Rep.slice (Rep.int .u32)))) col w0 am ao aa.2.2.2.2) (ak : Sl Rep.str col w0 a9 ba ab.2.1) (ah : Sl (Rep.slice Rep.str) col w0 az a2 ab.2.2.1) (al : Sl (Rep.slice (Rep.int .i64)) col w0 bb bc ab.2.2.2.1) (af : Sl (Rep.slice (Rep.pair (Rep.pair Rep.bool (Rep.slice (Rep.int .u32))) (Rep.slice (Rep.int .u32)))) col w0 aq ax ab.2.2.2.2) (r : Bool) (hm : m_r19_Same N aa ab = some r) :
    Calls Tryz.prog 42 #[(.agg #[(.string aa.1), (.slice a5 aa.2.1.length a6), (.slice au aa.2.2.1.length aw), (.slice a7 aa.2.2.2.1.length a8), (.slice am aa.2.2.2.2.length ao)]), (.agg #[(.string ab.1), (.slice a9 ab.2.1.length ba), (.slice az ab.2.2.1.length a2), (.slice bb ab.2.2.2.1.length bc), (.slice aq ab.2.2.2.2.length ax)])] w0 (fun e w' => e = .returned ((.bool r)) ∧ Below w0.heap.size w0 w') := by
 refine calls_of1 4 (m := 120) (args := [(.agg #[(.string aa.1), (.slice a5 aa.2.1.length a6), (.slice au aa.2.2.1.length aw), (.slice a7 aa.2.2.2.1.length a8), (.slice am aa.2.2.2.2.length ao)]), (.agg #[(.string ab.1), (.slice a9 ab.2.1.length ba), (.slice az ab.2.2.1.length a2), (.slice bb ab.2.2.2.1.length bc), (.slice aq ab.2.2.2.2.length ax)])]) Tryz.func42 rfl rfl rfl rfl rfl ?_
 rw [m_r19_Same.eq_1] at hm
 have hst := St.start col w0
 refine wS <| wR ?_
 refine l_box (col := (col0 col)) (v := (.agg #[(.string aa.1), (.slice a5 aa.2.1.length a6), (.slice au aa.2.2.1.length aw), (.slice a7 aa.2.2.2.1.length a8), (.slice am aa.2.2.2.2.length ao)])) 1 rfl rfl ?_
 intro av dh cx b6 ac
 replace ac : Box 28 1 cx dh av #[(.string aa.1), (.slice a5 aa.2.1.length a6), (.slice au aa.2.2.1.length aw), (.slice a7 aa.2.2.2.1.length a8), (.slice am aa.2.2.2.2.length ao)] := ac
 refine l_box (col := cx) (v := (.agg #[(.string ab.1), (.slice a9 ab.2.1.length ba), (.slice az ab.2.2.1.length a2), (.slice bb ab.2.2.2.1.length bc), (.slice aq ab.2.2.2.2.length ax)])) 2 rfl rfl ?_
 intro a3 di cg b5 ad
 replace ad : Box 28 2 cg di a3 #[(.string ab.1), (.slice a9 ab.2.1.length ba), (.slice az ab.2.2.1.length a2), (.slice bb ab.2.2.2.1.length bc), (.slice aq ab.2.2.2.2.length ax)] := ad
 refine lA (.bool false) <| lN <| wS <| wS ?_
 replace ai := ((ai.keep (Stay.start col w0)).gr b6).gr b5
 replace ag := ((ag.keep (Stay.start col w0)).gr b6).gr b5
 replace aj := ((aj.keep (Stay.start col w0)).gr b6).gr b5
 replace ae := ((ae.keep (Stay.start col w0)).gr b6).gr b5
 replace ak := ((ak.keep (Stay.start col w0)).gr b6).gr b5
 replace ah := ((ah.keep (Stay.start col w0)).gr b6).gr b5
 replace al := ((al.keep (Stay.start col w0)).gr b6).gr b5
 replace af := ((af.keep (Stay.start col w0)).gr b6).gr b5
 replace hst := (hst.grow b6).grow b5
 replace ac := ac.gr b5
 refine Wp.cut (fun f bp => ∃ (bg : Col) (ch : Bool), m_r19_Same_J1 N aa ab ch = some r ∧ St w0 (col0 col) bg bp ∧ Sl Rep.str bg bp a5 a6 aa.2.1 ∧ Sl (Rep.slice Rep.str) bg bp au aw aa.2.2.1 ∧ Sl (Rep.slice (Rep.int .i64)) bg bp a7 a8 aa.2.2.2.1 ∧ Sl (Rep.slice (Rep.pair (Rep.pair Rep.bool (Rep.slice (Rep.int .u32))) (Rep.slice (Rep.int .u32)))) bg bp am ao aa.2.2.2.2 ∧ Box 28 1 bg bp av #[(.string aa.1), (.slice a5 aa.2.1.length a6), (.slice au aa.2.2.1.length aw), (.slice a7 aa.2.2.2.1.length a8), (.slice am aa.2.2.2.2.length ao)] ∧ Sl Rep.str bg bp a9 ba ab.2.1 ∧ Sl (Rep.slice Rep.str) bg bp az a2 ab.2.2.1 ∧ Sl (Rep.slice (Rep.int .i64)) bg bp bb bc ab.2.2.2.1 ∧ Sl (Rep.slice (Rep.pair (Rep.pair Rep.bool (Rep.slice (Rep.int .u32))) (Rep.slice (Rep.int .u32)))) bg bp aq ax ab.2.2.2.2 ∧ Box 28 2 bg bp a3 #[(.string ab.1), (.slice a9 ab.2.1.length ba), (.slice az ab.2.2.1.length a2), (.slice bb ab.2.2.2.1.length bc), (.slice aq ab.2.2.2.2.length ax)] ∧ f 2 = (.pointer (some ⟨av, 0, none⟩)) ∧ f 3 = (.pointer (some ⟨a3, 0, none⟩)) ∧ f 31 = (.bool ch) ∧ f 1000000 = (enc [])) ?_ ?_
 ·intro f bp hJ
  obtain ⟨bg, ch, hm, hst, ai, ag, aj, ae, ac, ak, ah, al, af, ad, hs2, hs3, hs31, hs1000000⟩ := hJ
  rw [m_r19_Same_J1.eq_1] at hm
  refine .lD 2 hs2 <| .lD 3 hs3 <| .lD 31 hs31 <| .lD 1000000 hs1000000 ?_
  clear hs2 hs3 hs31 hs1000000
  refine wcond (ch) rfl (fun hb => ?_) (fun hb => ?_)
  ·rw [if_pos hb] at hm
   clear hb
   cases hm
  rw [if_neg (by rw [hb]; decide)] at hm
  clear hb
  refine wK <| wS ?_
  refine Wp.cut (fun f bz => ∃ (bq : Col) (ci : Bool), m_r19_Same_J2 N aa ab ci = some r ∧ St w0 (col0 col) bq bz ∧ Sl Rep.str bq bz a5 a6 aa.2.1 ∧ Sl (Rep.slice Rep.str) bq bz au aw aa.2.2.1 ∧ Sl (Rep.slice (Rep.int .i64)) bq bz a7 a8 aa.2.2.2.1 ∧ Sl (Rep.slice (Rep.pair (Rep.pair Rep.bool (Rep.slice (Rep.int .u32))) (Rep.slice (Rep.int .u32)))) bq bz am ao aa.2.2.2.2 ∧ Box 28 1 bq bz av #[(.string aa.1), (.slice a5 aa.2.1.length a6), (.slice au aa.2.2.1.length aw), (.slice a7 aa.2.2.2.1.length a8), (.slice am aa.2.2.2.2.length ao)] ∧ Sl Rep.str bq bz a9 ba ab.2.1 ∧ Sl (Rep.slice Rep.str) bq bz az a2 ab.2.2.1 ∧ Sl (Rep.slice (Rep.int .i64)) bq bz bb bc ab.2.2.2.1 ∧ Sl (Rep.slice (Rep.pair (Rep.pair Rep.bool (Rep.slice (Rep.int .u32))) (Rep.slice (Rep.int .u32)))) bq bz aq ax ab.2.2.2.2 ∧ Box 28 2 bq bz a3 #[(.string ab.1), (.slice a9 ab.2.1.length ba), (.slice az ab.2.2.1.length a2), (.slice bb ab.2.2.2.1.length bc), (.slice aq ab.2.2.2.2.length ax)] ∧ f 2 = (.pointer (some ⟨av, 0, none⟩)) ∧ f 3 = (.pointer (some ⟨a3, 0, none⟩)) ∧ f 5 = (.bool ci) ∧ f 1000000 = (enc [])) ?_ ?_
  ·intro f bz hJ
   obtain ⟨bq, ci, hm, hst, ai, ag, aj, ae, ac, ak, ah, al, af, ad, hs2, hs3, hs5, hs1000000⟩ := hJ
   rw [m_r19_Same_J2.eq_1] at hm
   refine .lD 2 hs2 <| .lD 3 hs3 <| .lD 5 hs5 <| .lD 1000000 hs1000000 ?_
   clear hs2 hs3 hs5 hs1000000
   refine wS <| wS <| wR <| lA (.int .i64 0) <| lN <| wB ?_
   refine wloop (fun n f bm => ∃ (a4 : Col) (ay : Bool) (bk : Int) (b7 : Nat), b7 = n ∧ m_r19_Same_L1 N aa ab b7 ay bk = some r ∧ St w0 (col0 col) a4 bm ∧ Sl Rep.str a4 bm a5 a6 aa.2.1 ∧ Sl (Rep.slice Rep.str) a4 bm au aw aa.2.2.1 ∧ Sl (Rep.slice (Rep.int .i64)) a4 bm a7 a8 aa.2.2.2.1 ∧ Sl (Rep.slice (Rep.pair (Rep.pair Rep.bool (Rep.slice (Rep.int .u32))) (Rep.slice (Rep.int .u32)))) a4 bm am ao aa.2.2.2.2 ∧ Box 28 1 a4 bm av #[(.string aa.1), (.slice a5 aa.2.1.length a6), (.slice au aa.2.2.1.length aw), (.slice a7 aa.2.2.2.1.length a8), (.slice am aa.2.2.2.2.length ao)] ∧ Sl Rep.str a4 bm a9 ba ab.2.1 ∧ Sl (Rep.slice Rep.str) a4 bm az a2 ab.2.2.1 ∧ Sl (Rep.slice (Rep.int .i64)) a4 bm bb bc ab.2.2.2.1 ∧ Sl (Rep.slice (Rep.pair (Rep.pair Rep.bool (Rep.slice (Rep.int .u32))) (Rep.slice (Rep.int .u32)))) a4 bm aq ax ab.2.2.2.2 ∧ Box 28 2 a4 bm a3 #[(.string ab.1), (.slice a9 ab.2.1.length ba), (.slice az ab.2.2.1.length a2), (.slice bb ab.2.2.2.1.length bc), (.slice aq ab.2.2.2.2.length ax)] ∧ f 2 = (.pointer (some ⟨av, 0, none⟩)) ∧ f 3 = (.pointer (some ⟨a3, 0, none⟩)) ∧ f 5 = (.bool ay) ∧ f 6 = (.int .i64 bk) ∧ f 1000000 = (enc [])) N ⟨bq, ci, 0, N, rfl, hm, hst, ai, ag, aj, ae, ac, ak, ah, al, af, ad, rfl, rfl, rfl, rfl, rfl⟩ ?_
   clear hm; intro n f bm hI
   obtain ⟨a4, ay, bk, b7, hn, hm, hst, ai, ag, aj, ae, ac, ak, ah, al, af, ad, hs2, hs3, hs5, hs6, hs1000000⟩ := hI
   subst hn
   refine .lD 2 hs2 <| .lD 3 hs3 <| .lD 5 hs5 <| .lD 6 hs6 <| .lD 1000000 hs1000000 ?_
   clear hs2 hs3 hs5 hs6 hs1000000
   cases b7 with
   | zero => rw [m_r19_Same_L1.eq_1] at hm; cases hm
   | succ b7 =>
    rw [m_r19_Same_L1.eq_2] at hm
    refine wS <| wS <| wR <| lM (.int .i64 bk) <| lV (.pointer ((some (⟨av, 0, none⟩ : Addr)).map (·.add 2))) (rF (sz := 1) (off := 2) Tryz.underlying28 rfl Tryz.sizeOf24 (by decide) rfl rfl ⟨_, _, rfl⟩) <| lV (.slice au aa.2.2.1.length aw) (r_ld Tryz.isAgg24 rfl ((ac.atN).nth (q := 2) (v := (.slice au aa.2.2.1.length aw)) rfl)) <| lV (.int .i64 (aa.2.2.1.length : Int)) (r_len Tryz.underlying24 rfl) <| lV (.bool (decide (bk < (aa.2.2.1.length : Int)))) (r_lss bk (aa.2.2.1.length : Int) rfl rfl) <| lN ?_
    refine wcond (decide (bk < (aa.2.2.1.length : Int))) rfl (fun hb => ?_) (fun hb => ?_)
    ·rw [if_pos hb] at hm
     clear hb
     refine wK <| wS ?_
     refine Wp.cut (fun f b0 => ∃ (br : Col) (cj : Bool), m_r19_Same_J3 bk (m_r19_Same_L1 N aa ab b7) cj = some r ∧ St w0 (col0 col) br b0 ∧ Sl Rep.str br b0 a5 a6 aa.2.1 ∧ Sl (Rep.slice Rep.str) br b0 au aw aa.2.2.1 ∧ Sl (Rep.slice (Rep.int .i64)) br b0 a7 a8 aa.2.2.2.1 ∧ Sl (Rep.slice (Rep.pair (Rep.pair Rep.bool (Rep.slice (Rep.int .u32))) (Rep.slice (Rep.int .u32)))) br b0 am ao aa.2.2.2.2 ∧ Box 28 1 br b0 av #[(.string aa.1), (.slice a5 aa.2.1.length a6), (.slice au aa.2.2.1.length aw), (.slice a7 aa.2.2.2.1.length a8), (.slice am aa.2.2.2.2.length ao)] ∧ Sl Rep.str br b0 a9 ba ab.2.1 ∧ Sl (Rep.slice Rep.str) br b0 az a2 ab.2.2.1 ∧ Sl (Rep.slice (Rep.int .i64)) br b0 bb bc ab.2.2.2.1 ∧ Sl (Rep.slice (Rep.pair (Rep.pair Rep.bool (Rep.slice (Rep.int .u32))) (Rep.slice (Rep.int .u32)))) br b0 aq ax ab.2.2.2.2 ∧ Box 28 2 br b0 a3 #[(.string ab.1), (.slice a9 ab.2.1.length ba), (.slice az ab.2.2.1.length a2), (.slice bb ab.2.2.2.1.length bc), (.slice aq ab.2.2.2.2.length ax)] ∧ f 2 = (.pointer (some ⟨av, 0, none⟩)) ∧ f 3 = (.pointer (some ⟨a3, 0, none⟩)) ∧ f 5 = (.bool cj) ∧ f 6 = (.int .i64 bk) ∧ f 1000000 = (enc [])) ?_ ?_
     ·intro f b0 hJ
      obtain ⟨br, cj, hm, hst, ai, ag, aj, ae, ac, ak, ah, al, af, ad, hs2, hs3, hs5, hs6, hs1000000⟩ := hJ
      rw [m_r19_Same_J3.eq_1] at hm
      refine .lD 2 hs2 <| .lD 3 hs3 <| .lD 5 hs5 <| .lD 6 hs6 <| .lD 1000000 hs1000000 ?_
      clear hs2 hs3 hs5 hs6 hs1000000
      refine wR <| lM (.int .i64 bk) <| lV (.int .i64 (IntKind.i64.wrap (bk + 1))) (r_add bk 1 rfl rfl) <| lA (.int .i64 (IntKind.i64.wrap (bk + 1))) <| lN ?_
      exact ⟨b7, by omega, ⟨br, cj, (IntKind.i64.wrap (bk + 1)), b7, rfl, hm, hst, ai, ag, aj, ae, ac, ak, ah, al, af, ad, rfl, rfl, rfl, rfl, rfl⟩⟩
     refine wB ?_
     refine wquiet (col := a4) (by kernel_rfl) (by kernel_rfl) ?_
     refine qv (v := (.bool ay)) rfl (fun _ hC => r_move rfl) ?_
     refine qv (v := (.bool ay)) rfl (fun _ hC => r_move rfl) ?_
     by_cases a0 : ay = true
     ·rw [if_pos a0] at hm
      refine qg (b := ay) 52 rfl rfl rfl (by rw [a0]; rfl) ?_
      refine qv (v := (.pointer ((some (⟨av, 0, none⟩ : Addr)).map (·.add 2)))) rfl (fun _ hC => rF (sz := 1) (off := 2) Tryz.underlying28 rfl Tryz.sizeOf24 (by decide) rfl rfl ⟨_, _, rfl⟩) ?_
      refine qg (b := ay) 52 rfl rfl rfl (by rw [a0]; rfl) ?_
      refine qv (v := (.slice au aa.2.2.1.length aw)) rfl (fun _ hC => r_ld Tryz.isAgg24 rfl (((ac.atN).nth (q := 2) (v := (.slice au aa.2.2.1.length aw)) rfl).gr (Grow.of_below (col := a4) hC.below))) ?_
      refine qg (b := ay) 52 rfl rfl rfl (by rw [a0]; rfl) ?_
      refine qv (v := (.int .i64 bk)) rfl (fun _ hC => r_move rfl) ?_
      refine qg (b := ay) 52 rfl rfl rfl (by rw [a0]; rfl) ?_
      obtain ⟨cy, ck, hm⟩ := bS hm
      refine qv (v := (sptr au (Int.toNat bk * 1))) rfl (fun _ hC => r_idx Tryz.underlying24 Tryz.sizeOf23 rfl rfl (at?_some ck).1 (at?_some ck).2.1 (ag.addr ck)) ?_
      refine qg (b := ay) 52 rfl rfl rfl (by rw [a0]; rfl) ?_
      obtain ⟨_, dj, dk⟩ := ag.atN ck
      obtain ⟨⟨cz, c0, rfl, dl⟩, _⟩ := dj
      refine qv (v := (.slice cz cy.length c0)) rfl (fun _ hC => r_ld Tryz.isAgg23 rfl (dk.one.gr (Grow.of_below (col := a4) hC.below))) ?_
      refine qg (b := ay) 52 rfl rfl rfl (by rw [a0]; rfl) ?_
      refine qv (v := (.pointer ((some (⟨a3, 0, none⟩ : Addr)).map (·.add 2)))) rfl (fun _ hC => rF (sz := 1) (off := 2) Tryz.underlying28 rfl Tryz.sizeOf24 (by decide) rfl rfl ⟨_, _, rfl⟩) ?_
      refine qg (b := ay) 52 rfl rfl rfl (by rw [a0]; rfl) ?_
      refine qv (v := (.slice az ab.2.2.1.length a2)) rfl (fun _ hC => r_ld Tryz.isAgg24 rfl (((ad.atN).nth (q := 2) (v := (.slice az ab.2.2.1.length a2)) rfl).gr (Grow.of_below (col := a4) hC.below))) ?_
      refine qg (b := ay) 52 rfl rfl rfl (by rw [a0]; rfl) ?_
      refine qv (v := (.int .i64 bk)) rfl (fun _ hC => r_move rfl) ?_
      refine qg (b := ay) 52 rfl rfl rfl (by rw [a0]; rfl) ?_
      obtain ⟨c1, cl, hm⟩ := bS hm
      refine qv (v := (sptr az (Int.toNat bk * 1))) rfl (fun _ hC => r_idx Tryz.underlying24 Tryz.sizeOf23 rfl rfl (at?_some cl).1 (at?_some cl).2.1 (ah.addr cl)) ?_
      refine qg (b := ay) 52 rfl rfl rfl (by rw [a0]; rfl) ?_
      obtain ⟨_, dm, dn⟩ := ah.atN cl
      obtain ⟨⟨c2, c3, rfl, dp⟩, _⟩ := dm
      refine qv (v := (.slice c2 c1.length c3)) rfl (fun _ hC => r_ld Tryz.isAgg23 rfl (dn.one.gr (Grow.of_below (col := a4) hC.below))) ?_
      refine qg (b := ay) 52 rfl rfl rfl (by rw [a0]; rfl) ?_
      obtain ⟨cf, dq, hm⟩ := bS hm
      refine qc (v := (.bool cf)) rfl (fun _ hC => ⟨_, _, r_call2 Tryz.call90 rfl rfl, (c_r07_SameTexts N a4 _ cz c0 cy c2 c3 c1 (dl.gr (Grow.of_below (col := a4) hC.below)) (dp.gr (Grow.of_below (col := a4) hC.below)) cf dq).mono fun _ _ h => ⟨h.1, hC.trans (.of_below h.2)⟩⟩) ?_
      refine qv (v := (.bool cf)) rfl (fun _ hC => r_pickT (congrArg Value.bool a0) rfl) ?_
      refine qv (v := (.bool cf)) rfl (fun _ hC => r_assign rfl) ?_
      refine qnil ?_
      intro dr hC
      replace hC : Grow a4 bm a4 dr := .of_below hC.below
      replace ai := ai.gr hC
      replace ag := ag.gr hC
      replace aj := aj.gr hC
      replace ae := ae.gr hC
      replace ak := ak.gr hC
      replace ah := ah.gr hC
      replace al := al.gr hC
      replace af := af.gr hC
      replace ac := ac.gr hC
      replace ad := ad.gr hC
      replace hst := hst.grow hC
      exact ⟨a4, cf, hm, hst, ai, ag, aj, ae, ac, ak, ah, al, af, ad, rfl, rfl, rfl, rfl, rfl⟩
     rw [if_neg a0] at hm
     replace a0 := Bool.eq_false_iff.2 a0
     refine qp (b := ay) 52 rfl rfl rfl rfl (by rw [a0]; rfl) ?_
     refine qp (b := ay) 52 rfl rfl rfl rfl (by rw [a0]; rfl) ?_
     refine qp (b := ay) 52 rfl rfl rfl rfl (by rw [a0]; rfl) ?_
     refine qp (b := ay) 52 rfl rfl rfl rfl (by rw [a0]; rfl) ?_
     refine qp (b := ay) 52 rfl rfl rfl rfl (by rw [a0]; rfl) ?_
     refine qp (b := ay) 52 rfl rfl rfl rfl (by rw [a0]; rfl) ?_
     refine qp (b := ay) 52 rfl rfl rfl rfl (by rw [a0]; rfl) ?_
     refine qp (b := ay) 52 rfl rfl rfl rfl (by rw [a0]; rfl) ?_
     refine qp (b := ay) 52 rfl rfl rfl rfl (by rw [a0]; rfl) ?_
     refine qp (b := ay) 52 rfl rfl rfl rfl (by rw [a0]; rfl) ?_
     refine qp (b := ay) 52 rfl rfl rfl rfl (by rw [a0]; rfl) ?_
     refine qv (v := (.bool false)) rfl (fun _ hC => r_pickF (congrArg Value.bool a0) rfl) ?_
     refine qv (v := (.bool false)) rfl (fun _ hC => r_assign rfl) ?_
     refine qnil ?_
     intro ds hC
     replace hC : Grow a4 bm a4 ds := .of_below hC.below
     replace ai := ai.gr hC
     replace ag := ag.gr hC
     replace aj := aj.gr hC
     replace ae := ae.gr hC
     replace ak := ak.gr hC
     replace ah := ah.gr hC
     replace al := al.gr hC
     replace af := af.gr hC
     replace ac := ac.gr hC
     replace ad := ad.gr hC
     replace hst := hst.grow hC
     exact ⟨a4, false, hm, hst, ai, ag, aj, ae, ac, ak, ah, al, af, ad, rfl, rfl, rfl, rfl, rfl⟩
    rw [if_neg (by rw [hb]; decide)] at hm
    clear hb
    refine wexit (inB_hit ?_)
    refine wS <| wS <| wR <| lA (.int .i64 0) <| lN <| wB ?_
    refine wloop (fun n f bn => ∃ (be : Col) (an : Bool) (ar : Int) (b1 : Nat), b1 = n ∧ m_r19_Same_L2 N aa ab b1 an ar = some r ∧ St w0 (col0 col) be bn ∧ Sl Rep.str be bn a5 a6 aa.2.1 ∧ Sl (Rep.slice Rep.str) be bn au aw aa.2.2.1 ∧ Sl (Rep.slice (Rep.int .i64)) be bn a7 a8 aa.2.2.2.1 ∧ Sl (Rep.slice (Rep.pair (Rep.pair Rep.bool (Rep.slice (Rep.int .u32))) (Rep.slice (Rep.int .u32)))) be bn am ao aa.2.2.2.2 ∧ Box 28 1 be bn av #[(.string aa.1), (.slice a5 aa.2.1.length a6), (.slice au aa.2.2.1.length aw), (.slice a7 aa.2.2.2.1.length a8), (.slice am aa.2.2.2.2.length ao)] ∧ Sl Rep.str be bn a9 ba ab.2.1 ∧ Sl (Rep.slice Rep.str) be bn az a2 ab.2.2.1 ∧ Sl (Rep.slice (Rep.int .i64)) be bn bb bc ab.2.2.2.1 ∧ Sl (Rep.slice (Rep.pair (Rep.pair Rep.bool (Rep.slice (Rep.int .u32))) (Rep.slice (Rep.int .u32)))) be bn aq ax ab.2.2.2.2 ∧ Box 28 2 be bn a3 #[(.string ab.1), (.slice a9 ab.2.1.length ba), (.slice az ab.2.2.1.length a2), (.slice bb ab.2.2.2.1.length bc), (.slice aq ab.2.2.2.2.length ax)] ∧ f 2 = (.pointer (some ⟨av, 0, none⟩)) ∧ f 3 = (.pointer (some ⟨a3, 0, none⟩)) ∧ f 5 = (.bool an) ∧ f 7 = (.int .i64 ar) ∧ f 1000000 = (enc [])) N ⟨a4, ay, 0, N, rfl, hm, hst, ai, ag, aj, ae, ac, ak, ah, al, af, ad, rfl, rfl, rfl, rfl, rfl⟩ ?_
    clear hm; intro n f bn hI
    obtain ⟨be, an, ar, b1, hn, hm, hst, ai, ag, aj, ae, ac, ak, ah, al, af, ad, hs2, hs3, hs5, hs7, hs1000000⟩ := hI
    subst hn
    refine .lD 2 hs2 <| .lD 3 hs3 <| .lD 5 hs5 <| .lD 7 hs7 <| .lD 1000000 hs1000000 ?_
    clear hs2 hs3 hs5 hs7 hs1000000
    cases b1 with
    | zero => rw [m_r19_Same_L2.eq_1] at hm; cases hm
    | succ b1 =>
     rw [m_r19_Same_L2.eq_2] at hm
     refine wS <| wS <| wR <| lM (.int .i64 ar) <| lV (.pointer ((some (⟨av, 0, none⟩ : Addr)).map (·.add 4))) (rF (sz := 1) (off := 4) Tryz.underlying28 rfl Tryz.sizeOf26 (by decide) rfl rfl ⟨_, _, rfl⟩) <| lV (.slice am aa.2.2.2.2.length ao) (r_ld Tryz.isAgg26 rfl ((ac.atN).nth (q := 4) (v := (.slice am aa.2.2.2.2.length ao)) rfl)) <| lV (.int .i64 (aa.2.2.2.2.length : Int)) (r_len Tryz.underlying26 rfl) <| lV (.bool (decide (ar < (aa.2.2.2.2.length : Int)))) (r_lss ar (aa.2.2.2.2.length : Int) rfl rfl) <| lN ?_
     refine wcond (decide (ar < (aa.2.2.2.2.length : Int))) rfl (fun hb => ?_) (fun hb => ?_)
     ·rw [if_pos hb] at hm
      clear hb
      refine wK <| wS ?_
      refine Wp.cut (fun f b2 => ∃ (bs : Col) (cm : Bool), m_r19_Same_J4 ar (m_r19_Same_L2 N aa ab b1) cm = some r ∧ St w0 (col0 col) bs b2 ∧ Sl Rep.str bs b2 a5 a6 aa.2.1 ∧ Sl (Rep.slice Rep.str) bs b2 au aw aa.2.2.1 ∧ Sl (Rep.slice (Rep.int .i64)) bs b2 a7 a8 aa.2.2.2.1 ∧ Sl (Rep.slice (Rep.pair (Rep.pair Rep.bool (Rep.slice (Rep.int .u32))) (Rep.slice (Rep.int .u32)))) bs b2 am ao aa.2.2.2.2 ∧ Box 28 1 bs b2 av #[(.string aa.1), (.slice a5 aa.2.1.length a6), (.slice au aa.2.2.1.length aw), (.slice a7 aa.2.2.2.1.length a8), (.slice am aa.2.2.2.2.length ao)] ∧ Sl Rep.str bs b2 a9 ba ab.2.1 ∧ Sl (Rep.slice Rep.str) bs b2 az a2 ab.2.2.1 ∧ Sl (Rep.slice (Rep.int .i64)) bs b2 bb bc ab.2.2.2.1 ∧ Sl (Rep.slice (Rep.pair (Rep.pair Rep.bool (Rep.slice (Rep.int .u32))) (Rep.slice (Rep.int .u32)))) bs b2 aq ax ab.2.2.2.2 ∧ Box 28 2 bs b2 a3 #[(.string ab.1), (.slice a9 ab.2.1.length ba), (.slice az ab.2.2.1.length a2), (.slice bb ab.2.2.2.1.length bc), (.slice aq ab.2.2.2.2.length ax)] ∧ f 2 = (.pointer (some ⟨av, 0, none⟩)) ∧ f 3 = (.pointer (some ⟨a3, 0, none⟩)) ∧ f 5 = (.bool cm) ∧ f 7 = (.int .i64 ar) ∧ f 1000000 = (enc [])) ?_ ?_
      ·intro f b2 hJ
       obtain ⟨bs, cm, hm, hst, ai, ag, aj, ae, ac, ak, ah, al, af, ad, hs2, hs3, hs5, hs7, hs1000000⟩ := hJ
       rw [m_r19_Same_J4.eq_1] at hm
       refine .lD 2 hs2 <| .lD 3 hs3 <| .lD 5 hs5 <| .lD 7 hs7 <| .lD 1000000 hs1000000 ?_
       clear hs2 hs3 hs5 hs7 hs1000000
       refine wR <| lM (.int .i64 ar) <| lV (.int .i64 (IntKind.i64.wrap (ar + 1))) (r_add ar 1 rfl rfl) <| lA (.int .i64 (IntKind.i64.wrap (ar + 1))) <| lN ?_
       exact ⟨b1, by omega, ⟨bs, cm, (IntKind.i64.wrap (ar + 1)), b1, rfl, hm, hst, ai, ag, aj, ae, ac, ak, ah, al, af, ad, rfl, rfl, rfl, rfl, rfl⟩⟩
      refine wB <| wS ?_
      refine Wp.cut (fun f b3 => ∃ (bt : Col) (cn : Bool), m_r19_Same_J5 N aa ab ar (m_r19_Same_L2 N aa ab b1) cn = some r ∧ St w0 (col0 col) bt b3 ∧ Sl Rep.str bt b3 a5 a6 aa.2.1 ∧ Sl (Rep.slice Rep.str) bt b3 au aw aa.2.2.1 ∧ Sl (Rep.slice (Rep.int .i64)) bt b3 a7 a8 aa.2.2.2.1 ∧ Sl (Rep.slice (Rep.pair (Rep.pair Rep.bool (Rep.slice (Rep.int .u32))) (Rep.slice (Rep.int .u32)))) bt b3 am ao aa.2.2.2.2 ∧ Box 28 1 bt b3 av #[(.string aa.1), (.slice a5 aa.2.1.length a6), (.slice au aa.2.2.1.length aw), (.slice a7 aa.2.2.2.1.length a8), (.slice am aa.2.2.2.2.length ao)] ∧ Sl Rep.str bt b3 a9 ba ab.2.1 ∧ Sl (Rep.slice Rep.str) bt b3 az a2 ab.2.2.1 ∧ Sl (Rep.slice (Rep.int .i64)) bt b3 bb bc ab.2.2.2.1 ∧ Sl (Rep.slice (Rep.pair (Rep.pair Rep.bool (Rep.slice (Rep.int .u32))) (Rep.slice (Rep.int .u32)))) bt b3 aq ax ab.2.2.2.2 ∧ Box 28 2 bt b3 a3 #[(.string ab.1), (.slice a9 ab.2.1.length ba), (.slice az ab.2.2.1.length a2), (.slice bb ab.2.2.2.1.length bc), (.slice aq ab.2.2.2.2.length ax)] ∧ f 2 = (.pointer (some ⟨av, 0, none⟩)) ∧ f 3 = (.pointer (some ⟨a3, 0, none⟩)) ∧ f 5 = (.bool cn) ∧ f 7 = (.int .i64 ar) ∧ f 1000000 = (enc [])) ?_ ?_
      ·intro f b3 hJ
       obtain ⟨bt, cn, hm, hst, ai, ag, aj, ae, ac, ak, ah, al, af, ad, hs2, hs3, hs5, hs7, hs1000000⟩ := hJ
       rw [m_r19_Same_J5.eq_1] at hm
       refine .lD 2 hs2 <| .lD 3 hs3 <| .lD 5 hs5 <| .lD 7 hs7 <| .lD 1000000 hs1000000 ?_
       clear hs2 hs3 hs5 hs7 hs1000000
       refine wS <| wR <| lA (.int .i64 0) <| lN <| wB ?_
       refine wloop (fun n f b4 => ∃ (bo : Col) (bd : Bool) (bj : Int) (b8 : Nat), b8 = n ∧ m_r19_Same_L3 N aa ab ar (m_r19_Same_L2 N aa ab b1) b8 bd bj = some r ∧ St w0 (col0 col) bo b4 ∧ Sl Rep.str bo b4 a5 a6 aa.2.1 ∧ Sl (Rep.slice Rep.str) bo b4 au aw aa.2.2.1 ∧ Sl (Rep.slice (Rep.int .i64)) bo b4 a7 a8 aa.2.2.2.1 ∧ Sl (Rep.slice (Rep.pair (Rep.pair Rep.bool (Rep.slice (Rep.int .u32))) (Rep.slice (Rep.int .u32)))) bo b4 am ao aa.2.2.2.2 ∧ Box 28 1 bo b4 av #[(.string aa.1), (.slice a5 aa.2.1.length a6), (.slice au aa.2.2.1.length aw), (.slice a7 aa.2.2.2.1.length a8), (.slice am aa.2.2.2.2.length ao)] ∧ Sl Rep.str bo b4 a9 ba ab.2.1 ∧ Sl (Rep.slice Rep.str) bo b4 az a2 ab.2.2.1 ∧ Sl (Rep.slice (Rep.int .i64)) bo b4 bb bc ab.2.2.2.1 ∧ Sl (Rep.slice (Rep.pair (Rep.pair Rep.bool (Rep.slice (Rep.int .u32))) (Rep.slice (Rep.int .u32)))) bo b4 aq ax ab.2.2.2.2 ∧ Box 28 2 bo b4 a3 #[(.string ab.1), (.slice a9 ab.2.1.length ba), (.slice az ab.2.2.1.length a2), (.slice bb ab.2.2.2.1.length bc), (.slice aq ab.2.2.2.2.length ax)] ∧ f 2 = (.pointer (some ⟨av, 0, none⟩)) ∧ f 3 = (.pointer (some ⟨a3, 0, none⟩)) ∧ f 5 = (.bool bd) ∧ f 7 = (.int .i64 ar) ∧ f 8 = (.int .i64 bj) ∧ f 1000000 = (enc [])) N ⟨bt, cn, 0, N, rfl, hm, hst, ai, ag, aj, ae, ac, ak, ah, al, af, ad, rfl, rfl, rfl, rfl, rfl, rfl⟩ ?_
       clear hm; intro n f b4 hI
       obtain ⟨bo, bd, bj, b8, hn, hm, hst, ai, ag, aj, ae, ac, ak, ah, al, af, ad, hs2, hs3, hs5, hs7, hs8, hs1000000⟩ := hI
       subst hn
       refine .lD 2 hs2 <| .lD 3 hs3 <| .lD 5 hs5 <| .lD 7 hs7 <| .lD 8 hs8 <| .lD 1000000 hs1000000 ?_
       clear hs2 hs3 hs5 hs7 hs8 hs1000000
       cases b8 with
       | zero => rw [m_r19_Same_L3.eq_1] at hm; cases hm
       | succ b8 =>
        rw [m_r19_Same_L3.eq_2] at hm
        refine wS <| wS ?_
        refine Wp.cut (fun f bu => ∃ (a1 : Col) (co : Bool), m_r19_Same_J6 N aa ab ar (m_r19_Same_L2 N aa ab b1) bd bj (m_r19_Same_L3 N aa ab ar (m_r19_Same_L2 N aa ab b1) b8) co = some r ∧ St w0 (col0 col) a1 bu ∧ Sl Rep.str a1 bu a5 a6 aa.2.1 ∧ Sl (Rep.slice Rep.str) a1 bu au aw aa.2.2.1 ∧ Sl (Rep.slice (Rep.int .i64)) a1 bu a7 a8 aa.2.2.2.1 ∧ Sl (Rep.slice (Rep.pair (Rep.pair Rep.bool (Rep.slice (Rep.int .u32))) (Rep.slice (Rep.int .u32)))) a1 bu am ao aa.2.2.2.2 ∧ Box 28 1 a1 bu av #[(.string aa.1), (.slice a5 aa.2.1.length a6), (.slice au aa.2.2.1.length aw), (.slice a7 aa.2.2.2.1.length a8), (.slice am aa.2.2.2.2.length ao)] ∧ Sl Rep.str a1 bu a9 ba ab.2.1 ∧ Sl (Rep.slice Rep.str) a1 bu az a2 ab.2.2.1 ∧ Sl (Rep.slice (Rep.int .i64)) a1 bu bb bc ab.2.2.2.1 ∧ Sl (Rep.slice (Rep.pair (Rep.pair Rep.bool (Rep.slice (Rep.int .u32))) (Rep.slice (Rep.int .u32)))) a1 bu aq ax ab.2.2.2.2 ∧ Box 28 2 a1 bu a3 #[(.string ab.1), (.slice a9 ab.2.1.length ba), (.slice az ab.2.2.1.length a2), (.slice bb ab.2.2.2.1.length bc), (.slice aq ab.2.2.2.2.length ax)] ∧ f 2 = (.pointer (some ⟨av, 0, none⟩)) ∧ f 3 = (.pointer (some ⟨a3, 0, none⟩)) ∧ f 5 = (.bool bd) ∧ f 7 = (.int .i64 ar) ∧ f 8 = (.int .i64 bj) ∧ f 98 = (.bool co) ∧ f 1000000 = (enc [])) ?_ ?_
        ·intro f bu hJ
         obtain ⟨a1, co, hm, hst, ai, ag, aj, ae, ac, ak, ah, al, af, ad, hs2, hs3, hs5, hs7, hs8, hs98, hs1000000⟩ := hJ
         rw [m_r19_Same_J6.eq_1] at hm
         refine .lD 2 hs2 <| .lD 3 hs3 <| .lD 5 hs5 <| .lD 7 hs7 <| .lD 8 hs8 <| .lD 98 hs98 <| .lD 1000000 hs1000000 ?_
         clear hs2 hs3 hs5 hs7 hs8 hs98 hs1000000
         refine wcond (co) rfl (fun hb => ?_) (fun hb => ?_)
         ·rw [if_pos hb] at hm
          clear hb
          refine wK <| wS <| wB ?_
          refine wquiet (col := a1) (by kernel_rfl) (by kernel_rfl) ?_
          refine qv (v := (.pointer ((some (⟨av, 0, none⟩ : Addr)).map (·.add 4)))) rfl (fun _ hC => rF (sz := 1) (off := 4) Tryz.underlying28 rfl Tryz.sizeOf26 (by decide) rfl rfl ⟨_, _, rfl⟩) ?_
          refine qv (v := (.slice am aa.2.2.2.2.length ao)) rfl (fun _ hC => r_ld Tryz.isAgg26 rfl (((ac.atN).nth (q := 4) (v := (.slice am aa.2.2.2.2.length ao)) rfl).gr (Grow.of_below (col := a1) hC.below))) ?_
          refine qv (v := (.int .i64 ar)) rfl (fun _ hC => r_move rfl) ?_
          obtain ⟨dt, cp, hm⟩ := bS hm
          refine qv (v := (sptr am (Int.toNat ar * 1))) rfl (fun _ hC => r_idx Tryz.underlying26 Tryz.sizeOf51 rfl rfl (at?_some cp).1 (at?_some cp).2.1 (ae.addr cp)) ?_
          obtain ⟨_, du, dv⟩ := ae.atN cp
          obtain ⟨⟨c4, dw, rfl, c5⟩, _⟩ := du
          refine qv (v := (.slice c4 dt.length dw)) rfl (fun _ hC => r_ld Tryz.isAgg51 rfl (dv.one.gr (Grow.of_below (col := a1) hC.below))) ?_
          refine qv (v := (.int .i64 bj)) rfl (fun _ hC => r_move rfl) ?_
          obtain ⟨cb, cq, hm⟩ := bS hm
          refine qv (v := (sptr c4 (Int.toNat bj * 3))) rfl (fun _ hC => r_idx Tryz.underlying51 Tryz.sizeOf40 rfl rfl (at?_some cq).1 (at?_some cq).2.1 (c5.addr cq)) ?_
          obtain ⟨_, dx, dy⟩ := c5.atN cq
          obtain ⟨_, _, rfl, dz, d0⟩ := rd_pair dx
          obtain ⟨_, _, rfl, d1, d2⟩ := rd_pair dz
          obtain ⟨rfl, _⟩ := d1
          obtain ⟨⟨c6, c7, rfl, d3⟩, _⟩ := d2
          obtain ⟨⟨c8, c9, rfl, d4⟩, _⟩ := d0
          refine qv (v := (.agg #[(.bool cb.1.1), (.slice c6 cb.1.2.length c7), (.slice c8 cb.2.length c9)])) rfl (fun _ hC => r_ldN Tryz.isAgg40 Tryz.sizeOf40 rfl rfl (dy.gr (Grow.of_below (col := a1) hC.below))) ?_
          refine qv (v := (.pointer ((some (⟨a3, 0, none⟩ : Addr)).map (·.add 4)))) rfl (fun _ hC => rF (sz := 1) (off := 4) Tryz.underlying28 rfl Tryz.sizeOf26 (by decide) rfl rfl ⟨_, _, rfl⟩) ?_
          refine qv (v := (.slice aq ab.2.2.2.2.length ax)) rfl (fun _ hC => r_ld Tryz.isAgg26 rfl (((ad.atN).nth (q := 4) (v := (.slice aq ab.2.2.2.2.length ax)) rfl).gr (Grow.of_below (col := a1) hC.below))) ?_
          refine qv (v := (.int .i64 ar)) rfl (fun _ hC => r_move rfl) ?_
          obtain ⟨d5, cr, hm⟩ := bS hm
          refine qv (v := (sptr aq (Int.toNat ar * 1))) rfl (fun _ hC => r_idx Tryz.underlying26 Tryz.sizeOf51 rfl rfl (at?_some cr).1 (at?_some cr).2.1 (af.addr cr)) ?_
          obtain ⟨_, d6, d7⟩ := af.atN cr
          obtain ⟨⟨da, d8, rfl, db⟩, _⟩ := d6
          refine qv (v := (.slice da d5.length d8)) rfl (fun _ hC => r_ld Tryz.isAgg51 rfl (d7.one.gr (Grow.of_below (col := a1) hC.below))) ?_
          refine qv (v := (.int .i64 bj)) rfl (fun _ hC => r_move rfl) ?_
          obtain ⟨cc, cs, hm⟩ := bS hm
          refine qv (v := (sptr da (Int.toNat bj * 3))) rfl (fun _ hC => r_idx Tryz.underlying51 Tryz.sizeOf40 rfl rfl (at?_some cs).1 (at?_some cs).2.1 (db.addr cs)) ?_
          obtain ⟨_, d9, ea⟩ := db.atN cs
          obtain ⟨_, _, rfl, eb, ec⟩ := rd_pair d9
          obtain ⟨_, _, rfl, ed, ee⟩ := rd_pair eb
          obtain ⟨rfl, _⟩ := ed
          obtain ⟨⟨dc, dd, rfl, ef⟩, _⟩ := ee
          obtain ⟨⟨de, df, rfl, eg⟩, _⟩ := ec
          refine qv (v := (.agg #[(.bool cc.1.1), (.slice dc cc.1.2.length dd), (.slice de cc.2.length df)])) rfl (fun _ hC => r_ldN Tryz.isAgg40 Tryz.sizeOf40 rfl rfl (ea.gr (Grow.of_below (col := a1) hC.below))) ?_
          obtain ⟨cd, eh, hm⟩ := bS hm
          refine qc (v := (.int .i64 cd)) rfl (fun _ hC => ⟨_, _, r_call2 Tryz.call92 rfl rfl, (c_r03_Cmp N a1 _ c6 c7 c8 c9 ((cb.1.1, cb.1.2), cb.2) dc dd de df ((cc.1.1, cc.1.2), cc.2) (d3.gr (Grow.of_below (col := a1) hC.below)) (d4.gr (Grow.of_below (col := a1) hC.below)) (ef.gr (Grow.of_below (col := a1) hC.below)) (eg.gr (Grow.of_below (col := a1) hC.below)) cd eh).mono fun _ _ h => ⟨h.1, hC.trans (.of_below h.2)⟩⟩) ?_
          refine qv (v := (.bool (decide (cd = 0)))) rfl (fun _ hC => r_eql cd 0 rfl rfl) ?_
          refine qv (v := (.bool (decide (cd = 0)))) rfl (fun _ hC => r_assign rfl) ?_
          refine qnil ?_
          intro ei hC
          replace hC : Grow a1 bu a1 ei := .of_below hC.below
          refine wR <| lM (.int .i64 bj) <| lV (.int .i64 (IntKind.i64.wrap (bj + 1))) (r_add bj 1 rfl rfl) <| lA (.int .i64 (IntKind.i64.wrap (bj + 1))) <| lN ?_
          replace ai := ai.gr hC
          replace ag := ag.gr hC
          replace aj := aj.gr hC
          replace ae := ae.gr hC
          replace ak := ak.gr hC
          replace ah := ah.gr hC
          replace al := al.gr hC
          replace af := af.gr hC
          replace ac := ac.gr hC
          replace ad := ad.gr hC
          replace hst := hst.grow hC
          exact ⟨b8, by omega, ⟨a1, (decide (cd = 0)), (IntKind.i64.wrap (bj + 1)), b8, rfl, hm, hst, ai, ag, aj, ae, ac, ak, ah, al, af, ad, rfl, rfl, rfl, rfl, rfl, rfl⟩⟩
         rw [if_neg (by rw [hb]; decide)] at hm
         clear hb
         refine wexit (inB_hit ?_)
         exact ⟨a1, bd, hm, hst, ai, ag, aj, ae, ac, ak, ah, al, af, ad, rfl, rfl, rfl, rfl, rfl⟩
        refine wR <| lM (.bool bd) <| lM (.bool bd) ?_
        by_cases bf : bd = true
        ·rw [if_pos bf] at hm
         refine lg (b := bd) 89 rfl rfl rfl (by rw [bf]; rfl) ?_
         refine lM (.int .i64 bj) ?_
         refine lg (b := bd) 89 rfl rfl rfl (by rw [bf]; rfl) ?_
         refine lV (.pointer ((some (⟨av, 0, none⟩ : Addr)).map (·.add 4))) (rF (sz := 1) (off := 4) Tryz.underlying28 rfl Tryz.sizeOf26 (by decide) rfl rfl ⟨_, _, rfl⟩) ?_
         refine lg (b := bd) 89 rfl rfl rfl (by rw [bf]; rfl) ?_
         refine lV (.slice am aa.2.2.2.2.length ao) (r_ld Tryz.isAgg26 rfl ((ac.atN).nth (q := 4) (v := (.slice am aa.2.2.2.2.length ao)) rfl)) ?_
         refine lg (b := bd) 89 rfl rfl rfl (by rw [bf]; rfl) ?_
         refine lM (.int .i64 ar) ?_
         refine lg (b := bd) 89 rfl rfl rfl (by rw [bf]; rfl) ?_
         obtain ⟨ce, ct, hm⟩ := bS hm
         refine lV (sptr am (Int.toNat ar * 1)) (r_idx Tryz.underlying26 Tryz.sizeOf51 rfl rfl (at?_some ct).1 (at?_some ct).2.1 (ae.addr ct)) ?_
         refine lg (b := bd) 89 rfl rfl rfl (by rw [bf]; rfl) ?_
         obtain ⟨_, ej, ek⟩ := ae.atN ct
         obtain ⟨⟨el, em, rfl, e0⟩, _⟩ := ej
         refine lV (.slice el ce.length em) (r_ld Tryz.isAgg51 rfl ek.one) ?_
         refine lg (b := bd) 89 rfl rfl rfl (by rw [bf]; rfl) ?_
         refine lV (.int .i64 (ce.length : Int)) (r_len Tryz.underlying51 rfl) ?_
         refine lg (b := bd) 89 rfl rfl rfl (by rw [bf]; rfl) ?_
         refine lV (.bool (decide (bj < (ce.length : Int)))) (r_lss bj (ce.length : Int) rfl rfl) <| lV (.bool (decide (bj < (ce.length : Int)))) (r_pickT (congrArg Value.bool bf) rfl) <| lN ?_
         exact ⟨bo, (decide (bj < (ce.length : Int))), hm, hst, ai, ag, aj, ae, ac, ak, ah, al, af, ad, rfl, rfl, rfl, rfl, rfl, rfl, rfl⟩
        rw [if_neg bf] at hm
        replace bf := Bool.eq_false_iff.2 bf
        refine lp (b := bd) 89 rfl rfl rfl rfl (by rw [bf]; rfl) ?_
        refine lp (b := bd) 89 rfl rfl rfl rfl (by rw [bf]; rfl) ?_
        refine lp (b := bd) 89 rfl rfl rfl rfl (by rw [bf]; rfl) ?_
        refine lp (b := bd) 89 rfl rfl rfl rfl (by rw [bf]; rfl) ?_
        refine lp (b := bd) 89 rfl rfl rfl rfl (by rw [bf]; rfl) ?_
        refine lp (b := bd) 89 rfl rfl rfl rfl (by rw [bf]; rfl) ?_
        refine lp (b := bd) 89 rfl rfl rfl rfl (by rw [bf]; rfl) ?_
        refine lp (b := bd) 89 rfl rfl rfl rfl (by rw [bf]; rfl) ?_
        refine lV (.bool false) (r_pickF (congrArg Value.bool bf) rfl) <| lN ?_
        exact ⟨bo, false, hm, hst, ai, ag, aj, ae, ac, ak, ah, al, af, ad, rfl, rfl, rfl, rfl, rfl, rfl, rfl⟩
      refine wquiet (col := be) (by kernel_rfl) (by kernel_rfl) ?_
      refine qv (v := (.bool an)) rfl (fun _ hC => r_move rfl) ?_
      refine qv (v := (.bool an)) rfl (fun _ hC => r_move rfl) ?_
      by_cases ap : an = true
      ·rw [if_pos ap] at hm
       refine qg (b := an) 73 rfl rfl rfl (by rw [ap]; rfl) ?_
       refine qv (v := (.pointer ((some (⟨av, 0, none⟩ : Addr)).map (·.add 4)))) rfl (fun _ hC => rF (sz := 1) (off := 4) Tryz.underlying28 rfl Tryz.sizeOf26 (by decide) rfl rfl ⟨_, _, rfl⟩) ?_
       refine qg (b := an) 73 rfl rfl rfl (by rw [ap]; rfl) ?_
       refine qv (v := (.slice am aa.2.2.2.2.length ao)) rfl (fun _ hC => r_ld Tryz.isAgg26 rfl (((ac.atN).nth (q := 4) (v := (.slice am aa.2.2.2.2.length ao)) rfl).gr (Grow.of_below (col := be) hC.below))) ?_
       refine qg (b := an) 73 rfl rfl rfl (by rw [ap]; rfl) ?_
       refine qv (v := (.int .i64 ar)) rfl (fun _ hC => r_move rfl) ?_
       refine qg (b := an) 73 rfl rfl rfl (by rw [ap]; rfl) ?_
       obtain ⟨b9, cu, hm⟩ := bS hm
       refine qv (v := (sptr am (Int.toNat ar * 1))) rfl (fun _ hC => r_idx Tryz.underlying26 Tryz.sizeOf51 rfl rfl (at?_some cu).1 (at?_some cu).2.1 (ae.addr cu)) ?_
       refine qg (b := an) 73 rfl rfl rfl (by rw [ap]; rfl) ?_
       obtain ⟨_, en, eo⟩ := ae.atN cu
       obtain ⟨⟨ep, eq, rfl, e1⟩, _⟩ := en
       refine qv (v := (.slice ep b9.length eq)) rfl (fun _ hC => r_ld Tryz.isAgg51 rfl (eo.one.gr (Grow.of_below (col := be) hC.below))) ?_
       refine qg (b := an) 73 rfl rfl rfl (by rw [ap]; rfl) ?_
       refine qv (v := (.int .i64 (b9.length : Int))) rfl (fun _ hC => r_len Tryz.underlying51 rfl) ?_
       refine qg (b := an) 73 rfl rfl rfl (by rw [ap]; rfl) ?_
       refine qv (v := (.pointer ((some (⟨a3, 0, none⟩ : Addr)).map (·.add 4)))) rfl (fun _ hC => rF (sz := 1) (off := 4) Tryz.underlying28 rfl Tryz.sizeOf26 (by decide) rfl rfl ⟨_, _, rfl⟩) ?_
       refine qg (b := an) 73 rfl rfl rfl (by rw [ap]; rfl) ?_
       refine qv (v := (.slice aq ab.2.2.2.2.length ax)) rfl (fun _ hC => r_ld Tryz.isAgg26 rfl (((ad.atN).nth (q := 4) (v := (.slice aq ab.2.2.2.2.length ax)) rfl).gr (Grow.of_below (col := be) hC.below))) ?_
       refine qg (b := an) 73 rfl rfl rfl (by rw [ap]; rfl) ?_
       refine qv (v := (.int .i64 ar)) rfl (fun _ hC => r_move rfl) ?_
       refine qg (b := an) 73 rfl rfl rfl (by rw [ap]; rfl) ?_
       obtain ⟨ca, cv, hm⟩ := bS hm
       refine qv (v := (sptr aq (Int.toNat ar * 1))) rfl (fun _ hC => r_idx Tryz.underlying26 Tryz.sizeOf51 rfl rfl (at?_some cv).1 (at?_some cv).2.1 (af.addr cv)) ?_
       refine qg (b := an) 73 rfl rfl rfl (by rw [ap]; rfl) ?_
       obtain ⟨_, er, es⟩ := af.atN cv
       obtain ⟨⟨et, eu, rfl, e2⟩, _⟩ := er
       refine qv (v := (.slice et ca.length eu)) rfl (fun _ hC => r_ld Tryz.isAgg51 rfl (es.one.gr (Grow.of_below (col := be) hC.below))) ?_
       refine qg (b := an) 73 rfl rfl rfl (by rw [ap]; rfl) ?_
       refine qv (v := (.int .i64 (ca.length : Int))) rfl (fun _ hC => r_len Tryz.underlying51 rfl) ?_
       refine qg (b := an) 73 rfl rfl rfl (by rw [ap]; rfl) ?_
       refine qv (v := (.bool (decide ((b9.length : Int) = (ca.length : Int))))) rfl (fun _ hC => r_eql (b9.length : Int) (ca.length : Int) rfl rfl) ?_
       refine qv (v := (.bool (decide ((b9.length : Int) = (ca.length : Int))))) rfl (fun _ hC => r_pickT (congrArg Value.bool ap) rfl) ?_
       refine qv (v := (.bool (decide ((b9.length : Int) = (ca.length : Int))))) rfl (fun _ hC => r_assign rfl) ?_
       refine qnil ?_
       intro ev hC
       replace hC : Grow be bn be ev := .of_below hC.below
       replace ai := ai.gr hC
       replace ag := ag.gr hC
       replace aj := aj.gr hC
       replace ae := ae.gr hC
       replace ak := ak.gr hC
       replace ah := ah.gr hC
       replace al := al.gr hC
       replace af := af.gr hC
       replace ac := ac.gr hC
       replace ad := ad.gr hC
       replace hst := hst.grow hC
       exact ⟨be, (decide ((b9.length : Int) = (ca.length : Int))), hm, hst, ai, ag, aj, ae, ac, ak, ah, al, af, ad, rfl, rfl, rfl, rfl, rfl⟩
      rw [if_neg ap] at hm
      replace ap := Bool.eq_false_iff.2 ap
      refine qp (b := an) 73 rfl rfl rfl rfl (by rw [ap]; rfl) ?_
      refine qp (b := an) 73 rfl rfl rfl rfl (by rw [ap]; rfl) ?_
      refine qp (b := an) 73 rfl rfl rfl rfl (by rw [ap]; rfl) ?_
      refine qp (b := an) 73 rfl rfl rfl rfl (by rw [ap]; rfl) ?_
      refine qp (b := an) 73 rfl rfl rfl rfl (by rw [ap]; rfl) ?_
      refine qp (b := an) 73 rfl rfl rfl rfl (by rw [ap]; rfl) ?_
      refine qp (b := an) 73 rfl rfl rfl rfl (by rw [ap]; rfl) ?_
      refine qp (b := an) 73 rfl rfl rfl rfl (by rw [ap]; rfl) ?_
      refine qp (b := an) 73 rfl rfl rfl rfl (by rw [ap]; rfl) ?_
      refine qp (b := an) 73 rfl rfl rfl rfl (by rw [ap]; rfl) ?_
      refine qp (b := an) 73 rfl rfl rfl rfl (by rw [ap]; rfl) ?_
      refine qp (b := an) 73 rfl rfl rfl rfl (by rw [ap]; rfl) ?_
      refine qp (b := an) 73 rfl rfl rfl rfl (by rw [ap]; rfl) ?_
      refine qv (v := (.bool false)) rfl (fun _ hC => r_pickF (congrArg Value.bool ap) rfl) ?_
      refine qv (v := (.bool false)) rfl (fun _ hC => r_assign rfl) ?_
      refine qnil ?_
      intro ew hC
      replace hC : Grow be bn be ew := .of_below hC.below
      replace ai := ai.gr hC
      replace ag := ag.gr hC
      replace aj := aj.gr hC
      replace ae := ae.gr hC
      replace ak := ak.gr hC
      replace ah := ah.gr hC
      replace al := al.gr hC
      replace af := af.gr hC
      replace ac := ac.gr hC
      replace ad := ad.gr hC
      replace hst := hst.grow hC
      exact ⟨be, false, hm, hst, ai, ag, aj, ae, ac, ak, ah, al, af, ad, rfl, rfl, rfl, rfl, rfl⟩
     rw [if_neg (by rw [hb]; decide)] at hm
     clear hb
     refine wexit (inB_hit ?_)
     refine wS <| wR <| lM (.bool an) <| lA (.bool an) <| lN ?_
     refine wret ?_
     cases hm
     exact ⟨rfl, rfl, hst.below⟩
  refine wR <| lV (.pointer ((some (⟨av, 0, none⟩ : Addr)).map (·.add 1))) (rF (sz := 1) (off := 1) Tryz.underlying28 rfl Tryz.sizeOf23 (by decide) rfl rfl ⟨_, _, rfl⟩) <| lV (.slice a5 aa.2.1.length a6) (r_ld Tryz.isAgg23 rfl ((ac.atN).nth (q := 1) (v := (.slice a5 aa.2.1.length a6)) rfl)) <| lV (.pointer ((some (⟨a3, 0, none⟩ : Addr)).map (·.add 1))) (rF (sz := 1) (off := 1) Tryz.underlying28 rfl Tryz.sizeOf23 (by decide) rfl rfl ⟨_, _, rfl⟩) <| lV (.slice a9 ab.2.1.length ba) (r_ld Tryz.isAgg23 rfl ((ad.atN).nth (q := 1) (v := (.slice a9 ab.2.1.length ba)) rfl)) ?_
  obtain ⟨bv, ex, hm⟩ := bS hm
  refine lc rfl rfl (r_call2 Tryz.call90 rfl rfl) (c_r07_SameTexts N bg _ a5 a6 aa.2.1 a9 ba ab.2.1 ai ak bv ex) ?_
  rintro _ dg ⟨rfl, bw⟩
  refine ⟨_, rfl, ?_⟩
  replace bw : Grow bg bp bg dg := .of_below bw
  refine lM (.bool bv) ?_
  replace ai := ai.gr bw
  replace ag := ag.gr bw
  replace aj := aj.gr bw
  replace ae := ae.gr bw
  replace ak := ak.gr bw
  replace ah := ah.gr bw
  replace al := al.gr bw
  replace af := af.gr bw
  replace ac := ac.gr bw
  replace ad := ad.gr bw
  replace hst := hst.grow bw
  by_cases bl : bv = true
  ·rw [if_pos bl] at hm
   refine lg (b := bv) 37 rfl rfl rfl (by rw [bl]; rfl) ?_
   refine lV (.pointer ((some (⟨av, 0, none⟩ : Addr)).map (·.add 3))) (rF (sz := 1) (off := 3) Tryz.underlying28 rfl Tryz.sizeOf25 (by decide) rfl rfl ⟨_, _, rfl⟩) ?_
   refine lg (b := bv) 37 rfl rfl rfl (by rw [bl]; rfl) ?_
   refine lV (.slice a7 aa.2.2.2.1.length a8) (r_ld Tryz.isAgg25 rfl ((ac.atN).nth (q := 3) (v := (.slice a7 aa.2.2.2.1.length a8)) rfl)) ?_
   refine lg (b := bv) 37 rfl rfl rfl (by rw [bl]; rfl) ?_
   refine lV (.pointer ((some (⟨a3, 0, none⟩ : Addr)).map (·.add 3))) (rF (sz := 1) (off := 3) Tryz.underlying28 rfl Tryz.sizeOf25 (by decide) rfl rfl ⟨_, _, rfl⟩) ?_
   refine lg (b := bv) 37 rfl rfl rfl (by rw [bl]; rfl) ?_
   refine lV (.slice bb ab.2.2.2.1.length bc) (r_ld Tryz.isAgg25 rfl ((ad.atN).nth (q := 3) (v := (.slice bb ab.2.2.2.1.length bc)) rfl)) ?_
   refine lg (b := bv) 37 rfl rfl rfl (by rw [bl]; rfl) ?_
   obtain ⟨cw, ey, hm⟩ := bS hm
   refine lc rfl rfl (r_call2 Tryz.call91 rfl rfl) (c_r19_lists N bg _ a7 a8 aa.2.2.2.1 bb bc ab.2.2.2.1 aj al cw ey) ?_
   rintro _ ez ⟨rfl, bx⟩
   refine ⟨_, rfl, ?_⟩
   replace bx : Grow bg dg bg ez := .of_below bx
   refine lV (.bool cw) (r_pickT (congrArg Value.bool bl) rfl) <| lA (.bool cw) <| lN ?_
   replace ai := ai.gr bx
   replace ag := ag.gr bx
   replace aj := aj.gr bx
   replace ae := ae.gr bx
   replace ak := ak.gr bx
   replace ah := ah.gr bx
   replace al := al.gr bx
   replace af := af.gr bx
   replace ac := ac.gr bx
   replace ad := ad.gr bx
   replace hst := hst.grow bx
   exact ⟨bg, cw, hm, hst, ai, ag, aj, ae, ac, ak, ah, al, af, ad, rfl, rfl, rfl, rfl⟩
  rw [if_neg bl] at hm
  replace bl := Bool.eq_false_iff.2 bl
  refine lp (b := bv) 37 rfl rfl rfl rfl (by rw [bl]; rfl) ?_
  refine lp (b := bv) 37 rfl rfl rfl rfl (by rw [bl]; rfl) ?_
  refine lp (b := bv) 37 rfl rfl rfl rfl (by rw [bl]; rfl) ?_
  refine lp (b := bv) 37 rfl rfl rfl rfl (by rw [bl]; rfl) ?_
  refine lp (b := bv) 37 rfl rfl rfl rfl (by rw [bl]; rfl) ?_
  refine lV (.bool false) (r_pickF (congrArg Value.bool bl) rfl) <| lA (.bool false) <| lN ?_
  exact ⟨bg, false, hm, hst, ai, ag, aj, ae, ac, ak, ah, al, af, ad, rfl, rfl, rfl, rfl⟩
 refine wR <| lV (.pointer ((some (⟨av, 0, none⟩ : Addr)).map (·.add 0))) (rF (sz := 1) (off := 0) Tryz.underlying28 rfl Tryz.sizeOf9 (by decide) rfl rfl ⟨_, _, rfl⟩) <| lV (.string aa.1) (r_ld Tryz.isAgg9 rfl ((ac.atN).nth (q := 0) (v := (.string aa.1)) rfl)) <| lV (.pointer ((some (⟨a3, 0, none⟩ : Addr)).map (·.add 0))) (rF (sz := 1) (off := 0) Tryz.underlying28 rfl Tryz.sizeOf9 (by decide) rfl rfl ⟨_, _, rfl⟩) <| lV (.string ab.1) (r_ld Tryz.isAgg9 rfl ((ad.atN).nth (q := 0) (v := (.string ab.1)) rfl)) <| lV (.bool (!decide (aa.1 = ab.1))) (r_neqS aa.1 ab.1 Tryz.underlying9 rfl rfl) <| lM (.bool (!decide (aa.1 = ab.1))) ?_
 by_cases bh : (!decide (aa.1 = ab.1)) = true
 ·rw [if_pos bh] at hm
  refine lp (b := !decide (aa.1 = ab.1)) 14 rfl rfl rfl rfl (by rw [bh]; rfl) ?_
  refine lp (b := !decide (aa.1 = ab.1)) 14 rfl rfl rfl rfl (by rw [bh]; rfl) ?_
  refine lp (b := !decide (aa.1 = ab.1)) 14 rfl rfl rfl rfl (by rw [bh]; rfl) ?_
  refine lp (b := !decide (aa.1 = ab.1)) 14 rfl rfl rfl rfl (by rw [bh]; rfl) ?_
  refine lp (b := !decide (aa.1 = ab.1)) 14 rfl rfl rfl rfl (by rw [bh]; rfl) ?_
  refine lp (b := !decide (aa.1 = ab.1)) 14 rfl rfl rfl rfl (by rw [bh]; rfl) ?_
  refine lp (b := !decide (aa.1 = ab.1)) 14 rfl rfl rfl rfl (by rw [bh]; rfl) ?_
  refine lV (.bool true) (r_pickT (congrArg Value.bool bh) rfl) <| lM (.bool true) ?_
  refine lp (b := true) 23 rfl rfl rfl rfl rfl ?_
  refine lp (b := true) 23 rfl rfl rfl rfl rfl ?_
  refine lp (b := true) 23 rfl rfl rfl rfl rfl ?_
  refine lp (b := true) 23 rfl rfl rfl rfl rfl ?_
  refine lp (b := true) 23 rfl rfl rfl rfl rfl ?_
  refine lp (b := true) 23 rfl rfl rfl rfl rfl ?_
  refine lp (b := true) 23 rfl rfl rfl rfl rfl ?_
  refine lV (.bool true) (r_pickT rfl rfl) <| lN ?_
  exact ⟨cg, true, hm, hst, ai, ag, aj, ae, ac, ak, ah, al, af, ad, rfl, rfl, rfl, rfl⟩
 rw [if_neg bh] at hm
 replace bh := Bool.eq_false_iff.2 bh
 refine lg (b := !decide (aa.1 = ab.1)) 14 rfl rfl rfl (by rw [bh]; rfl) ?_
 refine lV (.pointer ((some (⟨av, 0, none⟩ : Addr)).map (·.add 2))) (rF (sz := 1) (off := 2) Tryz.underlying28 rfl Tryz.sizeOf24 (by decide) rfl rfl ⟨_, _, rfl⟩) ?_
 refine lg (b := !decide (aa.1 = ab.1)) 14 rfl rfl rfl (by rw [bh]; rfl) ?_
 refine lV (.slice au aa.2.2.1.length aw) (r_ld Tryz.isAgg24 rfl ((ac.atN).nth (q := 2) (v := (.slice au aa.2.2.1.length aw)) rfl)) ?_
 refine lg (b := !decide (aa.1 = ab.1)) 14 rfl rfl rfl (by rw [bh]; rfl) ?_
 refine lV (.int .i64 (aa.2.2.1.length : Int)) (r_len Tryz.underlying24 rfl) ?_
 refine lg (b := !decide (aa.1 = ab.1)) 14 rfl rfl rfl (by rw [bh]; rfl) ?_
 refine lV (.pointer ((some (⟨a3, 0, none⟩ : Addr)).map (·.add 2))) (rF (sz := 1) (off := 2) Tryz.underlying28 rfl Tryz.sizeOf24 (by decide) rfl rfl ⟨_, _, rfl⟩) ?_
 refine lg (b := !decide (aa.1 = ab.1)) 14 rfl rfl rfl (by rw [bh]; rfl) ?_
 refine lV (.slice az ab.2.2.1.length a2) (r_ld Tryz.isAgg24 rfl ((ad.atN).nth (q := 2) (v := (.slice az ab.2.2.1.length a2)) rfl)) ?_
 refine lg (b := !decide (aa.1 = ab.1)) 14 rfl rfl rfl (by rw [bh]; rfl) ?_
 refine lV (.int .i64 (ab.2.2.1.length : Int)) (r_len Tryz.underlying24 rfl) ?_
 refine lg (b := !decide (aa.1 = ab.1)) 14 rfl rfl rfl (by rw [bh]; rfl) ?_
 refine lV (.bool (!decide ((aa.2.2.1.length : Int) = (ab.2.2.1.length : Int)))) (r_neq (aa.2.2.1.length : Int) (ab.2.2.1.length : Int) rfl rfl) <| lV (.bool (!decide ((aa.2.2.1.length : Int) = (ab.2.2.1.length : Int)))) (r_pickF (congrArg Value.bool bh) rfl) <| lM (.bool (!decide ((aa.2.2.1.length : Int) = (ab.2.2.1.length : Int)))) ?_
 by_cases bi : (!decide ((aa.2.2.1.length : Int) = (ab.2.2.1.length : Int))) = true
 ·rw [if_pos bi] at hm
  refine lp (b := !decide ((aa.2.2.1.length : Int) = (ab.2.2.1.length : Int))) 23 rfl rfl rfl rfl (by rw [bi]; rfl) ?_
  refine lp (b := !decide ((aa.2.2.1.length : Int) = (ab.2.2.1.length : Int))) 23 rfl rfl rfl rfl (by rw [bi]; rfl) ?_
  refine lp (b := !decide ((aa.2.2.1.length : Int) = (ab.2.2.1.length : Int))) 23 rfl rfl rfl rfl (by rw [bi]; rfl) ?_
  refine lp (b := !decide ((aa.2.2.1.length : Int) = (ab.2.2.1.length : Int))) 23 rfl rfl rfl rfl (by rw [bi]; rfl) ?_
  refine lp (b := !decide ((aa.2.2.1.length : Int) = (ab.2.2.1.length : Int))) 23 rfl rfl rfl rfl (by rw [bi]; rfl) ?_
  refine lp (b := !decide ((aa.2.2.1.length : Int) = (ab.2.2.1.length : Int))) 23 rfl rfl rfl rfl (by rw [bi]; rfl) ?_
  refine lp (b := !decide ((aa.2.2.1.length : Int) = (ab.2.2.1.length : Int))) 23 rfl rfl rfl rfl (by rw [bi]; rfl) ?_
  refine lV (.bool true) (r_pickT (congrArg Value.bool bi) rfl) <| lN ?_
  exact ⟨cg, true, hm, hst, ai, ag, aj, ae, ac, ak, ah, al, af, ad, rfl, rfl, rfl, rfl⟩
 rw [if_neg bi] at hm
 replace bi := Bool.eq_false_iff.2 bi
 refine lg (b := !decide ((aa.2.2.1.length : Int) = (ab.2.2.1.length : Int))) 23 rfl rfl rfl (by rw [bi]; rfl) ?_
 refine lV (.pointer ((some (⟨av, 0, none⟩ : Addr)).map (·.add 4))) (rF (sz := 1) (off := 4) Tryz.underlying28 rfl Tryz.sizeOf26 (by decide) rfl rfl ⟨_, _, rfl⟩) ?_
 refine lg (b := !decide ((aa.2.2.1.length : Int) = (ab.2.2.1.length : Int))) 23 rfl rfl rfl (by rw [bi]; rfl) ?_
 refine lV (.slice am aa.2.2.2.2.length ao) (r_ld Tryz.isAgg26 rfl ((ac.atN).nth (q := 4) (v := (.slice am aa.2.2.2.2.length ao)) rfl)) ?_
 refine lg (b := !decide ((aa.2.2.1.length : Int) = (ab.2.2.1.length : Int))) 23 rfl rfl rfl (by rw [bi]; rfl) ?_
 refine lV (.int .i64 (aa.2.2.2.2.length : Int)) (r_len Tryz.underlying26 rfl) ?_
 refine lg (b := !decide ((aa.2.2.1.length : Int) = (ab.2.2.1.length : Int))) 23 rfl rfl rfl (by rw [bi]; rfl) ?_
 refine lV (.pointer ((some (⟨a3, 0, none⟩ : Addr)).map (·.add 4))) (rF (sz := 1) (off := 4) Tryz.underlying28 rfl Tryz.sizeOf26 (by decide) rfl rfl ⟨_, _, rfl⟩) ?_
 refine lg (b := !decide ((aa.2.2.1.length : Int) = (ab.2.2.1.length : Int))) 23 rfl rfl rfl (by rw [bi]; rfl) ?_
 refine lV (.slice aq ab.2.2.2.2.length ax) (r_ld Tryz.isAgg26 rfl ((ad.atN).nth (q := 4) (v := (.slice aq ab.2.2.2.2.length ax)) rfl)) ?_
 refine lg (b := !decide ((aa.2.2.1.length : Int) = (ab.2.2.1.length : Int))) 23 rfl rfl rfl (by rw [bi]; rfl) ?_
 refine lV (.int .i64 (ab.2.2.2.2.length : Int)) (r_len Tryz.underlying26 rfl) ?_
 refine lg (b := !decide ((aa.2.2.1.length : Int) = (ab.2.2.1.length : Int))) 23 rfl rfl rfl (by rw [bi]; rfl) ?_
 refine lV (.bool (!decide ((aa.2.2.2.2.length : Int) = (ab.2.2.2.2.length : Int)))) (r_neq (aa.2.2.2.2.length : Int) (ab.2.2.2.2.length : Int) rfl rfl) <| lV (.bool (!decide ((aa.2.2.2.2.length : Int) = (ab.2.2.2.2.length : Int)))) (r_pickF (congrArg Value.bool bi) rfl) <| lN ?_
 exact ⟨cg, (!decide ((aa.2.2.2.2.length : Int) = (ab.2.2.2.2.length : Int))), hm, hst, ai, ag, aj, ae, ac, ak, ah, al, af, ad, rfl, rfl, rfl, rfl⟩
theorem el3_13 : ElemOk Tryz.prog 3 1 8 := ⟨Tryz.t3, _, rfl, rfl, rfl, rfl, rfl⟩
theorem el33_13 : ElemOk Tryz.prog 33 1 24 := ⟨Tryz.t33, _, rfl, rfl, rfl, rfl, rfl⟩
def m_l28_alive_J1 (aa : Bool) : Option Bool :=
  some aa
def m_l28_alive (N : Nat)  : Option Bool :=
  (m_l28_coin N 1 1).bind fun ac => (m_learn_Fit N (ac.1, ac.2.1, ac.2.2.1, ac.2.2.2.1, ac.2.2.2.2) [[0], [1], [1]] ((false, ([] : List Int)), ([] : List Int))).bind fun aa => (m_l28_coin N 1 1).bind fun ad => (m_learn_Score N (ad.1, ad.2.1, ad.2.2.1, ad.2.2.2.1, ad.2.2.2.2) [[0], [1], [1]]).bind fun ah => (m_l28_coin N 1 1).bind fun ae => (m_learn_Step N (ae.1, ae.2.1, ae.2.2.1, ae.2.2.2.1, ae.2.2.2.2) [[0], [(-1)]]).bind fun ab => if (decide (aa.2 = 0)) = true then ((m_l28_coin N 1 2).bind fun af => (m_r19_Same N (aa.1.1, aa.1.2.1, aa.1.2.2.1, aa.1.2.2.2.1, aa.1.2.2.2.2) (af.1, af.2.1, af.2.2.1, af.2.2.2.1, af.2.2.2.2)).bind fun aj => if aj = true then (if (decide (ah.2 = 0)) = true then ((m_l28_few N 1 12).bind fun ai => (m_frac_Cmp N ((ah.1.1.1, ah.1.1.2), ah.1.2) ((ai.1.1, ai.1.2), ai.2)).bind fun ak => if (decide (ak = 0)) = true then (if (decide (ab.2 = 0)) = true then ((m_l28_coin N 3 1).bind fun ag => (m_r19_Same N (ab.1.1, ab.1.2.1, ab.1.2.2.1, ab.1.2.2.2.1, ab.1.2.2.2.2) (ag.1, ag.2.1, ag.2.2.1, ag.2.2.2.1, ag.2.2.2.2)).bind fun al => m_l28_alive_J1 al) else (m_l28_alive_J1 false)) else (m_l28_alive_J1 false)) else (m_l28_alive_J1 false)) else (m_l28_alive_J1 false)) else (m_l28_alive_J1 false)
theorem c_l28_alive (N : Nat) (col : Col) (w0 : World)  (r : Bool) (hm : m_l28_alive N = some r) :
    Calls Tryz.prog 13 #[] w0 (fun e w' => e = .returned ((.bool r)) ∧ Below w0.heap.size w0 w') := by
 refine calls_of1 0 (m := 59) (args := []) Tryz.func13 rfl rfl rfl rfl rfl ?_
 rw [m_l28_alive.eq_1] at hm
 have hst := St.start col w0
 refine wS <| wR <| lA (.bool false) <| lN <| wS <| wR ?_
 refine l_lit (col := (col0 col)) (r := (Rep.int .i64)) (xs := [0]) [(.int .i64 0)] 1 rfl Tryz.underlying33 el3_13 rfl rfl rfl rfl rfl rfl (by intro v hv; simp only [List.mem_cons, List.not_mem_nil, or_false] at hv; subst hv; rfl) (RowsH.ofF (Rows.consF (r := (Rep.int .i64)) (x := 0) (cs := [(.int .i64 0)]) (rd_int .i64 0) Rows.nil0)) ?_
 intro cv g2 d1 d2 cw
 refine l_lit (col := d1) (r := (Rep.int .i64)) (xs := [1]) [(.int .i64 1)] 2 rfl Tryz.underlying33 el3_13 rfl rfl rfl rfl rfl rfl (by intro v hv; simp only [List.mem_cons, List.not_mem_nil, or_false] at hv; subst hv; rfl) (RowsH.ofF (Rows.consF (r := (Rep.int .i64)) (x := 1) (cs := [(.int .i64 1)]) (rd_int .i64 1) Rows.nil0)) ?_
 intro cx g3 d3 dm cy
 refine l_lit (col := d3) (r := (Rep.int .i64)) (xs := [1]) [(.int .i64 1)] 3 rfl Tryz.underlying33 el3_13 rfl rfl rfl rfl rfl rfl (by intro v hv; simp only [List.mem_cons, List.not_mem_nil, or_false] at hv; subst hv; rfl) (RowsH.ofF (Rows.consF (r := (Rep.int .i64)) (x := 1) (cs := [(.int .i64 1)]) (rd_int .i64 1) Rows.nil0)) ?_
 intro cz c0 cn c1 d4
 replace cw := (cw.gr dm).gr c1
 have c2 : Has (Rep.row 3 (Rep.int .i64)) 1 cn c0 [(.slice cv ([0].length) 1)] [0] := cw.has
 replace cy := cy.gr c1
 have d5 : Has (Rep.row 3 (Rep.int .i64)) 2 cn c0 [(.slice cx ([1].length) 1)] [1] := cy.has
 have d6 : Has (Rep.row 3 (Rep.int .i64)) 3 cn c0 [(.slice cz ([1].length) 1)] [1] := d4.has
 have d7 := RowsH.cons (cs := [(.slice cx ([1].length) 1)]) d5 (RowsH.cons1 (cs := [(.slice cz ([1].length) 1)]) d6 Rows.nil0) (by decide) (by decide)
 replace c2 := c2.recol 2 3 (by decide)
 replace hst := ((hst.grow d2).grow dm).grow c1
 replace hst := hst.recol 2 3 (by decide) (by decide)
 have d8 := RowsH.cons (cs := [(.slice cv ([0].length) 1)]) c2 d7 (by decide) (by decide)
 replace hst := hst.recol 1 3 (by decide) (by decide)
 refine l_lit (col := (rcC 1 3 (rcC 2 3 cn))) (r := (Rep.row 3 (Rep.int .i64))) (xs := [[0], [1], [1]]) [(.slice cv ([0].length) 1), (.slice cx ([1].length) 1), (.slice cz ([1].length) 1)] 3 rfl Tryz.underlying34 el33_13 rfl rfl rfl rfl rfl rfl (by intro v hv; simp only [List.mem_cons, List.not_mem_nil, or_false] at hv; rcases hv with rfl | rfl | rfl <;> rfl) d8 ?_
 intro cj g4 d9 ea bp
 refine lA (.slice cj ([[0], [1], [1]].length) 3) <| lN <| wS <| wR ?_
 obtain ⟨bq, eb, hm⟩ := bS hm
 refine lc rfl rfl (r_call2 Tryz.call9 rfl rfl) (c_l28_coin N 4 5 6 7 d9 _ 1 1 bq eb) ?_
 rintro _ ec ⟨bi, ed, ee, ef, eg, eh, ei, ej, ek, rfl, dn, el, em, en, eo⟩
 refine ⟨_, rfl, ?_⟩
 refine lM (.slice cj ([[0], [1], [1]].length) 3) <| lV (.agg #[(.bool false), (.slice none (([] : List Int).length) 0), (.slice none (([] : List Int).length) 0)]) (r_build (l := [_, _]) (qs := [(0, 2), (2, 1)]) Tryz.underlying40 Tryz.zeroValue40 ⟨rfl, Tryz.sizeOf38, rfl, Tryz.sizeOf36, trivial⟩ rfl) ?_
 obtain ⟨ab, ep, hm⟩ := bS hm
 replace bp := bp.gr dn
 refine lc rfl rfl (r_call3 Tryz.call8 rfl rfl rfl) (c_learn_Fit N 8 9 10 11 (frC 3 (frC 7 (frC 6 (frC 5 (frC 4 bi))))) _ ed ee ef eg eh ei ej ek (bq.1, bq.2.1, bq.2.2.1, bq.2.2.2.1, bq.2.2.2.2) cj 3 [[0], [1], [1]] none 0 none 0 ((false, ([] : List Int)), ([] : List Int)) (((((el.toSlF Froz.str).froz 5).froz 6).froz 7).froz 3) (((((em.froz 4 (by decide)).toSlF (Froz.row Froz.str)).froz 6).froz 7).froz 3) (((((en.froz 4 (by decide)).froz 5 (by decide)).toSlF (Froz.row (Froz.int .i64))).froz 7).froz 3) (((((eo.froz 4 (by decide)).froz 5 (by decide)).froz 6 (by decide)).toSlF (Froz.row (Froz.pair (Froz.pair Froz.bool (Froz.row (Froz.int .u32))) (Froz.row (Froz.int .u32))))).froz 3) (((((bp.froz 4 (by decide)).froz 5 (by decide)).froz 6 (by decide)).froz 7 (by decide)).toSlF (Froz.row (Froz.int .i64))) Sl.nil Sl.nil ab ep) ?_
 rintro _ g5 ⟨eq, br, bs, bt, bu, bv, bw, bx, bz, rfl, be, ap, aq, ar, au⟩
 refine ⟨_, rfl, ?_⟩
 replace ap := ap.thaw flat_str be ((((((Fz.refl (col := bi)).froz 4).froz 5).froz 6).froz 7).froz 3) (by decide)
 replace aq := aq.thaw (flat_row flat_str) be ((((((Fz.refl (col := bi)).froz 4).froz 5).froz 6).froz 7).froz 3) (by decide)
 replace ar := ar.thaw (flat_row (flat_int .i64)) be ((((((Fz.refl (col := bi)).froz 4).froz 5).froz 6).froz 7).froz 3) (by decide)
 replace au := au.thaw (flat_row (flat_pair (flat_pair flat_bool (flat_row (flat_int .u32))) (flat_row (flat_int .u32)))) be ((((((Fz.refl (col := bi)).froz 4).froz 5).froz 6).froz 7).froz 3) (by decide)
 replace be := be.thawR (col := bi)
 generalize colR ec.heap.size bi eq = er at *
 refine lM (.tuple #[(.agg #[(.string ab.1.1), (.slice br ab.1.2.1.length bs), (.slice bt ab.1.2.2.1.length bu), (.slice bv ab.1.2.2.2.1.length bw), (.slice bx ab.1.2.2.2.2.length bz)]), (.int .i64 ab.2)]) <| lV (.agg #[(.string ab.1.1), (.slice br ab.1.2.1.length bs), (.slice bt ab.1.2.2.1.length bu), (.slice bv ab.1.2.2.2.1.length bw), (.slice bx ab.1.2.2.2.2.length bz)]) (r_extract rfl rfl) <| lV (.int .i64 ab.2) (r_extract rfl rfl) ?_
 refine l_alloc (col := er) (v := (.agg #[(.string (⟨#[]⟩)), (.slice none (([] : List ByteArray).length) 0), (.slice none (([] : List (List ByteArray)).length) 0), (.slice none (([] : List (List Int)).length) 0), (.slice none (([] : List (List ((Bool × (List Int)) × (List Int)))).length) 0)])) 12 rfl Tryz.zeroValue28 ?_
 intro dp es c3 b0 co
 replace co : Box 28 12 c3 es dp #[(.string (⟨#[]⟩)), (.slice none (([] : List ByteArray).length) 0), (.slice none (([] : List (List ByteArray)).length) 0), (.slice none (([] : List (List Int)).length) 0), (.slice none (([] : List (List ((Bool × (List Int)) × (List Int)))).length) 0)] := co
 refine l_bstore (v := (.agg #[(.string ab.1.1), (.slice br ab.1.2.1.length bs), (.slice bt ab.1.2.2.1.length bu), (.slice bv ab.1.2.2.2.1.length bw), (.slice bx ab.1.2.2.2.2.length bz)])) co Tryz.sizeOf28 rfl rfl (by intro u hu; simp only [Value.cells, List.mem_cons, List.not_mem_nil, or_false] at hu; rcases hu with rfl | rfl | rfl | rfl | rfl <;> rfl) rfl rfl ?_
 intro et b1 eu ba
 clear co
 replace ba : Box 28 12 c3 et dp #[(.string ab.1.1), (.slice br ab.1.2.1.length bs), (.slice bt ab.1.2.2.1.length bu), (.slice bv ab.1.2.2.2.1.length bw), (.slice bx ab.1.2.2.2.2.length bz)] := ba
 refine lA (.int .i64 ab.2) <| lN <| wS <| wR ?_
 obtain ⟨b2, ev, hm⟩ := bS hm
 refine lc rfl rfl (r_call2 Tryz.call9 rfl rfl) (c_l28_coin N 13 14 15 16 c3 _ 1 1 b2 ev) ?_
 rintro _ ew ⟨ck, ex, ey, ez, e0, e1, e2, e3, e4, rfl, bj, e5, e6, e7, e8⟩
 refine ⟨_, rfl, ?_⟩
 refine lM (.slice cj ([[0], [1], [1]].length) 3) ?_
 obtain ⟨ac, e9, hm⟩ := bS hm
 replace bp := (((bp.gr be).gr b0).kp b1).gr bj
 refine lc rfl rfl (r_call2 Tryz.call12 rfl rfl) (c_learn_Score N 17 18 (frC 3 (frC 16 (frC 15 (frC 14 (frC 13 ck))))) _ ex ey ez e0 e1 e2 e3 e4 (b2.1, b2.2.1, b2.2.2.1, b2.2.2.2.1, b2.2.2.2.2) cj 3 [[0], [1], [1]] (((((e5.toSlF Froz.str).froz 14).froz 15).froz 16).froz 3) (((((e6.froz 13 (by decide)).toSlF (Froz.row Froz.str)).froz 15).froz 16).froz 3) (((((e7.froz 13 (by decide)).froz 14 (by decide)).toSlF (Froz.row (Froz.int .i64))).froz 16).froz 3) (((((e8.froz 13 (by decide)).froz 14 (by decide)).froz 15 (by decide)).toSlF (Froz.row (Froz.pair (Froz.pair Froz.bool (Froz.row (Froz.int .u32))) (Froz.row (Froz.int .u32))))).froz 3) (((((bp.froz 13 (by decide)).froz 14 (by decide)).froz 15 (by decide)).froz 16 (by decide)).toSlF (Froz.row (Froz.int .i64))) ac e9) ?_
 rintro _ g6 ⟨fa, b3, b4, b5, b6, rfl, a5, af, ag⟩
 refine ⟨_, rfl, ?_⟩
 replace af := af.thaw (flat_int .u32) a5 ((((((Fz.refl (col := ck)).froz 13).froz 14).froz 15).froz 16).froz 3) (by decide)
 replace ag := ag.thaw (flat_int .u32) a5 ((((((Fz.refl (col := ck)).froz 13).froz 14).froz 15).froz 16).froz 3) (by decide)
 replace a5 := a5.thawR (col := ck)
 generalize colR ew.heap.size ck fa = fb at *
 refine lM (.tuple #[(.agg #[(.bool ac.1.1.1), (.slice b3 ac.1.1.2.length b4), (.slice b5 ac.1.2.length b6)]), (.int .i64 ac.2)]) <| lV (.agg #[(.bool ac.1.1.1), (.slice b3 ac.1.1.2.length b4), (.slice b5 ac.1.2.length b6)]) (r_extract rfl rfl) <| lV (.int .i64 ac.2) (r_extract rfl rfl) ?_
 refine l_alloc (col := fb) (v := (.agg #[(.bool false), (.slice none (([] : List Int).length) 0), (.slice none (([] : List Int).length) 0)])) 19 rfl Tryz.zeroValue40 ?_
 intro dq fc c4 bf cp
 replace cp : Box 40 19 c4 fc dq #[(.bool false), (.slice none (([] : List Int).length) 0), (.slice none (([] : List Int).length) 0)] := cp
 refine l_bstore (v := (.agg #[(.bool ac.1.1.1), (.slice b3 ac.1.1.2.length b4), (.slice b5 ac.1.2.length b6)])) cp Tryz.sizeOf40 rfl rfl (by intro u hu; simp only [Value.cells, List.mem_cons, List.not_mem_nil, or_false] at hu; rcases hu with rfl | rfl | rfl <;> rfl) rfl rfl ?_
 intro fd bg fe av
 clear cp
 replace av : Box 40 19 c4 fd dq #[(.bool ac.1.1.1), (.slice b3 ac.1.1.2.length b4), (.slice b5 ac.1.2.length b6)] := av
 refine lA (.int .i64 ac.2) <| lN <| wS <| wR ?_
 obtain ⟨b7, ff, hm⟩ := bS hm
 refine lc rfl rfl (r_call2 Tryz.call9 rfl rfl) (c_l28_coin N 20 21 22 23 c4 _ 1 1 b7 ff) ?_
 rintro _ g7 ⟨fg, fh, fi, fj, fk, fl, fm, fn, fo, rfl, bb, bk, bl, bm, bn⟩
 refine ⟨_, rfl, ?_⟩
 refine l_lit (col := fg) (r := (Rep.int .i64)) (xs := [0]) [(.int .i64 0)] 24 rfl Tryz.underlying33 el3_13 rfl rfl rfl rfl rfl rfl (by intro v hv; simp only [List.mem_cons, List.not_mem_nil, or_false] at hv; subst hv; rfl) (RowsH.ofF (Rows.consF (r := (Rep.int .i64)) (x := 0) (cs := [(.int .i64 0)]) (rd_int .i64 0) Rows.nil0)) ?_
 intro c5 g8 fp aw c6
 refine l_lit (col := fp) (r := (Rep.int .i64)) (xs := [(-1)]) [(.int .i64 (-1))] 25 rfl Tryz.underlying33 el3_13 rfl rfl rfl rfl rfl rfl (by intro v hv; simp only [List.mem_cons, List.not_mem_nil, or_false] at hv; subst hv; rfl) (RowsH.ofF (Rows.consF (r := (Rep.int .i64)) (x := (-1)) (cs := [(.int .i64 (-1))]) (rd_int .i64 (-1)) Rows.nil0)) ?_
 intro c7 dr c8 am fq
 replace c6 := c6.gr am
 have fr : Has (Rep.row 3 (Rep.int .i64)) 24 c8 dr [(.slice c5 ([0].length) 1)] [0] := c6.has
 have fs : Has (Rep.row 3 (Rep.int .i64)) 25 c8 dr [(.slice c7 ([(-1)].length) 1)] [(-1)] := fq.has
 have ft := RowsH.cons (cs := [(.slice c5 ([0].length) 1)]) fr (RowsH.cons1 (cs := [(.slice c7 ([(-1)].length) 1)]) fs Rows.nil0) (by decide) (by decide)
 replace ap := ((((((((ap.gr b0).kp b1).gr bj).gr a5).gr bf).kp bg).gr bb).gr aw).gr am
 replace ap := ap.recol 24 25 (by decide)
 replace aq := ((((((((aq.gr b0).kp b1).gr bj).gr a5).gr bf).kp bg).gr bb).gr aw).gr am
 replace aq := aq.recol 24 25 (by decide)
 replace ar := ((((((((ar.gr b0).kp b1).gr bj).gr a5).gr bf).kp bg).gr bb).gr aw).gr am
 replace ar := ar.recol 24 25 (by decide)
 replace au := ((((((((au.gr b0).kp b1).gr bj).gr a5).gr bf).kp bg).gr bb).gr aw).gr am
 replace au := au.recol 24 25 (by decide)
 replace af := ((((af.gr bf).kp bg).gr bb).gr aw).gr am
 replace af := af.recol 24 25 (by decide)
 replace ag := ((((ag.gr bf).kp bg).gr bb).gr aw).gr am
 replace ag := ag.recol 24 25 (by decide)
 replace bk := (bk.gr aw).gr am
 replace bk := bk.recol 24 25 (by decide)
 replace bl := (bl.gr aw).gr am
 replace bl := bl.recol 24 25 (by decide)
 replace bm := (bm.gr aw).gr am
 replace bm := bm.recol 24 25 (by decide)
 replace bn := (bn.gr aw).gr am
 replace bn := bn.recol 24 25 (by decide)
 replace ba := ((((((ba.gr bj).gr a5).gr bf).kp bg).gr bb).gr aw).gr am
 replace ba := ba.recol 24 25 (by decide)
 replace av := ((av.gr bb).gr aw).gr am
 replace av := av.recol 24 25 (by decide)
 replace hst := (((((((((((hst.grow ea).grow dn).grow be).grow b0).kp b1 eu).grow bj).grow a5).grow bf).kp bg fe).grow bb).grow aw).grow am
 replace hst := hst.recol 24 25 (by decide) (by decide)
 refine l_lit (col := (rcC 24 25 c8)) (r := (Rep.row 3 (Rep.int .i64))) (xs := [[0], [(-1)]]) [(.slice c5 ([0].length) 1), (.slice c7 ([(-1)].length) 1)] 25 rfl Tryz.underlying34 el33_13 rfl rfl rfl rfl rfl rfl (by intro v hv; simp only [List.mem_cons, List.not_mem_nil, or_false] at hv; rcases hv with rfl | rfl <;> rfl) ft ?_
 intro fu fv bo ax fw
 obtain ⟨aa, fx, hm⟩ := bS hm
 replace bk := bk.gr ax
 replace bl := bl.gr ax
 replace bm := bm.gr ax
 replace bn := bn.gr ax
 refine lc rfl rfl (r_call2 Tryz.call11 rfl rfl) (c_learn_Step N 26 27 28 29 (frC 25 (frC 23 (frC 22 (frC 21 (frC 20 bo))))) _ fh fi fj fk fl fm fn fo (b7.1, b7.2.1, b7.2.2.1, b7.2.2.2.1, b7.2.2.2.2) fu 2 [[0], [(-1)]] (((((bk.toSlF Froz.str).froz 21).froz 22).froz 23).froz 25) (((((bl.froz 20 (by decide)).toSlF (Froz.row Froz.str)).froz 22).froz 23).froz 25) (((((bm.froz 20 (by decide)).froz 21 (by decide)).toSlF (Froz.row (Froz.int .i64))).froz 23).froz 25) (((((bn.froz 20 (by decide)).froz 21 (by decide)).froz 22 (by decide)).toSlF (Froz.row (Froz.pair (Froz.pair Froz.bool (Froz.row (Froz.int .u32))) (Froz.row (Froz.int .u32))))).froz 25) (((((fw.froz 20 (by decide)).froz 21 (by decide)).froz 22 (by decide)).froz 23 (by decide)).toSlF (Froz.row (Froz.int .i64))) aa fx) ?_
 rintro _ g9 ⟨fy, b8, b9, ca, cb, cc, cd, ce, cf, rfl, al, ah, ai, aj, ak⟩
 refine ⟨_, rfl, ?_⟩
 replace ah := ah.thaw flat_str al ((((((Fz.refl (col := bo)).froz 20).froz 21).froz 22).froz 23).froz 25) (by decide)
 replace ai := ai.thaw (flat_row flat_str) al ((((((Fz.refl (col := bo)).froz 20).froz 21).froz 22).froz 23).froz 25) (by decide)
 replace aj := aj.thaw (flat_row (flat_int .i64)) al ((((((Fz.refl (col := bo)).froz 20).froz 21).froz 22).froz 23).froz 25) (by decide)
 replace ak := ak.thaw (flat_row (flat_pair (flat_pair flat_bool (flat_row (flat_int .u32))) (flat_row (flat_int .u32)))) al ((((((Fz.refl (col := bo)).froz 20).froz 21).froz 22).froz 23).froz 25) (by decide)
 replace al := al.thawR (col := bo)
 generalize colR fv.heap.size bo fy = fz at *
 refine lM (.tuple #[(.agg #[(.string aa.1.1), (.slice b8 aa.1.2.1.length b9), (.slice ca aa.1.2.2.1.length cb), (.slice cc aa.1.2.2.2.1.length cd), (.slice ce aa.1.2.2.2.2.length cf)]), (.int .i64 aa.2)]) <| lV (.agg #[(.string aa.1.1), (.slice b8 aa.1.2.1.length b9), (.slice ca aa.1.2.2.1.length cb), (.slice cc aa.1.2.2.2.1.length cd), (.slice ce aa.1.2.2.2.2.length cf)]) (r_extract rfl rfl) <| lV (.int .i64 aa.2) (r_extract rfl rfl) ?_
 refine l_alloc (col := fz) (v := (.agg #[(.string (⟨#[]⟩)), (.slice none (([] : List ByteArray).length) 0), (.slice none (([] : List (List ByteArray)).length) 0), (.slice none (([] : List (List Int)).length) 0), (.slice none (([] : List (List ((Bool × (List Int)) × (List Int)))).length) 0)])) 30 rfl Tryz.zeroValue28 ?_
 intro ds f0 a6 ay cq
 replace cq : Box 28 30 a6 f0 ds #[(.string (⟨#[]⟩)), (.slice none (([] : List ByteArray).length) 0), (.slice none (([] : List (List ByteArray)).length) 0), (.slice none (([] : List (List Int)).length) 0), (.slice none (([] : List (List ((Bool × (List Int)) × (List Int)))).length) 0)] := cq
 refine l_bstore (v := (.agg #[(.string aa.1.1), (.slice b8 aa.1.2.1.length b9), (.slice ca aa.1.2.2.1.length cb), (.slice cc aa.1.2.2.2.1.length cd), (.slice ce aa.1.2.2.2.2.length cf)])) cq Tryz.sizeOf28 rfl rfl (by intro u hu; simp only [Value.cells, List.mem_cons, List.not_mem_nil, or_false] at hu; rcases hu with rfl | rfl | rfl | rfl | rfl <;> rfl) rfl rfl ?_
 intro c9 az f1 a4
 clear cq
 replace a4 : Box 28 30 a6 c9 ds #[(.string aa.1.1), (.slice b8 aa.1.2.1.length b9), (.slice ca aa.1.2.2.1.length cb), (.slice cc aa.1.2.2.2.1.length cd), (.slice ce aa.1.2.2.2.2.length cf)] := a4
 refine lA (.int .i64 aa.2) <| lN <| wS ?_
 replace ap := (((ap.gr ax).gr al).gr ay).kp az
 replace aq := (((aq.gr ax).gr al).gr ay).kp az
 replace ar := (((ar.gr ax).gr al).gr ay).kp az
 replace au := (((au.gr ax).gr al).gr ay).kp az
 replace af := (((af.gr ax).gr al).gr ay).kp az
 replace ag := (((ag.gr ax).gr al).gr ay).kp az
 replace ba := (((ba.gr ax).gr al).gr ay).kp az
 replace av := (((av.gr ax).gr al).gr ay).kp az
 replace hst := (((hst.grow ax).grow al).grow ay).kp az f1
 replace ah := (ah.gr ay).kp az
 replace ai := (ai.gr ay).kp az
 replace aj := (aj.gr ay).kp az
 replace ak := (ak.gr ay).kp az
 refine Wp.cut (fun f dt => ∃ (du : Col) (da : Bool), m_l28_alive_J1 da = some r ∧ St w0 (col0 col) du dt ∧ f 0 = (.bool da) ∧ f 1000000 = (enc [])) ?_ ?_
 ·intro f dt hJ
  obtain ⟨du, da, hm, hst, hs0, hs1000000⟩ := hJ
  rw [m_l28_alive_J1.eq_1] at hm
  refine .lD 0 hs0 <| .lD 1000000 hs1000000 ?_
  clear hs0 hs1000000
  refine wret ?_
  cases hm
  exact ⟨rfl, rfl, hst.below⟩
 refine wmix (col := a6) [(0, 1), (1, 1), (2, 1), (3, 0), (4, 3), (5, 3), (6, 1), (7, 1), (8, 1), (9, 1), (10, 1), (11, 1), (12, 0), (13, 3), (14, 3), (15, 1), (16, 1), (17, 1), (18, 1), (19, 1), (20, 1), (21, 1), (22, 0), (23, 3), (24, 3), (25, 1), (26, 1)] (by kernel_rfl) (by kernel_rfl) ?_
 refine xu (v := (.int .i64 ab.2)) rfl rfl (fun _ => r_move rfl) ?_
 refine xu (v := (.bool (decide (ab.2 = 0)))) rfl rfl (fun _ => r_eql ab.2 0 rfl rfl) ?_
 refine xu (v := (.bool (decide (ab.2 = 0)))) rfl rfl (fun _ => r_move rfl) ?_
 by_cases a0 : (decide (ab.2 = 0)) = true
 ·rw [if_pos a0] at hm
  refine xv_g (v := (.agg #[(.string ab.1.1), (.slice br ab.1.2.1.length bs), (.slice bt ab.1.2.2.1.length bu), (.slice bv ab.1.2.2.2.1.length bw), (.slice bx ab.1.2.2.2.2.length bz)])) (b := decide (ab.2 = 0)) 35 rfl rfl rfl rfl rfl (by rw [a0]; rfl) (fun _ hC => r_ldN Tryz.isAgg28 Tryz.sizeOf28 rfl rfl (ba.atN.gr (Grow.of_below (col := a6) hC.below))) ?_
  refine xe rfl rfl ?_
  intro f2 hC0
  have hC : Grow a6 c9 a6 f2 := .of_below hC0.below
  refine lg (b := decide (ab.2 = 0)) 35 rfl rfl rfl (by rw [a0]; rfl) ?_
  obtain ⟨cg, f3, hm⟩ := bS hm
  refine lc rfl rfl (r_call2 Tryz.call9 rfl rfl) (c_l28_coin N 51 52 53 54 a6 _ 1 2 cg f3) ?_
  rintro _ dv ⟨ad, f4, f5, f6, f7, f8, f9, ga, gb, rfl, an, db, dc, dd, de⟩
  refine ⟨_, rfl, ?_⟩
  refine lN ⟨fun w' => Grow ad dv ad w', Grow.refl _ _, fun _ _ h => cls hC0 an h, ?_⟩
  refine xe rfl rfl ?_
  intro dw hC0
  replace af := (af.gr hC).gr an
  replace ag := (ag.gr hC).gr an
  replace ah := (ah.gr hC).gr an
  replace ai := (ai.gr hC).gr an
  replace aj := (aj.gr hC).gr an
  replace ak := (ak.gr hC).gr an
  replace ap := (ap.gr hC).gr an
  replace aq := (aq.gr hC).gr an
  replace ar := (ar.gr hC).gr an
  replace au := (au.gr hC).gr an
  replace av := (av.gr hC).gr an
  replace a4 := (a4.gr hC).gr an
  replace hst := (hst.grow hC).grow an
  have hC : Grow ad dv ad dw := .of_below hC0.below
  refine lg (b := decide (ab.2 = 0)) 35 rfl rfl rfl (by rw [a0]; rfl) ?_
  obtain ⟨bh, gc, hm⟩ := bS hm
  replace ap := ap.gr hC
  replace aq := aq.gr hC
  replace ar := ar.gr hC
  replace au := au.gr hC
  replace db := db.gr hC
  replace dc := dc.gr hC
  replace dd := dd.gr hC
  replace de := de.gr hC
  refine lc rfl rfl (r_call2 Tryz.call42 rfl rfl) (c_r19_Same N (frC 54 (frC 53 (frC 52 (frC 51 (frC 11 (frC 10 (frC 9 (frC 8 ad)))))))) _ br bs bt bu bv bw bx bz (ab.1.1, ab.1.2.1, ab.1.2.2.1, ab.1.2.2.2.1, ab.1.2.2.2.2) f4 f5 f6 f7 f8 f9 ga gb (cg.1, cg.2.1, cg.2.2.1, cg.2.2.2.1, cg.2.2.2.2) ((((((((ap.toSlF Froz.str).froz 9).froz 10).froz 11).froz 51).froz 52).froz 53).froz 54) ((((((((aq.froz 8 (by decide)).toSlF (Froz.row Froz.str)).froz 10).froz 11).froz 51).froz 52).froz 53).froz 54) ((((((((ar.froz 8 (by decide)).froz 9 (by decide)).toSlF (Froz.row (Froz.int .i64))).froz 11).froz 51).froz 52).froz 53).froz 54) ((((((((au.froz 8 (by decide)).froz 9 (by decide)).froz 10 (by decide)).toSlF (Froz.row (Froz.pair (Froz.pair Froz.bool (Froz.row (Froz.int .u32))) (Froz.row (Froz.int .u32))))).froz 51).froz 52).froz 53).froz 54) ((((((((db.froz 8 (by decide)).froz 9 (by decide)).froz 10 (by decide)).froz 11 (by decide)).toSlF Froz.str).froz 52).froz 53).froz 54) ((((((((dc.froz 8 (by decide)).froz 9 (by decide)).froz 10 (by decide)).froz 11 (by decide)).froz 51 (by decide)).toSlF (Froz.row Froz.str)).froz 53).froz 54) ((((((((dd.froz 8 (by decide)).froz 9 (by decide)).froz 10 (by decide)).froz 11 (by decide)).froz 51 (by decide)).froz 52 (by decide)).toSlF (Froz.row (Froz.int .i64))).froz 54) ((((((((de.froz 8 (by decide)).froz 9 (by decide)).froz 10 (by decide)).froz 11 (by decide)).froz 51 (by decide)).froz 52 (by decide)).froz 53 (by decide)).toSlF (Froz.row (Froz.pair (Froz.pair Froz.bool (Froz.row (Froz.int .u32))) (Froz.row (Froz.int .u32))))) bh gc) ?_
  rintro _ cl ⟨rfl, a1⟩
  refine ⟨_, rfl, ?_⟩
  replace a1 : Grow ad dw ad cl := .of_below a1
  refine lN ⟨fun w' => Grow ad cl ad w', Grow.refl _ _, fun _ _ h => cls hC0 a1 h, ?_⟩
  refine xu (v := (.bool bh)) rfl rfl (fun _ => r_pickT (congrArg Value.bool a0) rfl) ?_
  refine xu (v := (.bool bh)) rfl rfl (fun _ => r_move rfl) ?_
  replace af := (af.gr hC).gr a1
  replace ag := (ag.gr hC).gr a1
  replace ah := (ah.gr hC).gr a1
  replace ai := (ai.gr hC).gr a1
  replace aj := (aj.gr hC).gr a1
  replace ak := (ak.gr hC).gr a1
  replace av := (av.gr hC).gr a1
  replace a4 := (a4.gr hC).gr a1
  replace hst := (hst.grow hC).grow a1
  by_cases a7 : bh = true
  ·rw [if_pos a7] at hm
   refine xu_g (v := (.int .i64 ac.2)) (b := bh) 40 rfl rfl rfl rfl rfl (by rw [a7]; rfl) (fun _ => r_move rfl) ?_
   refine xu_g (v := (.bool (decide (ac.2 = 0)))) (b := bh) 40 rfl rfl rfl rfl rfl (by rw [a7]; rfl) (fun _ => r_eql ac.2 0 rfl rfl) ?_
   refine xu (v := (.bool (decide (ac.2 = 0)))) rfl rfl (fun _ => r_pickT (congrArg Value.bool a7) rfl) ?_
   refine xu (v := (.bool (decide (ac.2 = 0)))) rfl rfl (fun _ => r_move rfl) ?_
   by_cases ao : (decide (ac.2 = 0)) = true
   ·rw [if_pos ao] at hm
    refine xv_g (v := (.agg #[(.bool ac.1.1.1), (.slice b3 ac.1.1.2.length b4), (.slice b5 ac.1.2.length b6)])) (b := decide (ac.2 = 0)) 44 rfl rfl rfl rfl rfl (by rw [ao]; rfl) (fun _ hC => r_ldN Tryz.isAgg40 Tryz.sizeOf40 rfl rfl (av.atN.gr (Grow.of_below (col := ad) hC.below))) ?_
    refine xe rfl rfl ?_
    intro gd hC0
    have hC : Grow ad cl ad gd := .of_below hC0.below
    refine lg (b := decide (ac.2 = 0)) 44 rfl rfl rfl (by rw [ao]; rfl) ?_
    obtain ⟨cr, ge, hm⟩ := bS hm
    refine lc rfl rfl (r_call2 Tryz.call10 rfl rfl) (c_l28_few N 55 56 ad _ 1 12 cr ge) ?_
    rintro _ dx ⟨ae, gf, gg, gh, gi, rfl, bc, df, dg⟩
    refine ⟨_, rfl, ?_⟩
    refine lN ⟨fun w' => Grow ae dx ae w', Grow.refl _ _, fun _ _ h => cls hC0 bc h, ?_⟩
    refine xe rfl rfl ?_
    intro dy hC0
    replace ah := (ah.gr hC).gr bc
    replace ai := (ai.gr hC).gr bc
    replace aj := (aj.gr hC).gr bc
    replace ak := (ak.gr hC).gr bc
    replace af := (af.gr hC).gr bc
    replace ag := (ag.gr hC).gr bc
    replace a4 := (a4.gr hC).gr bc
    replace hst := (hst.grow hC).grow bc
    have hC : Grow ae dx ae dy := .of_below hC0.below
    refine lg (b := decide (ac.2 = 0)) 44 rfl rfl rfl (by rw [ao]; rfl) ?_
    obtain ⟨a8, gj, hm⟩ := bS hm
    replace af := af.gr hC
    replace ag := ag.gr hC
    replace df := df.gr hC
    replace dg := dg.gr hC
    refine lc rfl rfl (r_call2 Tryz.call43 rfl rfl) (c_frac_Cmp N (frC 56 (frC 55 (frC 18 (frC 17 ae)))) _ b3 b4 b5 b6 ((ac.1.1.1, ac.1.1.2), ac.1.2) gf gg gh gi ((cr.1.1, cr.1.2), cr.2) ((((af.toSlF (Froz.int .u32)).froz 18).froz 55).froz 56) ((((ag.froz 17 (by decide)).toSlF (Froz.int .u32)).froz 55).froz 56) ((((df.froz 17 (by decide)).froz 18 (by decide)).toSlF (Froz.int .u32)).froz 56) ((((dg.froz 17 (by decide)).froz 18 (by decide)).froz 55 (by decide)).toSlF (Froz.int .u32)) a8 gj) ?_
    rintro _ cm ⟨rfl, bd⟩
    refine ⟨_, rfl, ?_⟩
    replace bd : Grow ae dy ae cm := .of_below bd
    refine lN ⟨fun w' => Grow ae cm ae w', Grow.refl _ _, fun _ _ h => cls hC0 bd h, ?_⟩
    refine xu_g (v := (.bool (decide (a8 = 0)))) (b := decide (ac.2 = 0)) 44 rfl rfl rfl rfl rfl (by rw [ao]; rfl) (fun _ => r_eql a8 0 rfl rfl) ?_
    refine xu (v := (.bool (decide (a8 = 0)))) rfl rfl (fun _ => r_pickT (congrArg Value.bool ao) rfl) ?_
    refine xu (v := (.bool (decide (a8 = 0)))) rfl rfl (fun _ => r_move rfl) ?_
    replace ah := (ah.gr hC).gr bd
    replace ai := (ai.gr hC).gr bd
    replace aj := (aj.gr hC).gr bd
    replace ak := (ak.gr hC).gr bd
    replace a4 := (a4.gr hC).gr bd
    replace hst := (hst.grow hC).grow bd
    by_cases a9 : (decide (a8 = 0)) = true
    ·rw [if_pos a9] at hm
     refine xu_g (v := (.int .i64 aa.2)) (b := decide (a8 = 0)) 50 rfl rfl rfl rfl rfl (by rw [a9]; rfl) (fun _ => r_move rfl) ?_
     refine xu_g (v := (.bool (decide (aa.2 = 0)))) (b := decide (a8 = 0)) 50 rfl rfl rfl rfl rfl (by rw [a9]; rfl) (fun _ => r_eql aa.2 0 rfl rfl) ?_
     refine xu (v := (.bool (decide (aa.2 = 0)))) rfl rfl (fun _ => r_pickT (congrArg Value.bool a9) rfl) ?_
     refine xu (v := (.bool (decide (aa.2 = 0)))) rfl rfl (fun _ => r_move rfl) ?_
     by_cases a2 : (decide (aa.2 = 0)) = true
     ·rw [if_pos a2] at hm
      refine xv_g (v := (.agg #[(.string aa.1.1), (.slice b8 aa.1.2.1.length b9), (.slice ca aa.1.2.2.1.length cb), (.slice cc aa.1.2.2.2.1.length cd), (.slice ce aa.1.2.2.2.2.length cf)])) (b := decide (aa.2 = 0)) 54 rfl rfl rfl rfl rfl (by rw [a2]; rfl) (fun _ hC => r_ldN Tryz.isAgg28 Tryz.sizeOf28 rfl rfl (a4.atN.gr (Grow.of_below (col := ae) hC.below))) ?_
      refine xe rfl rfl ?_
      intro gk hC0
      have hC : Grow ae cm ae gk := .of_below hC0.below
      refine lg (b := decide (aa.2 = 0)) 54 rfl rfl rfl (by rw [a2]; rfl) ?_
      obtain ⟨ch, gl, hm⟩ := bS hm
      refine lc rfl rfl (r_call2 Tryz.call9 rfl rfl) (c_l28_coin N 57 58 59 60 ae _ 3 1 ch gl) ?_
      rintro _ dz ⟨a3, gm, gn, go, gp, gq, gs, gt, gu, rfl, ci, dh, di, dj, dk⟩
      refine ⟨_, rfl, ?_⟩
      refine lN ⟨fun w' => Grow a3 dz a3 w', Grow.refl _ _, fun _ _ h => cls hC0 ci h, ?_⟩
      refine xe rfl rfl ?_
      intro d0 hC0
      replace ah := (ah.gr hC).gr ci
      replace ai := (ai.gr hC).gr ci
      replace aj := (aj.gr hC).gr ci
      replace ak := (ak.gr hC).gr ci
      replace hst := (hst.grow hC).grow ci
      have hC : Grow a3 dz a3 d0 := .of_below hC0.below
      refine lg (b := decide (aa.2 = 0)) 54 rfl rfl rfl (by rw [a2]; rfl) ?_
      obtain ⟨ct, gv, hm⟩ := bS hm
      replace ah := ah.gr hC
      replace ai := ai.gr hC
      replace aj := aj.gr hC
      replace ak := ak.gr hC
      replace dh := dh.gr hC
      replace di := di.gr hC
      replace dj := dj.gr hC
      replace dk := dk.gr hC
      refine lc rfl rfl (r_call2 Tryz.call42 rfl rfl) (c_r19_Same N (frC 60 (frC 59 (frC 58 (frC 57 (frC 29 (frC 28 (frC 27 (frC 26 a3)))))))) _ b8 b9 ca cb cc cd ce cf (aa.1.1, aa.1.2.1, aa.1.2.2.1, aa.1.2.2.2.1, aa.1.2.2.2.2) gm gn go gp gq gs gt gu (ch.1, ch.2.1, ch.2.2.1, ch.2.2.2.1, ch.2.2.2.2) ((((((((ah.toSlF Froz.str).froz 27).froz 28).froz 29).froz 57).froz 58).froz 59).froz 60) ((((((((ai.froz 26 (by decide)).toSlF (Froz.row Froz.str)).froz 28).froz 29).froz 57).froz 58).froz 59).froz 60) ((((((((aj.froz 26 (by decide)).froz 27 (by decide)).toSlF (Froz.row (Froz.int .i64))).froz 29).froz 57).froz 58).froz 59).froz 60) ((((((((ak.froz 26 (by decide)).froz 27 (by decide)).froz 28 (by decide)).toSlF (Froz.row (Froz.pair (Froz.pair Froz.bool (Froz.row (Froz.int .u32))) (Froz.row (Froz.int .u32))))).froz 57).froz 58).froz 59).froz 60) ((((((((dh.froz 26 (by decide)).froz 27 (by decide)).froz 28 (by decide)).froz 29 (by decide)).toSlF Froz.str).froz 58).froz 59).froz 60) ((((((((di.froz 26 (by decide)).froz 27 (by decide)).froz 28 (by decide)).froz 29 (by decide)).froz 57 (by decide)).toSlF (Froz.row Froz.str)).froz 59).froz 60) ((((((((dj.froz 26 (by decide)).froz 27 (by decide)).froz 28 (by decide)).froz 29 (by decide)).froz 57 (by decide)).froz 58 (by decide)).toSlF (Froz.row (Froz.int .i64))).froz 60) ((((((((dk.froz 26 (by decide)).froz 27 (by decide)).froz 28 (by decide)).froz 29 (by decide)).froz 57 (by decide)).froz 58 (by decide)).froz 59 (by decide)).toSlF (Froz.row (Froz.pair (Froz.pair Froz.bool (Froz.row (Froz.int .u32))) (Froz.row (Froz.int .u32))))) ct gv) ?_
      rintro _ dl ⟨rfl, cu⟩
      refine ⟨_, rfl, ?_⟩
      replace cu : Grow a3 d0 a3 dl := .of_below cu
      refine lN ⟨fun w' => Grow a3 dl a3 w', Grow.refl _ _, fun _ _ h => cls hC0 cu h, ?_⟩
      refine xu (v := (.bool ct)) rfl rfl (fun _ => r_pickT (congrArg Value.bool a2) rfl) ?_
      refine xu (v := (.bool ct)) rfl rfl (fun _ => r_assign rfl) ?_
      refine xnil ?_
      replace hst := (hst.grow hC).grow cu
      intro gw hC
      replace hC : Grow a3 dl a3 gw := .of_below hC.below
      replace hst := hst.grow hC
      exact ⟨a3, ct, hm, hst, rfl, rfl⟩
     rw [if_neg a2] at hm
     replace a2 := Bool.eq_false_iff.2 a2
     refine xpass (b := decide (aa.2 = 0)) 54 rfl rfl rfl rfl rfl (by rw [a2]; rfl) ?_
     refine xpass (b := decide (aa.2 = 0)) 54 rfl rfl rfl rfl rfl (by rw [a2]; rfl) ?_
     refine xpass (b := decide (aa.2 = 0)) 54 rfl rfl rfl rfl rfl (by rw [a2]; rfl) ?_
     refine xu (v := (.bool false)) rfl rfl (fun _ => r_pickF (congrArg Value.bool a2) rfl) ?_
     refine xu (v := (.bool false)) rfl rfl (fun _ => r_assign rfl) ?_
     refine xnil ?_
     intro gx hC
     replace hC : Grow ae cm ae gx := .of_below hC.below
     replace hst := hst.grow hC
     exact ⟨ae, false, hm, hst, rfl, rfl⟩
    rw [if_neg a9] at hm
    replace a9 := Bool.eq_false_iff.2 a9
    refine xpass (b := decide (a8 = 0)) 50 rfl rfl rfl rfl rfl (by rw [a9]; rfl) ?_
    refine xpass (b := decide (a8 = 0)) 50 rfl rfl rfl rfl rfl (by rw [a9]; rfl) ?_
    refine xu (v := (.bool false)) rfl rfl (fun _ => r_pickF (congrArg Value.bool a9) rfl) ?_
    refine xu (v := (.bool false)) rfl rfl (fun _ => r_move rfl) ?_
    refine xpass (b := false) 54 rfl rfl rfl rfl rfl rfl ?_
    refine xpass (b := false) 54 rfl rfl rfl rfl rfl rfl ?_
    refine xpass (b := false) 54 rfl rfl rfl rfl rfl rfl ?_
    refine xu (v := (.bool false)) rfl rfl (fun _ => r_pickF rfl rfl) ?_
    refine xu (v := (.bool false)) rfl rfl (fun _ => r_assign rfl) ?_
    refine xnil ?_
    intro gy hC
    replace hC : Grow ae cm ae gy := .of_below hC.below
    replace hst := hst.grow hC
    exact ⟨ae, false, hm, hst, rfl, rfl⟩
   rw [if_neg ao] at hm
   replace ao := Bool.eq_false_iff.2 ao
   refine xpass (b := decide (ac.2 = 0)) 44 rfl rfl rfl rfl rfl (by rw [ao]; rfl) ?_
   refine xpass (b := decide (ac.2 = 0)) 44 rfl rfl rfl rfl rfl (by rw [ao]; rfl) ?_
   refine xpass (b := decide (ac.2 = 0)) 44 rfl rfl rfl rfl rfl (by rw [ao]; rfl) ?_
   refine xpass (b := decide (ac.2 = 0)) 44 rfl rfl rfl rfl rfl (by rw [ao]; rfl) ?_
   refine xu (v := (.bool false)) rfl rfl (fun _ => r_pickF (congrArg Value.bool ao) rfl) ?_
   refine xu (v := (.bool false)) rfl rfl (fun _ => r_move rfl) ?_
   refine xpass (b := false) 50 rfl rfl rfl rfl rfl rfl ?_
   refine xpass (b := false) 50 rfl rfl rfl rfl rfl rfl ?_
   refine xu (v := (.bool false)) rfl rfl (fun _ => r_pickF rfl rfl) ?_
   refine xu (v := (.bool false)) rfl rfl (fun _ => r_move rfl) ?_
   refine xpass (b := false) 54 rfl rfl rfl rfl rfl rfl ?_
   refine xpass (b := false) 54 rfl rfl rfl rfl rfl rfl ?_
   refine xpass (b := false) 54 rfl rfl rfl rfl rfl rfl ?_
   refine xu (v := (.bool false)) rfl rfl (fun _ => r_pickF rfl rfl) ?_
   refine xu (v := (.bool false)) rfl rfl (fun _ => r_assign rfl) ?_
   refine xnil ?_
   intro gz hC
   replace hC : Grow ad cl ad gz := .of_below hC.below
   replace hst := hst.grow hC
   exact ⟨ad, false, hm, hst, rfl, rfl⟩
  rw [if_neg a7] at hm
  replace a7 := Bool.eq_false_iff.2 a7
  refine xpass (b := bh) 40 rfl rfl rfl rfl rfl (by rw [a7]; rfl) ?_
  refine xpass (b := bh) 40 rfl rfl rfl rfl rfl (by rw [a7]; rfl) ?_
  refine xu (v := (.bool false)) rfl rfl (fun _ => r_pickF (congrArg Value.bool a7) rfl) ?_
  refine xu (v := (.bool false)) rfl rfl (fun _ => r_move rfl) ?_
  refine xpass (b := false) 44 rfl rfl rfl rfl rfl rfl ?_
  refine xpass (b := false) 44 rfl rfl rfl rfl rfl rfl ?_
  refine xpass (b := false) 44 rfl rfl rfl rfl rfl rfl ?_
  refine xpass (b := false) 44 rfl rfl rfl rfl rfl rfl ?_
  refine xu (v := (.bool false)) rfl rfl (fun _ => r_pickF rfl rfl) ?_
  refine xu (v := (.bool false)) rfl rfl (fun _ => r_move rfl) ?_
  refine xpass (b := false) 50 rfl rfl rfl rfl rfl rfl ?_
  refine xpass (b := false) 50 rfl rfl rfl rfl rfl rfl ?_
  refine xu (v := (.bool false)) rfl rfl (fun _ => r_pickF rfl rfl) ?_
  refine xu (v := (.bool false)) rfl rfl (fun _ => r_move rfl) ?_
  refine xpass (b := false) 54 rfl rfl rfl rfl rfl rfl ?_
  refine xpass (b := false) 54 rfl rfl rfl rfl rfl rfl ?_
  refine xpass (b := false) 54 rfl rfl rfl rfl rfl rfl ?_
  refine xu (v := (.bool false)) rfl rfl (fun _ => r_pickF rfl rfl) ?_
  refine xu (v := (.bool false)) rfl rfl (fun _ => r_assign rfl) ?_
  refine xnil ?_
  intro g0 hC
  replace hC : Grow ad cl ad g0 := .of_below hC.below
  replace hst := hst.grow hC
  exact ⟨ad, false, hm, hst, rfl, rfl⟩
 rw [if_neg a0] at hm
 replace a0 := Bool.eq_false_iff.2 a0
 refine xpass (b := decide (ab.2 = 0)) 35 rfl rfl rfl rfl rfl (by rw [a0]; rfl) ?_
 refine xpass (b := decide (ab.2 = 0)) 35 rfl rfl rfl rfl rfl (by rw [a0]; rfl) ?_
 refine xpass (b := decide (ab.2 = 0)) 35 rfl rfl rfl rfl rfl (by rw [a0]; rfl) ?_
 refine xu (v := (.bool false)) rfl rfl (fun _ => r_pickF (congrArg Value.bool a0) rfl) ?_
 refine xu (v := (.bool false)) rfl rfl (fun _ => r_move rfl) ?_
 refine xpass (b := false) 40 rfl rfl rfl rfl rfl rfl ?_
 refine xpass (b := false) 40 rfl rfl rfl rfl rfl rfl ?_
 refine xu (v := (.bool false)) rfl rfl (fun _ => r_pickF rfl rfl) ?_
 refine xu (v := (.bool false)) rfl rfl (fun _ => r_move rfl) ?_
 refine xpass (b := false) 44 rfl rfl rfl rfl rfl rfl ?_
 refine xpass (b := false) 44 rfl rfl rfl rfl rfl rfl ?_
 refine xpass (b := false) 44 rfl rfl rfl rfl rfl rfl ?_
 refine xpass (b := false) 44 rfl rfl rfl rfl rfl rfl ?_
 refine xu (v := (.bool false)) rfl rfl (fun _ => r_pickF rfl rfl) ?_
 refine xu (v := (.bool false)) rfl rfl (fun _ => r_move rfl) ?_
 refine xpass (b := false) 50 rfl rfl rfl rfl rfl rfl ?_
 refine xpass (b := false) 50 rfl rfl rfl rfl rfl rfl ?_
 refine xu (v := (.bool false)) rfl rfl (fun _ => r_pickF rfl rfl) ?_
 refine xu (v := (.bool false)) rfl rfl (fun _ => r_move rfl) ?_
 refine xpass (b := false) 54 rfl rfl rfl rfl rfl rfl ?_
 refine xpass (b := false) 54 rfl rfl rfl rfl rfl rfl ?_
 refine xpass (b := false) 54 rfl rfl rfl rfl rfl rfl ?_
 refine xu (v := (.bool false)) rfl rfl (fun _ => r_pickF rfl rfl) ?_
 refine xu (v := (.bool false)) rfl rfl (fun _ => r_assign rfl) ?_
 refine xnil ?_
 intro g1 hC
 replace hC : Grow a6 c9 a6 g1 := .of_below hC.below
 replace hst := hst.grow hC
 exact ⟨a6, false, hm, hst, rfl, rfl⟩
theorem el3_5 : ElemOk Tryz.prog 3 1 8 := ⟨Tryz.t3, _, rfl, rfl, rfl, rfl, rfl⟩
theorem el33_5 : ElemOk Tryz.prog 33 1 24 := ⟨Tryz.t33, _, rfl, rfl, rfl, rfl, rfl⟩
def m_l28_LearnNames_J1 (aa : Bool) : Option Bool :=
  some aa
def m_l28_LearnNames (N : Nat)  : Option Bool :=
  (m_l28_coin N 1 1).bind fun aa => (m_l28_few N (-1) 1).bind fun af => (m_learn_Fit N (aa.1, aa.2.1, aa.2.2.1, aa.2.2.2.1, aa.2.2.2.2) [[2]] ((af.1.1, af.1.2), af.2)).bind fun ai => (m_l28_coin N 1 1).bind fun ab => (m_l28_few N (-1) 1).bind fun ag => (m_learn_Fit N (ab.1, ab.2.1, ab.2.2.1, ab.2.2.2.1, ab.2.2.2.2) ([] : List (List Int)) ((ag.1.1, ag.1.2), ag.2)).bind fun aj => (m_l28_coin N 1 0).bind fun ac => (m_learn_Step N (ac.1, ac.2.1, ac.2.2.1, ac.2.2.2.1, ac.2.2.2.2) [[1]]).bind fun ak => (m_l28_coin N 1 1).bind fun ad => (m_learn_Score N (ad.1, ad.2.1, ad.2.2.1, ad.2.2.2.1, ad.2.2.2.2) [[(-1)]]).bind fun al => (m_l28_coin N 1 1).bind fun ae => (m_l28_few N 1 1).bind fun ah => (m_learn_Fit N (ae.1, ae.2.1, ae.2.2.1, ae.2.2.2.1, ae.2.2.2.2) [[(-2)]] ((ah.1.1, ah.1.2), ah.2)).bind fun am => (m_l28_alive N).bind fun an => if an = true then (if (decide (am.2 = 71)) = true then (if (decide (ai.2 = 71)) = true then (if (decide (aj.2 = 3)) = true then (if (decide (ak.2 = 52)) = true then (m_l28_LearnNames_J1 (decide (al.2 = 72))) else (m_l28_LearnNames_J1 false)) else (m_l28_LearnNames_J1 false)) else (m_l28_LearnNames_J1 false)) else (m_l28_LearnNames_J1 false)) else (m_l28_LearnNames_J1 false)
theorem c_l28_LearnNames (N : Nat) (col : Col) (w0 : World)  (r : Bool) (hm : m_l28_LearnNames N = some r) :
    Calls Tryz.prog 5 #[] w0 (fun e w' => e = .returned ((.bool r)) ∧ Below w0.heap.size w0 w') := by
 refine calls_of1 0 (m := 70) (args := []) Tryz.func5 rfl rfl rfl rfl rfl ?_
 rw [m_l28_LearnNames.eq_1] at hm
 have hst := St.start col w0
 refine wS <| wR <| lA (.bool false) <| lN <| wS <| wR ?_
 obtain ⟨am, dm, hm⟩ := bS hm
 refine lc rfl rfl (r_call2 Tryz.call9 rfl rfl) (c_l28_coin N 1 2 3 4 (col0 col) _ 1 1 am dm) ?_
 rintro _ hk ⟨dn, dp, dq, dr, ds, dt, du, dv, dw, rfl, dx, bc, bd, be, bf⟩
 refine ⟨_, rfl, ?_⟩
 refine l_lit (col := dn) (r := (Rep.int .i64)) (xs := [2]) [(.int .i64 2)] 5 rfl Tryz.underlying33 el3_5 rfl rfl rfl rfl rfl rfl (by intro v hv; simp only [List.mem_cons, List.not_mem_nil, or_false] at hv; subst hv; rfl) (RowsH.ofF (Rows.consF (r := (Rep.int .i64)) (x := 2) (cs := [(.int .i64 2)]) (rd_int .i64 2) Rows.nil0)) ?_
 intro dc hl dy av dz
 refine l_lit (col := dy) (r := (Rep.row 3 (Rep.int .i64))) (xs := [[2]]) [(.slice dc ([2].length) 1)] 5 rfl Tryz.underlying34 el33_5 rfl rfl rfl rfl rfl rfl (by intro v hv; simp only [List.mem_cons, List.not_mem_nil, or_false] at hv; subst hv; rfl) (RowsH.cons1 (cs := [(.slice dc ([2].length) 1)]) dz.has Rows.nil0) ?_
 intro d0 hn d1 aw bg
 obtain ⟨a4, d2, hm⟩ := bS hm
 refine lc rfl rfl (r_call2 Tryz.call10 rfl rfl) (c_l28_few N 6 7 d1 _ (-1) 1 a4 d2) ?_
 rintro _ d3 ⟨bh, d4, d5, d6, d7, rfl, an, d8, d9⟩
 refine ⟨_, rfl, ?_⟩
 obtain ⟨aa, ea, hm⟩ := bS hm
 replace bc := ((bc.gr av).gr aw).gr an
 replace bd := ((bd.gr av).gr aw).gr an
 replace be := ((be.gr av).gr aw).gr an
 replace bf := ((bf.gr av).gr aw).gr an
 replace bg := bg.gr an
 refine lc rfl rfl (r_call3 Tryz.call8 rfl rfl rfl) (c_learn_Fit N 8 9 10 11 (frC 7 (frC 6 (frC 5 (frC 4 (frC 3 (frC 2 (frC 1 bh))))))) _ dp dq dr ds dt du dv dw (am.1, am.2.1, am.2.2.1, am.2.2.2.1, am.2.2.2.2) d0 1 [[2]] d4 d5 d6 d7 ((a4.1.1, a4.1.2), a4.2) (((((((bc.toSlF Froz.str).froz 2).froz 3).froz 4).froz 5).froz 6).froz 7) (((((((bd.froz 1 (by decide)).toSlF (Froz.row Froz.str)).froz 3).froz 4).froz 5).froz 6).froz 7) (((((((be.froz 1 (by decide)).froz 2 (by decide)).toSlF (Froz.row (Froz.int .i64))).froz 4).froz 5).froz 6).froz 7) (((((((bf.froz 1 (by decide)).froz 2 (by decide)).froz 3 (by decide)).toSlF (Froz.row (Froz.pair (Froz.pair Froz.bool (Froz.row (Froz.int .u32))) (Froz.row (Froz.int .u32))))).froz 5).froz 6).froz 7) (((((((bg.froz 1 (by decide)).froz 2 (by decide)).froz 3 (by decide)).froz 4 (by decide)).toSlF (Froz.row (Froz.int .i64))).froz 6).froz 7) (((((((d8.froz 1 (by decide)).froz 2 (by decide)).froz 3 (by decide)).froz 4 (by decide)).froz 5 (by decide)).toSlF (Froz.int .u32)).froz 7) (((((((d9.froz 1 (by decide)).froz 2 (by decide)).froz 3 (by decide)).froz 4 (by decide)).froz 5 (by decide)).froz 6 (by decide)).toSlF (Froz.int .u32)) aa ea) ?_
 rintro _ ho ⟨eb, bi, bj, bk, bl, bm, bn, bo, bp, rfl, bq, hp, hq, hr, hs⟩
 refine ⟨_, rfl, ?_⟩
 replace bq := bq.thawR (col := bh)
 generalize colR d3.heap.size bh eb = ec at *
 refine lM (.tuple #[(.agg #[(.string aa.1.1), (.slice bi aa.1.2.1.length bj), (.slice bk aa.1.2.2.1.length bl), (.slice bm aa.1.2.2.2.1.length bn), (.slice bo aa.1.2.2.2.2.length bp)]), (.int .i64 aa.2)]) <| lV (.agg #[(.string aa.1.1), (.slice bi aa.1.2.1.length bj), (.slice bk aa.1.2.2.1.length bl), (.slice bm aa.1.2.2.2.1.length bn), (.slice bo aa.1.2.2.2.2.length bp)]) (r_extract rfl rfl) <| lV (.int .i64 aa.2) (r_extract rfl rfl) ?_
 refine l_alloc (col := ec) (v := (.agg #[(.string (⟨#[]⟩)), (.slice none (([] : List ByteArray).length) 0), (.slice none (([] : List (List ByteArray)).length) 0), (.slice none (([] : List (List Int)).length) 0), (.slice none (([] : List (List ((Bool × (List Int)) × (List Int)))).length) 0)])) 12 rfl Tryz.zeroValue28 ?_
 intro ed ee dd ef a5
 replace a5 : Box 28 12 dd ee ed #[(.string (⟨#[]⟩)), (.slice none (([] : List ByteArray).length) 0), (.slice none (([] : List (List ByteArray)).length) 0), (.slice none (([] : List (List Int)).length) 0), (.slice none (([] : List (List ((Bool × (List Int)) × (List Int)))).length) 0)] := a5
 refine l_bstore (v := (.agg #[(.string aa.1.1), (.slice bi aa.1.2.1.length bj), (.slice bk aa.1.2.2.1.length bl), (.slice bm aa.1.2.2.2.1.length bn), (.slice bo aa.1.2.2.2.2.length bp)])) a5 Tryz.sizeOf28 rfl rfl (by intro u hu; simp only [Value.cells, List.mem_cons, List.not_mem_nil, or_false] at hu; rcases hu with rfl | rfl | rfl | rfl | rfl <;> rfl) rfl rfl ?_
 intro ht eg eh hw
 clear a5
 refine lA (.int .i64 aa.2) <| lN <| wS <| wR ?_
 obtain ⟨ao, ei, hm⟩ := bS hm
 refine lc rfl rfl (r_call2 Tryz.call9 rfl rfl) (c_l28_coin N 13 14 15 16 dd _ 1 1 ao ei) ?_
 rintro _ hx ⟨ej, ek, el, em, en, eo, ep, eq, er, rfl, es, br, bs, bt, bu⟩
 refine ⟨_, rfl, ?_⟩
 obtain ⟨a6, et, hm⟩ := bS hm
 refine lc rfl rfl (r_call2 Tryz.call10 rfl rfl) (c_l28_few N 17 18 ej _ (-1) 1 a6 et) ?_
 rintro _ eu ⟨bv, ev, ew, ex, ey, rfl, ax, ez, e0⟩
 refine ⟨_, rfl, ?_⟩
 obtain ⟨ab, e1, hm⟩ := bS hm
 replace br := br.gr ax
 replace bs := bs.gr ax
 replace bt := bt.gr ax
 replace bu := bu.gr ax
 refine lc rfl rfl (r_call3 Tryz.call8 rfl rfl rfl) (c_learn_Fit N 19 20 21 22 (frC 18 (frC 17 (frC 16 (frC 15 (frC 14 (frC 13 bv)))))) _ ek el em en eo ep eq er (ao.1, ao.2.1, ao.2.2.1, ao.2.2.2.1, ao.2.2.2.2) none 0 ([] : List (List Int)) ev ew ex ey ((a6.1.1, a6.1.2), a6.2) ((((((br.toSlF Froz.str).froz 14).froz 15).froz 16).froz 17).froz 18) ((((((bs.froz 13 (by decide)).toSlF (Froz.row Froz.str)).froz 15).froz 16).froz 17).froz 18) ((((((bt.froz 13 (by decide)).froz 14 (by decide)).toSlF (Froz.row (Froz.int .i64))).froz 16).froz 17).froz 18) ((((((bu.froz 13 (by decide)).froz 14 (by decide)).froz 15 (by decide)).toSlF (Froz.row (Froz.pair (Froz.pair Froz.bool (Froz.row (Froz.int .u32))) (Froz.row (Froz.int .u32))))).froz 17).froz 18) Sl.nil ((((((ez.froz 13 (by decide)).froz 14 (by decide)).froz 15 (by decide)).froz 16 (by decide)).toSlF (Froz.int .u32)).froz 18) ((((((e0.froz 13 (by decide)).froz 14 (by decide)).froz 15 (by decide)).froz 16 (by decide)).froz 17 (by decide)).toSlF (Froz.int .u32)) ab e1) ?_
 rintro _ hy ⟨e2, bw, bx, bz, b0, b1, b2, b3, b4, rfl, b5, hz, h0, h1, h2⟩
 refine ⟨_, rfl, ?_⟩
 replace b5 := b5.thawR (col := bv)
 generalize colR eu.heap.size bv e2 = e3 at *
 refine lM (.tuple #[(.agg #[(.string ab.1.1), (.slice bw ab.1.2.1.length bx), (.slice bz ab.1.2.2.1.length b0), (.slice b1 ab.1.2.2.2.1.length b2), (.slice b3 ab.1.2.2.2.2.length b4)]), (.int .i64 ab.2)]) <| lV (.agg #[(.string ab.1.1), (.slice bw ab.1.2.1.length bx), (.slice bz ab.1.2.2.1.length b0), (.slice b1 ab.1.2.2.2.1.length b2), (.slice b3 ab.1.2.2.2.2.length b4)]) (r_extract rfl rfl) <| lV (.int .i64 ab.2) (r_extract rfl rfl) ?_
 refine l_alloc (col := e3) (v := (.agg #[(.string (⟨#[]⟩)), (.slice none (([] : List ByteArray).length) 0), (.slice none (([] : List (List ByteArray)).length) 0), (.slice none (([] : List (List Int)).length) 0), (.slice none (([] : List (List ((Bool × (List Int)) × (List Int)))).length) 0)])) 23 rfl Tryz.zeroValue28 ?_
 intro e4 e5 de e6 a7
 replace a7 : Box 28 23 de e5 e4 #[(.string (⟨#[]⟩)), (.slice none (([] : List ByteArray).length) 0), (.slice none (([] : List (List ByteArray)).length) 0), (.slice none (([] : List (List Int)).length) 0), (.slice none (([] : List (List ((Bool × (List Int)) × (List Int)))).length) 0)] := a7
 refine l_bstore (v := (.agg #[(.string ab.1.1), (.slice bw ab.1.2.1.length bx), (.slice bz ab.1.2.2.1.length b0), (.slice b1 ab.1.2.2.2.1.length b2), (.slice b3 ab.1.2.2.2.2.length b4)])) a7 Tryz.sizeOf28 rfl rfl (by intro u hu; simp only [Value.cells, List.mem_cons, List.not_mem_nil, or_false] at hu; rcases hu with rfl | rfl | rfl | rfl | rfl <;> rfl) rfl rfl ?_
 intro h3 e7 e8 h4
 clear a7
 refine lA (.int .i64 ab.2) <| lN <| wS <| wR ?_
 obtain ⟨ap, e9, hm⟩ := bS hm
 refine lc rfl rfl (r_call2 Tryz.call9 rfl rfl) (c_l28_coin N 24 25 26 27 de _ 1 0 ap e9) ?_
 rintro _ h5 ⟨fa, fb, fc, fd, fe, ff, fg, fh, fi, rfl, fj, b6, b7, b8, b9⟩
 refine ⟨_, rfl, ?_⟩
 refine l_lit (col := fa) (r := (Rep.int .i64)) (xs := [1]) [(.int .i64 1)] 28 rfl Tryz.underlying33 el3_5 rfl rfl rfl rfl rfl rfl (by intro v hv; simp only [List.mem_cons, List.not_mem_nil, or_false] at hv; subst hv; rfl) (RowsH.ofF (Rows.consF (r := (Rep.int .i64)) (x := 1) (cs := [(.int .i64 1)]) (rd_int .i64 1) Rows.nil0)) ?_
 intro df h6 fk ay fl
 refine l_lit (col := fk) (r := (Rep.row 3 (Rep.int .i64))) (xs := [[1]]) [(.slice df ([1].length) 1)] 28 rfl Tryz.underlying34 el33_5 rfl rfl rfl rfl rfl rfl (by intro v hv; simp only [List.mem_cons, List.not_mem_nil, or_false] at hv; subst hv; rfl) (RowsH.cons1 (cs := [(.slice df ([1].length) 1)]) fl.has Rows.nil0) ?_
 intro fm fn ca az fo
 obtain ⟨ac, fp, hm⟩ := bS hm
 replace b6 := (b6.gr ay).gr az
 replace b7 := (b7.gr ay).gr az
 replace b8 := (b8.gr ay).gr az
 replace b9 := (b9.gr ay).gr az
 refine lc rfl rfl (r_call2 Tryz.call11 rfl rfl) (c_learn_Step N 29 30 31 32 (frC 28 (frC 27 (frC 26 (frC 25 (frC 24 ca))))) _ fb fc fd fe ff fg fh fi (ap.1, ap.2.1, ap.2.2.1, ap.2.2.2.1, ap.2.2.2.2) fm 1 [[1]] (((((b6.toSlF Froz.str).froz 25).froz 26).froz 27).froz 28) (((((b7.froz 24 (by decide)).toSlF (Froz.row Froz.str)).froz 26).froz 27).froz 28) (((((b8.froz 24 (by decide)).froz 25 (by decide)).toSlF (Froz.row (Froz.int .i64))).froz 27).froz 28) (((((b9.froz 24 (by decide)).froz 25 (by decide)).froz 26 (by decide)).toSlF (Froz.row (Froz.pair (Froz.pair Froz.bool (Froz.row (Froz.int .u32))) (Froz.row (Froz.int .u32))))).froz 28) (((((fo.froz 24 (by decide)).froz 25 (by decide)).froz 26 (by decide)).froz 27 (by decide)).toSlF (Froz.row (Froz.int .i64))) ac fp) ?_
 rintro _ h7 ⟨fq, cb, cc, cd, ce, cf, cg, ch, ci, rfl, cj, h8, h9, ia, ib⟩
 refine ⟨_, rfl, ?_⟩
 replace cj := cj.thawR (col := ca)
 generalize colR fn.heap.size ca fq = fr at *
 refine lM (.tuple #[(.agg #[(.string ac.1.1), (.slice cb ac.1.2.1.length cc), (.slice cd ac.1.2.2.1.length ce), (.slice cf ac.1.2.2.2.1.length cg), (.slice ch ac.1.2.2.2.2.length ci)]), (.int .i64 ac.2)]) <| lV (.agg #[(.string ac.1.1), (.slice cb ac.1.2.1.length cc), (.slice cd ac.1.2.2.1.length ce), (.slice cf ac.1.2.2.2.1.length cg), (.slice ch ac.1.2.2.2.2.length ci)]) (r_extract rfl rfl) <| lV (.int .i64 ac.2) (r_extract rfl rfl) ?_
 refine l_alloc (col := fr) (v := (.agg #[(.string (⟨#[]⟩)), (.slice none (([] : List ByteArray).length) 0), (.slice none (([] : List (List ByteArray)).length) 0), (.slice none (([] : List (List Int)).length) 0), (.slice none (([] : List (List ((Bool × (List Int)) × (List Int)))).length) 0)])) 33 rfl Tryz.zeroValue28 ?_
 intro fs ft dg fu a8
 replace a8 : Box 28 33 dg ft fs #[(.string (⟨#[]⟩)), (.slice none (([] : List ByteArray).length) 0), (.slice none (([] : List (List ByteArray)).length) 0), (.slice none (([] : List (List Int)).length) 0), (.slice none (([] : List (List ((Bool × (List Int)) × (List Int)))).length) 0)] := a8
 refine l_bstore (v := (.agg #[(.string ac.1.1), (.slice cb ac.1.2.1.length cc), (.slice cd ac.1.2.2.1.length ce), (.slice cf ac.1.2.2.2.1.length cg), (.slice ch ac.1.2.2.2.2.length ci)])) a8 Tryz.sizeOf28 rfl rfl (by intro u hu; simp only [Value.cells, List.mem_cons, List.not_mem_nil, or_false] at hu; rcases hu with rfl | rfl | rfl | rfl | rfl <;> rfl) rfl rfl ?_
 intro ic fv fw id
 clear a8
 refine lA (.int .i64 ac.2) <| lN <| wS <| wR ?_
 obtain ⟨aq, fx, hm⟩ := bS hm
 refine lc rfl rfl (r_call2 Tryz.call9 rfl rfl) (c_l28_coin N 34 35 36 37 dg _ 1 1 aq fx) ?_
 rintro _ ie ⟨fy, fz, f0, f1, f2, f3, f4, f5, f6, rfl, f7, ck, cl, cm, cn⟩
 refine ⟨_, rfl, ?_⟩
 refine l_lit (col := fy) (r := (Rep.int .i64)) (xs := [(-1)]) [(.int .i64 (-1))] 38 rfl Tryz.underlying33 el3_5 rfl rfl rfl rfl rfl rfl (by intro v hv; simp only [List.mem_cons, List.not_mem_nil, or_false] at hv; subst hv; rfl) (RowsH.ofF (Rows.consF (r := (Rep.int .i64)) (x := (-1)) (cs := [(.int .i64 (-1))]) (rd_int .i64 (-1)) Rows.nil0)) ?_
 intro dh ig f8 a0 f9
 refine l_lit (col := f8) (r := (Rep.row 3 (Rep.int .i64))) (xs := [[(-1)]]) [(.slice dh ([(-1)].length) 1)] 38 rfl Tryz.underlying34 el33_5 rfl rfl rfl rfl rfl rfl (by intro v hv; simp only [List.mem_cons, List.not_mem_nil, or_false] at hv; subst hv; rfl) (RowsH.cons1 (cs := [(.slice dh ([(-1)].length) 1)]) f9.has Rows.nil0) ?_
 intro ga gb co a1 gc
 obtain ⟨ae, gd, hm⟩ := bS hm
 replace ck := (ck.gr a0).gr a1
 replace cl := (cl.gr a0).gr a1
 replace cm := (cm.gr a0).gr a1
 replace cn := (cn.gr a0).gr a1
 refine lc rfl rfl (r_call2 Tryz.call12 rfl rfl) (c_learn_Score N 39 40 (frC 38 (frC 37 (frC 36 (frC 35 (frC 34 co))))) _ fz f0 f1 f2 f3 f4 f5 f6 (aq.1, aq.2.1, aq.2.2.1, aq.2.2.2.1, aq.2.2.2.2) ga 1 [[(-1)]] (((((ck.toSlF Froz.str).froz 35).froz 36).froz 37).froz 38) (((((cl.froz 34 (by decide)).toSlF (Froz.row Froz.str)).froz 36).froz 37).froz 38) (((((cm.froz 34 (by decide)).froz 35 (by decide)).toSlF (Froz.row (Froz.int .i64))).froz 37).froz 38) (((((cn.froz 34 (by decide)).froz 35 (by decide)).froz 36 (by decide)).toSlF (Froz.row (Froz.pair (Froz.pair Froz.bool (Froz.row (Froz.int .u32))) (Froz.row (Froz.int .u32))))).froz 38) (((((gc.froz 34 (by decide)).froz 35 (by decide)).froz 36 (by decide)).froz 37 (by decide)).toSlF (Froz.row (Froz.int .i64))) ae gd) ?_
 rintro _ ih ⟨ge, cp, cq, cr, ct, rfl, cu, ii, ij⟩
 refine ⟨_, rfl, ?_⟩
 replace cu := cu.thawR (col := co)
 generalize colR gb.heap.size co ge = gf at *
 refine lM (.tuple #[(.agg #[(.bool ae.1.1.1), (.slice cp ae.1.1.2.length cq), (.slice cr ae.1.2.length ct)]), (.int .i64 ae.2)]) <| lV (.agg #[(.bool ae.1.1.1), (.slice cp ae.1.1.2.length cq), (.slice cr ae.1.2.length ct)]) (r_extract rfl rfl) <| lV (.int .i64 ae.2) (r_extract rfl rfl) ?_
 refine l_alloc (col := gf) (v := (.agg #[(.bool false), (.slice none (([] : List Int).length) 0), (.slice none (([] : List Int).length) 0)])) 41 rfl Tryz.zeroValue40 ?_
 intro gg gh di gi a9
 replace a9 : Box 40 41 di gh gg #[(.bool false), (.slice none (([] : List Int).length) 0), (.slice none (([] : List Int).length) 0)] := a9
 refine l_bstore (v := (.agg #[(.bool ae.1.1.1), (.slice cp ae.1.1.2.length cq), (.slice cr ae.1.2.length ct)])) a9 Tryz.sizeOf40 rfl rfl (by intro u hu; simp only [Value.cells, List.mem_cons, List.not_mem_nil, or_false] at hu; rcases hu with rfl | rfl | rfl <;> rfl) rfl rfl ?_
 intro ik gj gk il
 clear a9
 refine lA (.int .i64 ae.2) <| lN <| wS <| wR ?_
 obtain ⟨ar, gl, hm⟩ := bS hm
 refine lc rfl rfl (r_call2 Tryz.call9 rfl rfl) (c_l28_coin N 42 43 44 45 di _ 1 1 ar gl) ?_
 rintro _ im ⟨gm, gn, go, gp, gq, gs, gt, gu, gv, rfl, gw, cv, cw, cx, cy⟩
 refine ⟨_, rfl, ?_⟩
 refine l_lit (col := gm) (r := (Rep.int .i64)) (xs := [(-2)]) [(.int .i64 (-2))] 46 rfl Tryz.underlying33 el3_5 rfl rfl rfl rfl rfl rfl (by intro v hv; simp only [List.mem_cons, List.not_mem_nil, or_false] at hv; subst hv; rfl) (RowsH.ofF (Rows.consF (r := (Rep.int .i64)) (x := (-2)) (cs := [(.int .i64 (-2))]) (rd_int .i64 (-2)) Rows.nil0)) ?_
 intro dj io gx a2 gy
 refine l_lit (col := gx) (r := (Rep.row 3 (Rep.int .i64))) (xs := [[(-2)]]) [(.slice dj ([(-2)].length) 1)] 46 rfl Tryz.underlying34 el33_5 rfl rfl rfl rfl rfl rfl (by intro v hv; simp only [List.mem_cons, List.not_mem_nil, or_false] at hv; subst hv; rfl) (RowsH.cons1 (cs := [(.slice dj ([(-2)].length) 1)]) gy.has Rows.nil0) ?_
 intro gz ip g0 a3 cz
 obtain ⟨ba, g1, hm⟩ := bS hm
 refine lc rfl rfl (r_call2 Tryz.call10 rfl rfl) (c_l28_few N 47 48 g0 _ 1 1 ba g1) ?_
 rintro _ g2 ⟨c0, g3, g4, g5, g6, rfl, au, g7, g8⟩
 refine ⟨_, rfl, ?_⟩
 obtain ⟨ad, g9, hm⟩ := bS hm
 replace cv := ((cv.gr a2).gr a3).gr au
 replace cw := ((cw.gr a2).gr a3).gr au
 replace cx := ((cx.gr a2).gr a3).gr au
 replace cy := ((cy.gr a2).gr a3).gr au
 replace cz := cz.gr au
 refine lc rfl rfl (r_call3 Tryz.call8 rfl rfl rfl) (c_learn_Fit N 49 50 51 52 (frC 48 (frC 47 (frC 46 (frC 45 (frC 44 (frC 43 (frC 42 c0))))))) _ gn go gp gq gs gt gu gv (ar.1, ar.2.1, ar.2.2.1, ar.2.2.2.1, ar.2.2.2.2) gz 1 [[(-2)]] g3 g4 g5 g6 ((ba.1.1, ba.1.2), ba.2) (((((((cv.toSlF Froz.str).froz 43).froz 44).froz 45).froz 46).froz 47).froz 48) (((((((cw.froz 42 (by decide)).toSlF (Froz.row Froz.str)).froz 44).froz 45).froz 46).froz 47).froz 48) (((((((cx.froz 42 (by decide)).froz 43 (by decide)).toSlF (Froz.row (Froz.int .i64))).froz 45).froz 46).froz 47).froz 48) (((((((cy.froz 42 (by decide)).froz 43 (by decide)).froz 44 (by decide)).toSlF (Froz.row (Froz.pair (Froz.pair Froz.bool (Froz.row (Froz.int .u32))) (Froz.row (Froz.int .u32))))).froz 46).froz 47).froz 48) (((((((cz.froz 42 (by decide)).froz 43 (by decide)).froz 44 (by decide)).froz 45 (by decide)).toSlF (Froz.row (Froz.int .i64))).froz 47).froz 48) (((((((g7.froz 42 (by decide)).froz 43 (by decide)).froz 44 (by decide)).froz 45 (by decide)).froz 46 (by decide)).toSlF (Froz.int .u32)).froz 48) (((((((g8.froz 42 (by decide)).froz 43 (by decide)).froz 44 (by decide)).froz 45 (by decide)).froz 46 (by decide)).froz 47 (by decide)).toSlF (Froz.int .u32)) ad g9) ?_
 rintro _ iq ⟨ha, c1, c2, c3, c4, c5, c6, c7, c8, rfl, c9, ir, it, iu, iv⟩
 refine ⟨_, rfl, ?_⟩
 replace c9 := c9.thawR (col := c0)
 generalize colR g2.heap.size c0 ha = hb at *
 refine lM (.tuple #[(.agg #[(.string ad.1.1), (.slice c1 ad.1.2.1.length c2), (.slice c3 ad.1.2.2.1.length c4), (.slice c5 ad.1.2.2.2.1.length c6), (.slice c7 ad.1.2.2.2.2.length c8)]), (.int .i64 ad.2)]) <| lV (.agg #[(.string ad.1.1), (.slice c1 ad.1.2.1.length c2), (.slice c3 ad.1.2.2.1.length c4), (.slice c5 ad.1.2.2.2.1.length c6), (.slice c7 ad.1.2.2.2.2.length c8)]) (r_extract rfl rfl) <| lV (.int .i64 ad.2) (r_extract rfl rfl) ?_
 refine l_alloc (col := hb) (v := (.agg #[(.string (⟨#[]⟩)), (.slice none (([] : List ByteArray).length) 0), (.slice none (([] : List (List ByteArray)).length) 0), (.slice none (([] : List (List Int)).length) 0), (.slice none (([] : List (List ((Bool × (List Int)) × (List Int)))).length) 0)])) 53 rfl Tryz.zeroValue28 ?_
 intro hc hd af he bb
 replace bb : Box 28 53 af hd hc #[(.string (⟨#[]⟩)), (.slice none (([] : List ByteArray).length) 0), (.slice none (([] : List (List ByteArray)).length) 0), (.slice none (([] : List (List Int)).length) 0), (.slice none (([] : List (List ((Bool × (List Int)) × (List Int)))).length) 0)] := bb
 refine l_bstore (v := (.agg #[(.string ad.1.1), (.slice c1 ad.1.2.1.length c2), (.slice c3 ad.1.2.2.1.length c4), (.slice c5 ad.1.2.2.2.1.length c6), (.slice c7 ad.1.2.2.2.2.length c8)])) bb Tryz.sizeOf28 rfl rfl (by intro u hu; simp only [Value.cells, List.mem_cons, List.not_mem_nil, or_false] at hu; rcases hu with rfl | rfl | rfl | rfl | rfl <;> rfl) rfl rfl ?_
 intro hf hg hh iw
 clear bb
 refine lA (.int .i64 ad.2) <| lN <| wS ?_
 replace hst := ((((((((((((((((((((((((((((((hst.grow dx).grow av).grow aw).grow an).grow bq).grow ef).kp eg eh).grow es).grow ax).grow b5).grow e6).kp e7 e8).grow fj).grow ay).grow az).grow cj).grow fu).kp fv fw).grow f7).grow a0).grow a1).grow cu).grow gi).kp gj gk).grow gw).grow a2).grow a3).grow au).grow c9).grow he).kp hg hh
 refine Wp.cut (fun f dk => ∃ (dl : Col) (da : Bool), m_l28_LearnNames_J1 da = some r ∧ St w0 (col0 col) dl dk ∧ f 0 = (.bool da) ∧ f 1000000 = (enc [])) ?_ ?_
 ·intro f dk hJ
  obtain ⟨dl, da, hm, hst, hs0, hs1000000⟩ := hJ
  rw [m_l28_LearnNames_J1.eq_1] at hm
  refine .lD 0 hs0 <| .lD 1000000 hs1000000 ?_
  clear hs0 hs1000000
  refine wret ?_
  cases hm
  exact ⟨rfl, rfl, hst.below⟩
 refine wR <| lM (.bool true) ?_
 refine lg (b := true) 47 rfl rfl rfl rfl ?_
 obtain ⟨al, hi, hm⟩ := bS hm
 refine lc rfl rfl (r_call0 Tryz.call13 ) (c_l28_alive N af _ al hi) ?_
 rintro _ hj ⟨rfl, db⟩
 refine ⟨_, rfl, ?_⟩
 replace db : Grow af hf af hj := .of_below db
 refine lV (.bool al) (r_pickT rfl rfl) <| lM (.bool al) ?_
 replace hst := hst.grow db
 by_cases ag : al = true
 ·rw [if_pos ag] at hm
  refine lg (b := al) 50 rfl rfl rfl (by rw [ag]; rfl) ?_
  refine lM (.int .i64 ad.2) ?_
  refine lg (b := al) 50 rfl rfl rfl (by rw [ag]; rfl) ?_
  refine lV (.bool (decide (ad.2 = 71))) (r_eql ad.2 71 rfl rfl) <| lV (.bool (decide (ad.2 = 71))) (r_pickT (congrArg Value.bool ag) rfl) <| lM (.bool (decide (ad.2 = 71))) ?_
  by_cases ah : (decide (ad.2 = 71)) = true
  ·rw [if_pos ah] at hm
   refine lg (b := decide (ad.2 = 71)) 54 rfl rfl rfl (by rw [ah]; rfl) ?_
   refine lM (.int .i64 aa.2) ?_
   refine lg (b := decide (ad.2 = 71)) 54 rfl rfl rfl (by rw [ah]; rfl) ?_
   refine lV (.bool (decide (aa.2 = 71))) (r_eql aa.2 71 rfl rfl) <| lV (.bool (decide (aa.2 = 71))) (r_pickT (congrArg Value.bool ah) rfl) <| lM (.bool (decide (aa.2 = 71))) ?_
   by_cases ai : (decide (aa.2 = 71)) = true
   ·rw [if_pos ai] at hm
    refine lg (b := decide (aa.2 = 71)) 58 rfl rfl rfl (by rw [ai]; rfl) ?_
    refine lM (.int .i64 ab.2) ?_
    refine lg (b := decide (aa.2 = 71)) 58 rfl rfl rfl (by rw [ai]; rfl) ?_
    refine lV (.bool (decide (ab.2 = 3))) (r_eql ab.2 3 rfl rfl) <| lV (.bool (decide (ab.2 = 3))) (r_pickT (congrArg Value.bool ai) rfl) <| lM (.bool (decide (ab.2 = 3))) ?_
    by_cases aj : (decide (ab.2 = 3)) = true
    ·rw [if_pos aj] at hm
     refine lg (b := decide (ab.2 = 3)) 62 rfl rfl rfl (by rw [aj]; rfl) ?_
     refine lM (.int .i64 ac.2) ?_
     refine lg (b := decide (ab.2 = 3)) 62 rfl rfl rfl (by rw [aj]; rfl) ?_
     refine lV (.bool (decide (ac.2 = 52))) (r_eql ac.2 52 rfl rfl) <| lV (.bool (decide (ac.2 = 52))) (r_pickT (congrArg Value.bool aj) rfl) <| lM (.bool (decide (ac.2 = 52))) ?_
     by_cases ak : (decide (ac.2 = 52)) = true
     ·rw [if_pos ak] at hm
      refine lg (b := decide (ac.2 = 52)) 66 rfl rfl rfl (by rw [ak]; rfl) ?_
      refine lM (.int .i64 ae.2) ?_
      refine lg (b := decide (ac.2 = 52)) 66 rfl rfl rfl (by rw [ak]; rfl) ?_
      refine lV (.bool (decide (ae.2 = 72))) (r_eql ae.2 72 rfl rfl) <| lV (.bool (decide (ae.2 = 72))) (r_pickT (congrArg Value.bool ak) rfl) <| lA (.bool (decide (ae.2 = 72))) <| lN ?_
      exact ⟨af, (decide (ae.2 = 72)), hm, hst, rfl, rfl⟩
     rw [if_neg ak] at hm
     replace ak := Bool.eq_false_iff.2 ak
     refine lp (b := decide (ac.2 = 52)) 66 rfl rfl rfl rfl (by rw [ak]; rfl) ?_
     refine lp (b := decide (ac.2 = 52)) 66 rfl rfl rfl rfl (by rw [ak]; rfl) ?_
     refine lV (.bool false) (r_pickF (congrArg Value.bool ak) rfl) <| lA (.bool false) <| lN ?_
     exact ⟨af, false, hm, hst, rfl, rfl⟩
    rw [if_neg aj] at hm
    replace aj := Bool.eq_false_iff.2 aj
    refine lp (b := decide (ab.2 = 3)) 62 rfl rfl rfl rfl (by rw [aj]; rfl) ?_
    refine lp (b := decide (ab.2 = 3)) 62 rfl rfl rfl rfl (by rw [aj]; rfl) ?_
    refine lV (.bool false) (r_pickF (congrArg Value.bool aj) rfl) <| lM (.bool false) ?_
    refine lp (b := false) 66 rfl rfl rfl rfl rfl ?_
    refine lp (b := false) 66 rfl rfl rfl rfl rfl ?_
    refine lV (.bool false) (r_pickF rfl rfl) <| lA (.bool false) <| lN ?_
    exact ⟨af, false, hm, hst, rfl, rfl⟩
   rw [if_neg ai] at hm
   replace ai := Bool.eq_false_iff.2 ai
   refine lp (b := decide (aa.2 = 71)) 58 rfl rfl rfl rfl (by rw [ai]; rfl) ?_
   refine lp (b := decide (aa.2 = 71)) 58 rfl rfl rfl rfl (by rw [ai]; rfl) ?_
   refine lV (.bool false) (r_pickF (congrArg Value.bool ai) rfl) <| lM (.bool false) ?_
   refine lp (b := false) 62 rfl rfl rfl rfl rfl ?_
   refine lp (b := false) 62 rfl rfl rfl rfl rfl ?_
   refine lV (.bool false) (r_pickF rfl rfl) <| lM (.bool false) ?_
   refine lp (b := false) 66 rfl rfl rfl rfl rfl ?_
   refine lp (b := false) 66 rfl rfl rfl rfl rfl ?_
   refine lV (.bool false) (r_pickF rfl rfl) <| lA (.bool false) <| lN ?_
   exact ⟨af, false, hm, hst, rfl, rfl⟩
  rw [if_neg ah] at hm
  replace ah := Bool.eq_false_iff.2 ah
  refine lp (b := decide (ad.2 = 71)) 54 rfl rfl rfl rfl (by rw [ah]; rfl) ?_
  refine lp (b := decide (ad.2 = 71)) 54 rfl rfl rfl rfl (by rw [ah]; rfl) ?_
  refine lV (.bool false) (r_pickF (congrArg Value.bool ah) rfl) <| lM (.bool false) ?_
  refine lp (b := false) 58 rfl rfl rfl rfl rfl ?_
  refine lp (b := false) 58 rfl rfl rfl rfl rfl ?_
  refine lV (.bool false) (r_pickF rfl rfl) <| lM (.bool false) ?_
  refine lp (b := false) 62 rfl rfl rfl rfl rfl ?_
  refine lp (b := false) 62 rfl rfl rfl rfl rfl ?_
  refine lV (.bool false) (r_pickF rfl rfl) <| lM (.bool false) ?_
  refine lp (b := false) 66 rfl rfl rfl rfl rfl ?_
  refine lp (b := false) 66 rfl rfl rfl rfl rfl ?_
  refine lV (.bool false) (r_pickF rfl rfl) <| lA (.bool false) <| lN ?_
  exact ⟨af, false, hm, hst, rfl, rfl⟩
 rw [if_neg ag] at hm
 replace ag := Bool.eq_false_iff.2 ag
 refine lp (b := al) 50 rfl rfl rfl rfl (by rw [ag]; rfl) ?_
 refine lp (b := al) 50 rfl rfl rfl rfl (by rw [ag]; rfl) ?_
 refine lV (.bool false) (r_pickF (congrArg Value.bool ag) rfl) <| lM (.bool false) ?_
 refine lp (b := false) 54 rfl rfl rfl rfl rfl ?_
 refine lp (b := false) 54 rfl rfl rfl rfl rfl ?_
 refine lV (.bool false) (r_pickF rfl rfl) <| lM (.bool false) ?_
 refine lp (b := false) 58 rfl rfl rfl rfl rfl ?_
 refine lp (b := false) 58 rfl rfl rfl rfl rfl ?_
 refine lV (.bool false) (r_pickF rfl rfl) <| lM (.bool false) ?_
 refine lp (b := false) 62 rfl rfl rfl rfl rfl ?_
 refine lp (b := false) 62 rfl rfl rfl rfl rfl ?_
 refine lV (.bool false) (r_pickF rfl rfl) <| lM (.bool false) ?_
 refine lp (b := false) 66 rfl rfl rfl rfl rfl ?_
 refine lp (b := false) 66 rfl rfl rfl rfl rfl ?_
 refine lV (.bool false) (r_pickF rfl rfl) <| lA (.bool false) <| lN ?_
 exact ⟨af, false, hm, hst, rfl, rfl⟩

end Go.Proofs.YtonkjfnjadofpaaGreat
