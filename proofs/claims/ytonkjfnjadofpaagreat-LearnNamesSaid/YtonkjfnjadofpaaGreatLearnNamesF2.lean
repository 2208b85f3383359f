/-
  What functions of the program compute, as plain Lean functions (m_..), and proofs that they compute it (c_..). Printed by a program of the author; no conditions.
-/
import Derived.Test.YtonkjfnjadofpaaGreatLearnNamesBFloat
import Derived.Test.YtonkjfnjadofpaaGreatProg
import Derived.Test.YtonkjfnjadofpaaGreatLearnNamesBThree
import Derived.Test.YtonkjfnjadofpaaGreatLearnNamesF1
set_option linter.unusedVariables false
set_option maxRecDepth 100000
set_option maxHeartbeats 2000000
namespace Go.Proofs.YtonkjfnjadofpaaGreat
open Go Go.RowKit

def m_nat_Add_J2 (aa : Nat) (kk_L1 : (Nat → (List Int) → Int → Option (List Int))) (ab : List Int) (ac : Int) : Option (List Int) :=
  kk_L1 (aa + 1) ab ac
def m_nat_Add_J3 (aa : Nat) (ab : List Int) (kk_L1 : (Nat → (List Int) → Int → Option (List Int))) (ac : Int) : Option (List Int) :=
  (at? ab (aa : Int)).bind fun ae => (some (ab.set (Int.toNat (aa : Int)) (IntKind.u32.wrap ac))).bind fun ad => m_nat_Add_J2 aa kk_L1 ad (ishr .u64 ac 32)
def m_nat_Add_L1 (N : Nat) (ac : List Int) (ad : List Int) : List Int → Nat → (List Int) → Int → Option (List Int)
  | [], aa, ab, ae => (at? ab (ac.length : Int)).bind fun ak => (some (ab.set (Int.toNat (ac.length : Int)) (IntKind.u32.wrap ae))).bind fun ah => (m_nat_own N ah).bind fun ai => some ai
  | af :: ag, aa, ab, ae => if (decide ((aa : Int) < (ad.length : Int))) = true then ((at? ad (aa : Int)).bind fun aj => m_nat_Add_J3 aa ab (m_nat_Add_L1 N ac ad ag) (IntKind.u64.wrap ((IntKind.u64.wrap (ae + (IntKind.u64.wrap af))) + (IntKind.u64.wrap aj)))) else (m_nat_Add_J3 aa ab (m_nat_Add_L1 N ac ad ag) (IntKind.u64.wrap (ae + (IntKind.u64.wrap af))))
termination_by structural x => x
def m_nat_Add_J1 (N : Nat) (aa : List Int) (ab : List Int) : Option (List Int) :=
  chk ((Int.toNat (IntKind.i64.wrap ((aa.length : Int) + 1))) * 4 ≤ 281474976710656 ∧ (Int.toNat (IntKind.i64.wrap ((aa.length : Int) + 1))) ≤ maxLen ∧ 0 ≤ (IntKind.i64.wrap ((aa.length : Int) + 1))) (m_nat_Add_L1 N aa ab aa 0 (List.replicate (Int.toNat (IntKind.i64.wrap ((aa.length : Int) + 1))) (0 : Int)) 0)
def m_nat_Add (N : Nat) (ac : (List Int)) (ad : (List Int)) : Option (List Int) :=
  (m_nat_trim N ac).bind fun aa => (m_nat_trim N ad).bind fun ab => if (decide ((aa.length : Int) < (ab.length : Int))) = true then (m_nat_Add_J1 N ab aa) else (m_nat_Add_J1 N aa ab)
theorem c_nat_Add (N : Nat) (c1 : Nat) (col : Col) (w0 : World) (a0 : Option Addr) (cap0 : Nat) (aw : (List Int)) (a1 : Option Addr) (cap1 : Nat) (ax : (List Int)) (h0 : Sl (Rep.int .u32) col w0 a0 cap0 aw) (h1 : Sl (Rep.int .u32) col w0 a1 cap1 ax) (r : (List Int)) (hm : m_nat_Add N aw ax = some r) :
    Calls Tryz.prog 125 #[(.slice a0 aw.length cap0), (.slice a1 ax.length cap1)] w0 (fun e w' => ∃ (col' : Col) (ra1 : Option Addr) (rc2 : Nat), e = .returned ((.slice ra1 r.length rc2)) ∧ Grow col w0 col' w' ∧ Own (Rep.int .u32) 114 c1 col' w' ra1 rc2 r) := by
 refine calls_of1 4 (m := 62) (args := [(.slice a0 aw.length cap0), (.slice a1 ax.length cap1)]) Tryz.func125 rfl rfl rfl rfl rfl ?_
 rw [m_nat_Add.eq_1] at hm
 have hst := St.start col w0
 refine wS <| wR <| lA (.slice none (([] : List Int).length) 0) <| lN <| wS <| wR <| lM (.slice a0 aw.length cap0) ?_
 obtain ⟨ao, b5, hm⟩ := bS hm
 replace h0 := h0.keep (Stay.start col w0)
 refine lc rfl rfl (r_call1 Tryz.call88 rfl) (c_nat_trim N (col0 col) _ a0 cap0 aw h0 ao b5) ?_
 rintro _ ci ⟨b6, ay, az, rfl, bu, be⟩
 refine ⟨_, rfl, ?_⟩
 refine lM (.slice a1 ax.length cap1) ?_
 obtain ⟨ap, b7, hm⟩ := bS hm
 replace h1 := (h1.keep (Stay.start col w0)).gr bu
 refine lc rfl rfl (r_call1 Tryz.call88 rfl) (c_nat_trim N b6 _ a1 cap1 ax h1 ap b7) ?_
 rintro _ cj ⟨bv, a2, a3, rfl, bw, bx⟩
 refine ⟨_, rfl, ?_⟩
 refine lA (.slice ay ao.length az) <| lA (.slice a2 ap.length a3) <| lN <| wS ?_
 replace hst := (hst.grow bu).grow bw
 replace be := be.gr bw
 refine Wp.cut (fun f a6 => ∃ (a7 : Col) (ae : Option Addr) (ag : Nat) (aa : List Int) (an : Option Addr) (aq : Nat) (ad : List Int), m_nat_Add_J1 N aa ad = some r ∧ St w0 (col0 col) a7 a6 ∧ Sl (Rep.int .u32) a7 a6 ae ag aa ∧ Sl (Rep.int .u32) a7 a6 an aq ad ∧ f 0 = (.slice ae aa.length ag) ∧ f 1 = (.slice an ad.length aq) ∧ f 1000000 = (enc [])) ?_ ?_
 ·intro f a6 hJ
  obtain ⟨a7, ae, ag, aa, an, aq, ad, hm, hst, ah, aj, hs0, hs1, hs1000000⟩ := hJ
  rw [m_nat_Add_J1.eq_1] at hm
  refine .lD 0 hs0 <| .lD 1 hs1 <| .lD 1000000 hs1000000 ?_
  clear hs0 hs1 hs1000000
  refine wS <| wR <| lM (.slice ae aa.length ag) <| lV (.int .i64 (aa.length : Int)) (r_len Tryz.underlying36 rfl) <| lV (.int .i64 (IntKind.i64.wrap ((aa.length : Int) + 1))) (r_add (aa.length : Int) 1 rfl rfl) ?_
  obtain ⟨bf, hm⟩ := cS hm
  refine l_make (col := a7) (w := a6) (r := (Rep.int .u32)) (n := (Int.toNat (IntKind.i64.wrap ((aa.length : Int) + 1)))) (x0 := 0) 1 rfl Tryz.underlying36 Tryz.t114 rfl rfl rfl rfl rfl (congrArg (Value.int _) (Int.toNat_of_nonneg bf.2.2).symm) (congrArg (Value.int _) (Int.toNat_of_nonneg bf.2.2).symm) bf.1 bf.2.1 (rd_int .u32 0) ?_
  intro bz ck b8 br b9
  refine lA (.slice bz ((List.replicate (Int.toNat (IntKind.i64.wrap ((aa.length : Int) + 1))) (0 : Int)).length) (Int.toNat (IntKind.i64.wrap ((aa.length : Int) + 1)))) <| lN <| wS <| wR <| lA (.int .u64 0) <| lN <| wS <| wS <| wR <| lM (.slice ae aa.length ag) <| lV (.int .i64 (aa.length : Int)) (r_len Tryz.underlying36 rfl) <| lM (.int .i64 0) <| lN <| wB ?_
  replace ah := ah.gr br
  replace aj := aj.gr br
  replace hst := hst.grow br
  refine wloop (fun n f a8 => ∃ (ar : Col) (ab : Nat) (af : Option Addr) (ak : Nat) (am : List Int) (ac : Int) (a9 : List Int), n = a9.length ∧ aa.drop ab = a9 ∧ m_nat_Add_L1 N aa ad a9 ab am ac = some r ∧ St w0 (col0 col) ar a8 ∧ Sl (Rep.int .u32) ar a8 ae ag aa ∧ Sl (Rep.int .u32) ar a8 an aq ad ∧ Own (Rep.int .u32) 114 1 ar a8 af ak am ∧ f 26 = (.int .i64 (ab : Int)) ∧ f 0 = (.slice ae aa.length ag) ∧ f 1 = (.slice an ad.length aq) ∧ f 24 = (.slice ae aa.length ag) ∧ f 25 = (.int .i64 (aa.length : Int)) ∧ f 5 = (.slice af am.length ak) ∧ f 6 = (.int .u64 ac) ∧ f 1000000 = (enc [])) aa.length ⟨b8, 0, bz, (Int.toNat (IntKind.i64.wrap ((aa.length : Int) + 1))), (List.replicate (Int.toNat (IntKind.i64.wrap ((aa.length : Int) + 1))) (0 : Int)), 0, aa, rfl, rfl, hm, hst, ah, aj, b9, rfl, rfl, rfl, rfl, rfl, rfl, rfl, rfl⟩ ?_
  clear hm; intro n f a8 hI
  obtain ⟨ar, ab, af, ak, am, ac, a9, hn, hl, hm, hst, ah, aj, au, hs26, hs0, hs1, hs24, hs25, hs5, hs6, hs1000000⟩ := hI
  subst hn
  refine .lD 26 hs26 <| .lD 0 hs0 <| .lD 1 hs1 <| .lD 24 hs24 <| .lD 25 hs25 <| .lD 5 hs5 <| .lD 6 hs6 <| .lD 1000000 hs1000000 ?_
  clear hs26 hs0 hs1 hs24 hs25 hs5 hs6 hs1000000
  cases a9 with
  | nil =>
   have hk : ¬ ((ab : Int) < (aa.length : Int)) := by have := List.drop_eq_nil_iff.1 hl; omega
   have hkb := decide_eq_false hk
   rw [m_nat_Add_L1.eq_1] at hm
   refine wS <| wR <| lV (.bool (decide ((ab : Int) < (aa.length : Int)))) (r_lss (ab : Int) (aa.length : Int) rfl rfl) <| lN <| wS ?_
   refine wcondF (congrArg Value.bool hkb) ?_
   refine wexit (inB_hit ?_)
   refine wS <| wR <| lM (.slice af am.length ak) <| lM (.slice ae aa.length ag) <| lV (.int .i64 (aa.length : Int)) (r_len Tryz.underlying36 rfl) <| lM (.int .u64 ac) <| lV (.int .u32 (IntKind.u32.wrap ac)) (r_conv ac ⟨_, Tryz.underlying108⟩ Tryz.underlying114 rfl) ?_
   obtain ⟨cl, bg, hm⟩ := bS hm
   refine lV (sptr af (Int.toNat (aa.length : Int) * 1)) (r_idx Tryz.underlying36 Tryz.sizeOf114 rfl rfl (at?_some bg).1 (at?_some bg).2.1 (au.addr bg)) ?_
   obtain ⟨ba, bh, hm⟩ := bS hm
   have bh : ba = am.set (Int.toNat (aa.length : Int)) (IntKind.u32.wrap ac) := (Option.some.inj bh).symm
   refine l_store (x1 := IntKind.u32.wrap ac) (v := (.int .u32 (IntKind.u32.wrap ac))) au bg rfl Tryz.sizeOf114 (rd_int .u32 (IntKind.u32.wrap ac)) rfl rfl (by decide) ?_
   intro ca cb cc b0
   rw [← bh] at b0
   refine .ld (d := 5) (v := (.slice af ba.length ak)) (congrArg (fun n => Value.slice af n ak) (show am.length = ba.length by rw [bh, List.length_set])) ?_
   clear au
   refine lN <| wS <| wR <| lM (.slice af ba.length ak) ?_
   obtain ⟨b1, cd, hm⟩ := bS hm
   refine lc rfl rfl (r_call1 Tryz.call89 rfl) (c_nat_own N 2 (frC 1 ar) _ af ak ba (b0.toSlF (Froz.int .u32)) b1 cd) ?_
   rintro _ cm ⟨ce, b2, b3, rfl, bi, bs⟩
   refine ⟨_, rfl, ?_⟩
   replace bs := bs.thaw (flat_int .u32) bi ((Fz.refl (col := ar)).froz 1) (by decide)
   replace bi := bi.thawR (col := ar)
   generalize colR ca.heap.size ar ce = cf at *
   refine lA (.slice b2 b1.length b3) <| lN ?_
   refine wret ?_
   cases hm
   replace hst := (hst.kp cb cc).grow bi
   exact ⟨rfl, colF w0.heap.size col cf (fun n => bif Nat.beq n 2 then c1 else 0), b2, b3, rfl, hst.fin (fun n => bif Nat.beq n 2 then c1 else 0), hst.finOwn (g := (fun n => bif Nat.beq n 2 then c1 else 0)) rfl bs (by decide) (by decide) rfl⟩
  | cons al bj =>
   obtain ⟨hat, hl2_L1, hlt_L1⟩ := drop_get hl
   have hk : (ab : Int) < (aa.length : Int) := by omega
   have hkb := decide_eq_true hk
   rw [m_nat_Add_L1.eq_2] at hm
   refine wS <| wR <| lV (.bool (decide ((ab : Int) < (aa.length : Int)))) (r_lss (ab : Int) (aa.length : Int) rfl rfl) <| lN <| wS ?_
   refine wcondT (congrArg Value.bool hkb) ?_
   refine wK <| wS ?_
   refine Wp.cut (fun f bb => ∃ (a4 : Col) (bk : Option Addr) (bl : Nat) (bc : List Int) (bm : Int), m_nat_Add_J2 ab (m_nat_Add_L1 N aa ad bj) bc bm = some r ∧ St w0 (col0 col) a4 bb ∧ Sl (Rep.int .u32) a4 bb ae ag aa ∧ Sl (Rep.int .u32) a4 bb an aq ad ∧ Own (Rep.int .u32) 114 1 a4 bb bk bl bc ∧ f 0 = (.slice ae aa.length ag) ∧ f 1 = (.slice an ad.length aq) ∧ f 24 = (.slice ae aa.length ag) ∧ f 25 = (.int .i64 (aa.length : Int)) ∧ f 26 = (.int .i64 (ab : Int)) ∧ f 5 = (.slice bk bc.length bl) ∧ f 6 = (.int .u64 bm) ∧ f 1000000 = (enc [])) ?_ ?_
   ·intro f bb hJ
    obtain ⟨a4, bk, bl, bc, bm, hm, hst, ah, aj, cg, hs0, hs1, hs24, hs25, hs26, hs5, hs6, hs1000000⟩ := hJ
    rw [m_nat_Add_J2.eq_1] at hm
    refine .lD 0 hs0 <| .lD 1 hs1 <| .lD 24 hs24 <| .lD 25 hs25 <| .lD 26 hs26 <| .lD 5 hs5 <| .lD 6 hs6 <| .lD 1000000 hs1000000 ?_
    clear hs0 hs1 hs24 hs25 hs26 hs5 hs6 hs1000000
    refine wR <| lV (.int .i64 (IntKind.i64.wrap ((ab : Int) + 1))) (r_add (ab : Int) 1 rfl rfl) <| lM (.int .i64 (IntKind.i64.wrap ((ab : Int) + 1))) <| lN ?_
    exact ⟨bj.length, by simp, ⟨a4, (ab + 1), bk, bl, bc, bm, bj, rfl, hl2_L1, hm, hst, ah, aj, cg, (congrArg (Value.int .i64) (wrap_succ (Nat.lt_of_lt_of_le hlt_L1 ah.1.1))), rfl, rfl, rfl, rfl, rfl, rfl, rfl⟩⟩
   refine wB <| wS <| wR <| lM (.int .i64 (ab : Int)) ?_
   refine lV (sptr ae (Int.toNat (ab : Int) * 1)) (r_idx Tryz.underlying36 Tryz.sizeOf114 rfl rfl (at?_some hat).1 (at?_some hat).2.1 (ah.addr hat)) ?_
   refine lV (.int .u32 al) (r_ld Tryz.isAgg114 rfl (ah.atInt hat)) <| lA (.int .i64 (ab : Int)) <| lA (.int .u32 al) <| lN <| wS <| wR <| lM (.int .u64 ac) <| lM (.int .u32 al) <| lV (.int .u64 (IntKind.u64.wrap al)) (r_conv al ⟨_, Tryz.underlying114⟩ Tryz.underlying108 rfl) <| lV (.int .u64 (IntKind.u64.wrap (ac + (IntKind.u64.wrap al)))) (r_add ac (IntKind.u64.wrap al) rfl rfl) <| lA (.int .u64 (IntKind.u64.wrap (ac + (IntKind.u64.wrap al)))) <| lN <| wS ?_
   refine Wp.cut (fun f bd => ∃ (a5 : Col) (ai : Int), m_nat_Add_J3 ab am (m_nat_Add_L1 N aa ad bj) ai = some r ∧ St w0 (col0 col) a5 bd ∧ Sl (Rep.int .u32) a5 bd ae ag aa ∧ Sl (Rep.int .u32) a5 bd an aq ad ∧ Own (Rep.int .u32) 114 1 a5 bd af ak am ∧ f 0 = (.slice ae aa.length ag) ∧ f 1 = (.slice an ad.length aq) ∧ f 24 = (.slice ae aa.length ag) ∧ f 25 = (.int .i64 (aa.length : Int)) ∧ f 26 = (.int .i64 (ab : Int)) ∧ f 5 = (.slice af am.length ak) ∧ f 6 = (.int .u64 ai) ∧ f 7 = (.int .i64 (ab : Int)) ∧ f 1000000 = (enc [])) ?_ ?_
   ·intro f bd hJ
    obtain ⟨a5, ai, hm, hst, ah, aj, au, hs0, hs1, hs24, hs25, hs26, hs5, hs6, hs7, hs1000000⟩ := hJ
    rw [m_nat_Add_J3.eq_1] at hm
    refine .lD 0 hs0 <| .lD 1 hs1 <| .lD 24 hs24 <| .lD 25 hs25 <| .lD 26 hs26 <| .lD 5 hs5 <| .lD 6 hs6 <| .lD 7 hs7 <| .lD 1000000 hs1000000 ?_
    clear hs0 hs1 hs24 hs25 hs26 hs5 hs6 hs7 hs1000000
    refine wS <| wR <| lM (.slice af am.length ak) <| lM (.int .i64 (ab : Int)) <| lM (.int .u64 ai) <| lV (.int .u32 (IntKind.u32.wrap ai)) (r_conv ai ⟨_, Tryz.underlying108⟩ Tryz.underlying114 rfl) ?_
    obtain ⟨cn, bn, hm⟩ := bS hm
    refine lV (sptr af (Int.toNat (ab : Int) * 1)) (r_idx Tryz.underlying36 Tryz.sizeOf114 rfl rfl (at?_some bn).1 (at?_some bn).2.1 (au.addr bn)) ?_
    obtain ⟨bo, bp, hm⟩ := bS hm
    have bp : bo = am.set (Int.toNat (ab : Int)) (IntKind.u32.wrap ai) := (Option.some.inj bp).symm
    refine l_store (x1 := IntKind.u32.wrap ai) (v := (.int .u32 (IntKind.u32.wrap ai))) au bn rfl Tryz.sizeOf114 (rd_int .u32 (IntKind.u32.wrap ai)) rfl rfl (by decide) ?_
    intro co bt ch b4
    rw [← bp] at b4
    refine .ld (d := 5) (v := (.slice af bo.length ak)) (congrArg (fun n => Value.slice af n ak) (show am.length = bo.length by rw [bp, List.length_set])) ?_
    clear au
    refine lN <| wR <| lM (.int .u64 ai) <| lV (.int .u64 (ishr .u64 ai 32)) (r_shr ai 32 rfl rfl (by decide)) <| lA (.int .u64 (ishr .u64 ai 32)) <| lN ?_
    replace ah := ah.kp bt
    replace aj := aj.kp bt
    replace hst := hst.kp bt ch
    exact ⟨a5, af, ak, bo, (ishr .u64 ai 32), hm, hst, ah, aj, b4, rfl, rfl, rfl, rfl, rfl, rfl, rfl, rfl⟩
   refine wS <| wR <| lM (.int .i64 (ab : Int)) <| lM (.slice an ad.length aq) <| lV (.int .i64 (ad.length : Int)) (r_len Tryz.underlying36 rfl) <| lV (.bool (decide ((ab : Int) < (ad.length : Int)))) (r_lss (ab : Int) (ad.length : Int) rfl rfl) <| lN ?_
   refine wcond (decide ((ab : Int) < (ad.length : Int))) rfl (fun hb => ?_) (fun hb => ?_)
   ·rw [if_pos hb] at hm
    clear hb
    refine wR <| lM (.int .u64 (IntKind.u64.wrap (ac + (IntKind.u64.wrap al)))) <| lM (.slice an ad.length aq) <| lM (.int .i64 (ab : Int)) ?_
    obtain ⟨av, bq, hm⟩ := bS hm
    refine lV (sptr an (Int.toNat (ab : Int) * 1)) (r_idx Tryz.underlying36 Tryz.sizeOf114 rfl rfl (at?_some bq).1 (at?_some bq).2.1 (aj.addr bq)) ?_
    refine lV (.int .u32 av) (r_ld Tryz.isAgg114 rfl (aj.atInt bq)) <| lV (.int .u64 (IntKind.u64.wrap av)) (r_conv av ⟨_, Tryz.underlying114⟩ Tryz.underlying108 rfl) <| lV (.int .u64 (IntKind.u64.wrap ((IntKind.u64.wrap (ac + (IntKind.u64.wrap al))) + (IntKind.u64.wrap av)))) (r_add (IntKind.u64.wrap (ac + (IntKind.u64.wrap al))) (IntKind.u64.wrap av) rfl rfl) <| lA (.int .u64 (IntKind.u64.wrap ((IntKind.u64.wrap (ac + (IntKind.u64.wrap al))) + (IntKind.u64.wrap av)))) <| lN ?_
    exact ⟨ar, (IntKind.u64.wrap ((IntKind.u64.wrap (ac + (IntKind.u64.wrap al))) + (IntKind.u64.wrap av))), hm, hst, ah, aj, au, rfl, rfl, rfl, rfl, rfl, rfl, rfl, rfl, rfl⟩
   rw [if_neg (by rw [hb]; decide)] at hm
   clear hb
   refine wK ?_
   exact ⟨ar, (IntKind.u64.wrap (ac + (IntKind.u64.wrap al))), hm, hst, ah, aj, au, rfl, rfl, rfl, rfl, rfl, rfl, rfl, rfl, rfl⟩
 refine wS <| wR <| lM (.slice ay ao.length az) <| lV (.int .i64 (ao.length : Int)) (r_len Tryz.underlying36 rfl) <| lM (.slice a2 ap.length a3) <| lV (.int .i64 (ap.length : Int)) (r_len Tryz.underlying36 rfl) <| lV (.bool (decide ((ao.length : Int) < (ap.length : Int)))) (r_lss (ao.length : Int) (ap.length : Int) rfl rfl) <| lN ?_
 refine wcond (decide ((ao.length : Int) < (ap.length : Int))) rfl (fun hb => ?_) (fun hb => ?_)
 ·rw [if_pos hb] at hm
  clear hb
  refine wR <| lM (.slice a2 ap.length a3) <| lM (.slice ay ao.length az) <| lA (.slice a2 ap.length a3) <| lA (.slice ay ao.length az) <| lN ?_
  exact ⟨bv, a2, a3, ap, ay, az, ao, hm, hst, bx, be, rfl, rfl, rfl⟩
 rw [if_neg (by rw [hb]; decide)] at hm
 clear hb
 refine wK ?_
 exact ⟨bv, ay, az, ao, a2, a3, ap, hm, hst, be, bx, rfl, rfl, rfl⟩
def m_whole_Add (N : Nat) (aa : (Bool × (List Int))) (ab : (Bool × (List Int))) : Option (Bool × (List Int)) :=
  if (decide (aa.1 = ab.1)) = true then ((m_nat_Add N aa.2 ab.2).bind fun ad => (m_whole_of N aa.1 ad).bind fun ac => some (ac.1, ac.2)) else none
theorem c_whole_Add (N : Nat) (c1 : Nat) (col : Col) (w0 : World) (ae : Option Addr) (af : Nat) (aa : (Bool × (List Int))) (ag : Option Addr) (ah : Nat) (ab : (Bool × (List Int))) (ao : Sl (Rep.int .u32) col w0 ae af aa.2) (ap : Sl (Rep.int .u32) col w0 ag ah ab.2) (r : (Bool × (List Int))) (hm : m_whole_Add N aa ab = some r) :
    Calls Tryz.prog 80 #[(.agg #[(.bool aa.1), (.slice ae aa.2.length af)]), (.agg #[(.bool ab.1), (.slice ag ab.2.length ah)])] w0 (fun e w' => ∃ (col' : Col) (ra1 : Option Addr) (rc2 : Nat), e = .returned ((.agg #[(.bool r.1), (.slice ra1 r.2.length rc2)])) ∧ Grow col w0 col' w' ∧ Own (Rep.int .u32) 114 c1 col' w' ra1 rc2 r.2) := by
 refine calls_ofR (m := 47) (args := [(.agg #[(.bool aa.1), (.slice ae aa.2.length af)]), (.agg #[(.bool ab.1), (.slice ag ab.2.length ah)])]) Tryz.func80 rfl rfl rfl ?_
 rw [m_whole_Add.eq_1] at hm
 have hst := St.start col w0
 refine wS <| wR ?_
 refine l_box (col := (col0 col)) (v := (.agg #[(.bool aa.1), (.slice ae aa.2.length af)])) 1 rfl rfl ?_
 intro av bd a4 ax ak
 replace ak : Box 38 1 a4 bd av #[(.bool aa.1), (.slice ae aa.2.length af)] := ak
 refine l_box (col := a4) (v := (.agg #[(.bool ab.1), (.slice ag ab.2.length ah)])) 2 rfl rfl ?_
 intro ay be a5 aw am
 replace am : Box 38 2 a5 be ay #[(.bool ab.1), (.slice ag ab.2.length ah)] := am
 refine l_alloc (col := a5) (v := (.agg #[(.bool false), (.slice none (([] : List Int).length) 0)])) 3 rfl Tryz.zeroValue38 ?_
 intro a6 a7 ai aq ac
 replace ac : Box 38 3 ai a7 a6 #[(.bool false), (.slice none (([] : List Int).length) 0)] := ac
 refine lN <| wS <| wS <| wR <| lV (.pointer ((some (⟨av, 0, none⟩ : Addr)).map (·.add 0))) (rF (sz := 1) (off := 0) Tryz.underlying38 rfl Tryz.sizeOf4 (by decide) rfl rfl ⟨_, _, rfl⟩) ?_
 replace ak := (ak.gr aw).gr aq
 refine lV (.bool aa.1) (r_ld Tryz.isAgg4 rfl ((ak.atN).nth (q := 0) (v := (.bool aa.1)) rfl)) <| lV (.pointer ((some (⟨ay, 0, none⟩ : Addr)).map (·.add 0))) (rF (sz := 1) (off := 0) Tryz.underlying38 rfl Tryz.sizeOf4 (by decide) rfl rfl ⟨_, _, rfl⟩) ?_
 replace am := am.gr aq
 refine lV (.bool ab.1) (r_ld Tryz.isAgg4 rfl ((am.atN).nth (q := 0) (v := (.bool ab.1)) rfl)) <| lV (.bool (decide (aa.1 = ab.1))) (r_eqlB aa.1 ab.1 Tryz.underlying4 rfl rfl) <| lN ?_
 replace ao := (((ao.keep (Stay.start col w0)).gr ax).gr aw).gr aq
 replace ap := (((ap.keep (Stay.start col w0)).gr ax).gr aw).gr aq
 replace hst := ((hst.grow ax).grow aw).grow aq
 refine wcond (decide (aa.1 = ab.1)) rfl (fun hb => ?_) (fun hb => ?_)
 ·rw [if_pos hb] at hm
  clear hb
  refine wS ?_
  refine wmix (col := ai) [(0, 1), (1, 0), (2, 1), (3, 0), (4, 1), (5, 0), (6, 3), (7, 3), (8, 2)] (by kernel_rfl) (by kernel_rfl) ?_
  refine xu (v := (.pointer ((some (⟨av, 0, none⟩ : Addr)).map (·.add 0)))) rfl rfl (fun _ => rF (sz := 1) (off := 0) Tryz.underlying38 rfl Tryz.sizeOf4 (by decide) rfl rfl ⟨_, _, rfl⟩) ?_
  refine xv (v := (.bool aa.1)) rfl rfl (fun _ hC => r_ld Tryz.isAgg4 rfl (((ak.atN).nth (q := 0) (v := (.bool aa.1)) rfl).gr (Grow.of_below (col := ai) hC.below))) ?_
  refine xu (v := (.pointer ((some (⟨av, 0, none⟩ : Addr)).map (·.add 1)))) rfl rfl (fun _ => rF (sz := 1) (off := 1) Tryz.underlying38 rfl Tryz.sizeOf36 (by decide) rfl rfl ⟨_, _, rfl⟩) ?_
  refine xv (v := (.slice ae aa.2.length af)) rfl rfl (fun _ hC => r_ld Tryz.isAgg36 rfl (((ak.atN).nth (q := 1) (v := (.slice ae aa.2.length af)) rfl).gr (Grow.of_below (col := ai) hC.below))) ?_
  refine xu (v := (.pointer ((some (⟨ay, 0, none⟩ : Addr)).map (·.add 1)))) rfl rfl (fun _ => rF (sz := 1) (off := 1) Tryz.underlying38 rfl Tryz.sizeOf36 (by decide) rfl rfl ⟨_, _, rfl⟩) ?_
  refine xv (v := (.slice ag ab.2.length ah)) rfl rfl (fun _ hC => r_ld Tryz.isAgg36 rfl (((am.atN).nth (q := 1) (v := (.slice ag ab.2.length ah)) rfl).gr (Grow.of_below (col := ai) hC.below))) ?_
  refine xe rfl rfl ?_
  intro bf hC0
  have hC : Grow ai a7 ai bf := .of_below hC0.below
  obtain ⟨a8, bg, hm⟩ := bS hm
  replace ao := ao.gr hC
  replace ap := ap.gr hC
  refine lc rfl rfl (r_call2 Tryz.call125 rfl rfl) (c_nat_Add N 4 ai _ ae af aa.2 ag ah ab.2 ao ap a8 bg) ?_
  rintro _ a9 ⟨aj, bh, bi, rfl, az, a0⟩
  refine ⟨_, rfl, ?_⟩
  refine lN ⟨fun w' => Grow aj a9 aj w', Grow.refl _ _, fun _ _ h => cls hC0 az h, ?_⟩
  refine xe rfl rfl ?_
  intro ba hC0
  replace ac := (ac.gr hC).gr az
  replace hst := (hst.grow hC).grow az
  have hC : Grow aj a9 aj ba := .of_below hC0.below
  obtain ⟨ar, bj, hm⟩ := bS hm
  replace a0 := a0.gr hC
  refine lc rfl rfl (r_call2 Tryz.call112 rfl rfl) (c_whole_of N 5 (frC 4 aj) _ aa.1 bh bi a8 (a0.toSlF (Froz.int .u32)) ar bj) ?_
  rintro _ bb ⟨bk, a1, a2, rfl, an, al⟩
  refine ⟨_, rfl, ?_⟩
  replace al := al.thaw (flat_int .u32) an ((Fz.refl (col := aj)).froz 4) (by decide)
  replace an := an.thawR (col := aj)
  generalize colR ba.heap.size aj bk = ad at *
  refine lN ⟨fun w' => Grow ad bb ad w', Grow.refl _ _, fun _ _ h => cls hC0 an h, ?_⟩
  refine xe rfl rfl ?_
  intro bl hC0
  replace ac := (ac.gr hC).gr an
  replace hst := (hst.grow hC).grow an
  have hC : Grow ad bb ad bl := .of_below hC0.below
  replace ac := ac.gr hC
  refine l_bstore (v := (.agg #[(.bool ar.1), (.slice a1 ar.2.length a2)])) ac Tryz.sizeOf38 rfl rfl (by intro u hu; simp only [Value.cells, List.mem_cons, List.not_mem_nil, or_false] at hu; rcases hu with rfl | rfl <;> rfl) rfl rfl ?_
  intro a3 bc bm au
  clear ac
  replace au : Box 38 3 ad a3 a6 #[(.bool ar.1), (.slice a1 ar.2.length a2)] := au
  refine lN ⟨fun w' => Grow ad a3 ad w', Grow.refl _ _, fun h => absurd h (by decide), ?_⟩
  refine xnil ?_
  replace al := (al.gr hC).kp bc
  replace hst := (hst.grow hC).kp bc bm
  intro bn hC
  replace hC : Grow ad a3 ad bn := .of_below hC.below
  refine wret ?_
  cases hm
  replace al := al.gr hC
  replace au := au.gr hC
  replace hst := hst.grow hC
  exact ⟨rfl, _, res_a rfl rfl Tryz.isAgg38 Tryz.sizeOf38 rfl rfl au.atN, colF w0.heap.size col ad (fun n => bif Nat.beq n 5 then c1 else 0), a1, a2, rfl, hst.fin (fun n => bif Nat.beq n 5 then c1 else 0), hst.finOwn (g := (fun n => bif Nat.beq n 5 then c1 else 0)) rfl al (by decide) (by decide) rfl⟩
 rw [if_neg (by rw [hb]; decide)] at hm
 clear hb
 cases hm
def m_frac_Add (N : Nat) (aa : ((Bool × (List Int)) × (List Int))) (ab : ((Bool × (List Int)) × (List Int))) : Option ((Bool × (List Int)) × (List Int)) :=
  (m_frac_under N ((ab.1.1, ab.1.2), ab.2)).bind fun ag => (m_frac_over N (aa.1.1, aa.1.2) ag).bind fun ad => (m_frac_under N ((aa.1.1, aa.1.2), aa.2)).bind fun ah => (m_frac_over N (ab.1.1, ab.1.2) ah).bind fun ae => (m_whole_Add N (ad.1, ad.2) (ae.1, ae.2)).bind fun af => (m_frac_under N ((aa.1.1, aa.1.2), aa.2)).bind fun ai => (m_frac_under N ((ab.1.1, ab.1.2), ab.2)).bind fun aj => (m_nat_Mul N ai aj).bind fun ak => (m_frac_lowest N af.1 af.2 ak).bind fun ac => some ((ac.1.1, ac.1.2), ac.2)
theorem c_frac_Add (N : Nat) (c1 : Nat) (c2 : Nat) (col : Col) (w0 : World) (ax : Option Addr) (ay : Nat) (bc : Option Addr) (bd : Nat) (aa : ((Bool × (List Int)) × (List Int))) (az : Option Addr) (a0 : Nat) (be : Option Addr) (bf : Nat) (ab : ((Bool × (List Int)) × (List Int))) (ak : Sl (Rep.int .u32) col w0 ax ay aa.1.2) (al : Sl (Rep.int .u32) col w0 bc bd aa.2) (af : Sl (Rep.int .u32) col w0 az a0 ab.1.2) (ai : Sl (Rep.int .u32) col w0 be bf ab.2) (r : ((Bool × (List Int)) × (List Int))) (hm : m_frac_Add N aa ab = some r) :
    Calls Tryz.prog 27 #[(.agg #[(.bool aa.1.1), (.slice ax aa.1.2.length ay), (.slice bc aa.2.length bd)]), (.agg #[(.bool ab.1.1), (.slice az ab.1.2.length a0), (.slice be ab.2.length bf)])] w0 (fun e w' => ∃ (col' : Col) (ra1 : Option Addr) (rc2 : Nat) (ra4 : Option Addr) (rc5 : Nat), e = .returned ((.agg #[(.bool r.1.1), (.slice ra1 r.1.2.length rc2), (.slice ra4 r.2.length rc5)])) ∧ Grow col w0 col' w' ∧ Own (Rep.int .u32) 114 c1 col' w' ra1 rc2 r.1.2 ∧ Own (Rep.int .u32) 114 c2 col' w' ra4 rc5 r.2) := by
 refine calls_ofR (m := 27) (args := [(.agg #[(.bool aa.1.1), (.slice ax aa.1.2.length ay), (.slice bc aa.2.length bd)]), (.agg #[(.bool ab.1.1), (.slice az ab.1.2.length a0), (.slice be ab.2.length bf)])]) Tryz.func27 rfl rfl rfl ?_
 rw [m_frac_Add.eq_1] at hm
 have hst := St.start col w0
 refine wS <| wR ?_
 refine l_box (col := (col0 col)) (v := (.agg #[(.bool aa.1.1), (.slice ax aa.1.2.length ay), (.slice bc aa.2.length bd)])) 1 rfl rfl ?_
 intro cm c9 cn b1 ag
 replace ag : Box 40 1 cn c9 cm #[(.bool aa.1.1), (.slice ax aa.1.2.length ay), (.slice bc aa.2.length bd)] := ag
 refine l_box (col := cn) (v := (.agg #[(.bool ab.1.1), (.slice az ab.1.2.length a0), (.slice be ab.2.length bf)])) 2 rfl rfl ?_
 intro co da cp bx ah
 replace ah : Box 40 2 cp da co #[(.bool ab.1.1), (.slice az ab.1.2.length a0), (.slice be ab.2.length bf)] := ah
 refine l_alloc (col := cp) (v := (.agg #[(.bool false), (.slice none (([] : List Int).length) 0), (.slice none (([] : List Int).length) 0)])) 3 rfl Tryz.zeroValue40 ?_
 intro cq a3 a4 bq ac
 replace ac : Box 40 3 a4 a3 cq #[(.bool false), (.slice none (([] : List Int).length) 0), (.slice none (([] : List Int).length) 0)] := ac
 refine lN <| wS ?_
 have bo := KeepP.clip (fun _ => false) a4 a3
 refine wmixF (col := a4) [(0, 1), (1, 0), (2, 0), (5, 1), (6, 0), (7, 0), (3, 3), (4, 3), (8, 3), (9, 3), (10, 3), (11, 4), (12, 2)] (by kernel_rfl) (by kernel_rfl) ⟨fun h => absurd h (by decide), fun h => absurd h (by decide), fun h => absurd h (by decide), fun h => absurd h (by decide), fun h => absurd h (by decide), fun h => absurd h (by decide), fun h => absurd h (by decide), fun h => absurd h (by decide), fun h => absurd h (by decide), fun h => absurd h (by decide), fun h => absurd h (by decide), fun _ => ⟨_, _, _, rfl, free_alloc Tryz.zeroValue38⟩, fun h => absurd h (by decide), trivial⟩ ?_
 refine xuF (v := (.pointer ((some (⟨cm, 0, none⟩ : Addr)).map (·.add 0)))) rfl rfl (fun _ => rF (sz := 2) (off := 0) Tryz.underlying40 rfl Tryz.sizeOf38 (by decide) rfl rfl ⟨_, _, rfl⟩) ?_
 replace ag := ((ag.gr bx).gr bq).kpp bo
 refine xvF (v := (.agg #[(.bool aa.1.1), (.slice ax aa.1.2.length ay)])) rfl rfl (fun _ hC => r_ldN Tryz.isAgg38 Tryz.sizeOf38 rfl rfl (((ag.atN).part 0 2 _ rfl).gr (Grow.of_below (col := (clipC a3 a4)) hC.below))) ?_
 replace ah := (ah.gr bq).kpp bo
 refine xvF (v := (.agg #[(.bool ab.1.1), (.slice az ab.1.2.length a0), (.slice be ab.2.length bf)])) rfl rfl (fun _ hC => r_ldN Tryz.isAgg40 Tryz.sizeOf40 rfl rfl (ah.atN.gr (Grow.of_below (col := (clipC a3 a4)) hC.below))) ?_
 refine xuF (v := (.pointer ((some (⟨co, 0, none⟩ : Addr)).map (·.add 0)))) rfl rfl (fun _ => rF (sz := 2) (off := 0) Tryz.underlying40 rfl Tryz.sizeOf38 (by decide) rfl rfl ⟨_, _, rfl⟩) ?_
 refine xvF (v := (.agg #[(.bool ab.1.1), (.slice az ab.1.2.length a0)])) rfl rfl (fun _ hC => r_ldN Tryz.isAgg38 Tryz.sizeOf38 rfl rfl (((ah.atN).part 0 2 _ rfl).gr (Grow.of_below (col := (clipC a3 a4)) hC.below))) ?_
 refine xvF (v := (.agg #[(.bool aa.1.1), (.slice ax aa.1.2.length ay), (.slice bc aa.2.length bd)])) rfl rfl (fun _ hC => r_ldN Tryz.isAgg40 Tryz.sizeOf40 rfl rfl (ag.atN.gr (Grow.of_below (col := (clipC a3 a4)) hC.below))) ?_
 refine xeF rfl rfl ?_
 intro db hC0
 have hC : Grow (clipC a3 a4) a3 (clipC a3 a4) db := .of_below hC0.below
 obtain ⟨cr, dc, hm⟩ := bS hm
 replace af := (((((af.keep (Stay.start col w0)).gr b1).gr bx).gr bq).kpp bo).gr hC
 replace ai := (((((ai.keep (Stay.start col w0)).gr b1).gr bx).gr bq).kpp bo).gr hC
 refine lc rfl rfl (r_call1 Tryz.call56 rfl) (c_frac_under N 4 (clipC a3 a4) _ az a0 be bf ((ab.1.1, ab.1.2), ab.2) af ai cr dc) ?_
 rintro _ ar ⟨a5, dd, de, rfl, a1, cb⟩
 refine ⟨_, rfl, ?_⟩
 refine lN ⟨fun w' => Grow (clipC ar a5) ar (clipC ar a5) w', fun g => (clipC ar a5) g = 497, Grow.refl _ _, good_clip, fun _ => ⟨fun _ h => cls hC0 a1 h, fun b hb => a1.below.block b hb, fun g h1 h2 => fcl a1 g h1 (by first | exact h2 | (simp only [frC, rcC, h2]; rfl))⟩, ?_⟩
 have bg := KeepP.clip (fun _ => false) a5 ar
 refine xeF rfl rfl ?_
 intro cs hC0
 replace ak := (((((((ak.keep (Stay.start col w0)).gr b1).gr bx).gr bq).kpp bo).gr hC).gr a1).kpp bg
 replace al := (((((((al.keep (Stay.start col w0)).gr b1).gr bx).gr bq).kpp bo).gr hC).gr a1).kpp bg
 replace hst := ((((((hst.grow b1).grow bx).grow bq).kpp bo).grow hC).grow a1).kpp bg
 replace ac := (((ac.kpp bo).gr hC).gr a1).kpp bg
 replace ag := ((ag.gr hC).gr a1).kpp bg
 replace ah := ((ah.gr hC).gr a1).kpp bg
 have hC : Grow (clipC ar a5) ar (clipC ar a5) cs := .of_below hC0.below
 obtain ⟨cc, df, hm⟩ := bS hm
 replace cb := (cb.kpp bg).gr hC
 replace ak := ak.gr hC
 refine lc rfl rfl (r_call2 Tryz.call81 rfl rfl) (c_frac_over N 5 (frC 4 (clipC ar a5)) _ ax ay (aa.1.1, aa.1.2) dd de cr (ak.froz 4) (cb.toSlF (Froz.int .u32)) cc df) ?_
 rintro _ bh ⟨dg, dh, di, rfl, ap, bi⟩
 refine ⟨_, rfl, ?_⟩
 replace bi := bi.thaw (flat_int .u32) ap ((Fz.refl (col := (clipC ar a5))).froz 4) (by decide)
 replace ap := ap.thawR (col := (clipC ar a5))
 generalize colR cs.heap.size (clipC ar a5) dg = br at *
 refine lN ⟨fun w' => Grow (clipC bh br) bh (clipC bh br) w', fun g => (clipC bh br) g = 497, Grow.refl _ _, good_clip, fun _ => ⟨fun _ h => cls hC0 ap h, fun b hb => ap.below.block b hb, fun g h1 h2 => fcl ap g h1 (by first | exact h2 | (simp only [frC, rcC, h2]; rfl))⟩, ?_⟩
 have bj := KeepP.clip (fun _ => false) br bh
 refine xeF rfl rfl ?_
 intro dj hC0
 replace af := ((((af.gr a1).kpp bg).gr hC).gr ap).kpp bj
 replace ai := ((((ai.gr a1).kpp bg).gr hC).gr ap).kpp bj
 replace al := ((al.gr hC).gr ap).kpp bj
 replace ag := ((ag.gr hC).gr ap).kpp bj
 replace ah := ((ah.gr hC).gr ap).kpp bj
 replace ac := ((ac.gr hC).gr ap).kpp bj
 replace hst := ((hst.grow hC).grow ap).kpp bj
 have hC : Grow (clipC bh br) bh (clipC bh br) dj := .of_below hC0.below
 obtain ⟨ct, dk, hm⟩ := bS hm
 replace ak := ((ak.gr ap).kpp bj).gr hC
 replace al := al.gr hC
 refine lc rfl rfl (r_call1 Tryz.call56 rfl) (c_frac_under N 6 (clipC bh br) _ ax ay bc bd ((aa.1.1, aa.1.2), aa.2) ak al ct dk) ?_
 rintro _ au ⟨a6, dl, dm, rfl, av, cd⟩
 refine ⟨_, rfl, ?_⟩
 refine lN ⟨fun w' => Grow (clipC au a6) au (clipC au a6) w', fun g => (clipC au a6) g = 497, Grow.refl _ _, good_clip, fun _ => ⟨fun _ h => cls hC0 av h, fun b hb => av.below.block b hb, fun g h1 h2 => fcl av g h1 (by first | exact h2 | (simp only [frC, rcC, h2]; rfl))⟩, ?_⟩
 have a7 := KeepP.clip (fun _ => false) a6 au
 refine xeF rfl rfl ?_
 intro cu hC0
 replace bi := (((bi.kpp bj).gr hC).gr av).kpp a7
 replace af := ((af.gr hC).gr av).kpp a7
 replace ai := ((ai.gr hC).gr av).kpp a7
 replace ag := ((ag.gr hC).gr av).kpp a7
 replace ah := ((ah.gr hC).gr av).kpp a7
 replace ac := ((ac.gr hC).gr av).kpp a7
 replace hst := ((hst.grow hC).grow av).kpp a7
 have hC : Grow (clipC au a6) au (clipC au a6) cu := .of_below hC0.below
 obtain ⟨ce, dn, hm⟩ := bS hm
 replace cd := (cd.kpp a7).gr hC
 replace af := af.gr hC
 refine lc rfl rfl (r_call2 Tryz.call81 rfl rfl) (c_frac_over N 7 (frC 6 (clipC au a6)) _ az a0 (ab.1.1, ab.1.2) dl dm ct (af.froz 6) (cd.toSlF (Froz.int .u32)) ce dn) ?_
 rintro _ aw ⟨dp, dq, dr, rfl, an, b2⟩
 refine ⟨_, rfl, ?_⟩
 replace b2 := b2.thaw (flat_int .u32) an ((Fz.refl (col := (clipC au a6))).froz 6) (by decide)
 replace an := an.thawR (col := (clipC au a6))
 generalize colR cu.heap.size (clipC au a6) dp = a8 at *
 refine lN ⟨fun w' => Grow (clipC aw a8) aw (clipC aw a8) w', fun g => (clipC aw a8) g = 497, Grow.refl _ _, good_clip, fun _ => ⟨fun _ h => cls hC0 an h, fun b hb => an.below.block b hb, fun g h1 h2 => fcl an g h1 (by first | exact h2 | (simp only [frC, rcC, h2]; rfl))⟩, ?_⟩
 have a9 := KeepP.clip (fun _ => false) a8 aw
 refine xeF rfl rfl ?_
 intro cv hC0
 replace ak := ((((ak.gr av).kpp a7).gr hC).gr an).kpp a9
 replace al := ((((al.gr av).kpp a7).gr hC).gr an).kpp a9
 replace ai := ((ai.gr hC).gr an).kpp a9
 replace bi := ((bi.gr hC).gr an).kpp a9
 replace ag := ((ag.gr hC).gr an).kpp a9
 replace ah := ((ah.gr hC).gr an).kpp a9
 replace ac := ((ac.gr hC).gr an).kpp a9
 replace hst := ((hst.grow hC).grow an).kpp a9
 have hC : Grow (clipC aw a8) aw (clipC aw a8) cv := .of_below hC0.below
 obtain ⟨a2, ds, hm⟩ := bS hm
 replace b2 := (b2.kpp a9).gr hC
 replace bi := bi.gr hC
 refine lc rfl rfl (r_call2 Tryz.call80 rfl rfl) (c_whole_Add N 8 (frC 7 (frC 5 (clipC aw a8))) _ dh di (cc.1, cc.2) dq dr (ce.1, ce.2) ((bi.toSlF (Froz.int .u32)).froz 7) ((b2.froz 5 (by decide)).toSlF (Froz.int .u32)) a2 ds) ?_
 rintro _ ad ⟨dt, b3, b4, rfl, aq, ao⟩
 refine ⟨_, rfl, ?_⟩
 replace ao := ao.thaw (flat_int .u32) aq (((Fz.refl (col := (clipC aw a8))).froz 5).froz 7) (by decide)
 replace aq := aq.thawR (col := (clipC aw a8))
 generalize colR cv.heap.size (clipC aw a8) dt = ae at *
 refine lN ⟨fun w' => Grow (clipC ad ae) ad (clipC ad ae) w', fun g => (clipC ad ae) g = 497, Grow.refl _ _, good_clip, fun _ => ⟨fun _ h => cls hC0 aq h, fun b hb => aq.below.block b hb, fun g h1 h2 => fcl aq g h1 (by first | exact h2 | (simp only [frC, rcC, h2]; rfl))⟩, ?_⟩
 have bk := KeepP.clip (fun _ => false) ae ad
 refine xaF rfl rfl (free_alloc Tryz.zeroValue38) ?_
 intro aj du
 refine xeF rfl rfl ?_
 intro cw ⟨hC0, hZ0⟩
 replace af := ((((af.gr an).kpp a9).gr hC).gr aq).kpp bk
 replace ak := ((ak.gr hC).gr aq).kpp bk
 replace al := ((al.gr hC).gr aq).kpp bk
 replace ai := ((ai.gr hC).gr aq).kpp bk
 replace ag := ((ag.gr hC).gr aq).kpp bk
 replace ah := ((ah.gr hC).gr aq).kpp bk
 replace ac := ((ac.gr hC).gr aq).kpp bk
 replace hst := ((hst.grow hC).grow aq).kpp bk
 have hC : Grow (clipC ad ae) ad (clipC ad ae) cw := .of_below hC0.below
 obtain ⟨bl, ca⟩ := box_float (col := (clipC ad ae)) 9 hZ0 du
 replace ca : Box 38 9 (setC aj 9 (clipC ad ae)) cw aj #[(.bool false), (.slice none (([] : List Int).length) 0)] := ca
 refine l_bstore (v := (.agg #[(.bool a2.1), (.slice b3 a2.2.length b4)])) ca Tryz.sizeOf38 rfl rfl (by intro u hu; simp only [Value.cells, List.mem_cons, List.not_mem_nil, or_false] at hu; rcases hu with rfl | rfl <;> rfl) rfl rfl ?_
 intro am bm dv bz
 clear ca
 replace bz : Box 38 9 (setC aj 9 (clipC ad ae)) am aj #[(.bool a2.1), (.slice b3 a2.2.length b4)] := bz
 refine lN ⟨fun w' => Grow (clipC am (setC aj 9 (clipC ad ae))) am (clipC am (setC aj 9 (clipC ad ae))) w', fun g => (clipC am (setC aj 9 (clipC ad ae))) g = 497, Grow.refl _ _, good_clip, fun h => absurd h (by decide), ?_⟩
 have ba := KeepP.clip (fun _ => false) (setC aj 9 (clipC ad ae)) am
 refine xnilF ?_
 replace ao := ((((ao.kpp bk).gr hC).kpp bl).kp bm).kpp ba
 replace ak := (((ak.gr hC).kpp bl).kp bm).kpp ba
 replace al := (((al.gr hC).kpp bl).kp bm).kpp ba
 replace af := (((af.gr hC).kpp bl).kp bm).kpp ba
 replace ai := (((ai.gr hC).kpp bl).kp bm).kpp ba
 replace ag := (((ag.gr hC).kpp bl).kp bm).kpp ba
 replace ah := (((ah.gr hC).kpp bl).kp bm).kpp ba
 replace ac := (((ac.gr hC).kpp bl).kp bm).kpp ba
 replace hst := (((hst.grow hC).kpp bl).kp bm dv).kpp ba
 intro cx hC
 replace hC : Grow (clipC am (setC aj 9 (clipC ad ae))) am (clipC am (setC aj 9 (clipC ad ae))) cx := .of_below hC.below
 refine wS ?_
 refine wmix (col := (clipC am (setC aj 9 (clipC ad ae)))) [(0, 1), (1, 0), (2, 1), (3, 0), (4, 0), (6, 0), (5, 3), (7, 3), (8, 3), (9, 3), (10, 2)] (by kernel_rfl) (by kernel_rfl) ?_
 refine xu (v := (.pointer ((some (⟨aj, 0, none⟩ : Addr)).map (·.add 0)))) rfl rfl (fun _ => rF (sz := 1) (off := 0) Tryz.underlying38 rfl Tryz.sizeOf4 (by decide) rfl rfl ⟨_, _, rfl⟩) ?_
 replace bz := (bz.kpp ba).gr hC
 refine xv (v := (.bool a2.1)) rfl rfl (fun _ hC => r_ld Tryz.isAgg4 rfl (((bz.atN).nth (q := 0) (v := (.bool a2.1)) rfl).gr (Grow.of_below (col := (clipC am (setC aj 9 (clipC ad ae)))) hC.below))) ?_
 refine xu (v := (.pointer ((some (⟨aj, 0, none⟩ : Addr)).map (·.add 1)))) rfl rfl (fun _ => rF (sz := 1) (off := 1) Tryz.underlying38 rfl Tryz.sizeOf36 (by decide) rfl rfl ⟨_, _, rfl⟩) ?_
 refine xv (v := (.slice b3 a2.2.length b4)) rfl rfl (fun _ hC => r_ld Tryz.isAgg36 rfl (((bz.atN).nth (q := 1) (v := (.slice b3 a2.2.length b4)) rfl).gr (Grow.of_below (col := (clipC am (setC aj 9 (clipC ad ae)))) hC.below))) ?_
 replace ag := ag.gr hC
 refine xv (v := (.agg #[(.bool aa.1.1), (.slice ax aa.1.2.length ay), (.slice bc aa.2.length bd)])) rfl rfl (fun _ hC => r_ldN Tryz.isAgg40 Tryz.sizeOf40 rfl rfl (ag.atN.gr (Grow.of_below (col := (clipC am (setC aj 9 (clipC ad ae)))) hC.below))) ?_
 replace ah := ah.gr hC
 refine xv (v := (.agg #[(.bool ab.1.1), (.slice az ab.1.2.length a0), (.slice be ab.2.length bf)])) rfl rfl (fun _ hC => r_ldN Tryz.isAgg40 Tryz.sizeOf40 rfl rfl (ah.atN.gr (Grow.of_below (col := (clipC am (setC aj 9 (clipC ad ae)))) hC.below))) ?_
 refine xe rfl rfl ?_
 intro dw hC0
 replace ak := ak.gr hC
 replace al := al.gr hC
 replace af := af.gr hC
 replace ai := ai.gr hC
 replace ao := ao.gr hC
 replace ac := ac.gr hC
 replace hst := hst.grow hC
 have hC : Grow (clipC am (setC aj 9 (clipC ad ae))) cx (clipC am (setC aj 9 (clipC ad ae))) dw := .of_below hC0.below
 obtain ⟨cy, dx, hm⟩ := bS hm
 replace ak := ak.gr hC
 replace al := al.gr hC
 refine lc rfl rfl (r_call1 Tryz.call56 rfl) (c_frac_under N 10 (clipC am (setC aj 9 (clipC ad ae))) _ ax ay bc bd ((aa.1.1, aa.1.2), aa.2) ak al cy dx) ?_
 rintro _ cz ⟨b5, dy, dz, rfl, b0, b6⟩
 refine ⟨_, rfl, ?_⟩
 refine lN ⟨fun w' => Grow b5 cz b5 w', Grow.refl _ _, fun _ _ h => cls hC0 b0 h, ?_⟩
 refine xe rfl rfl ?_
 intro d0 hC0
 replace ao := (ao.gr hC).gr b0
 replace af := (af.gr hC).gr b0
 replace ai := (ai.gr hC).gr b0
 replace ac := (ac.gr hC).gr b0
 replace hst := (hst.grow hC).grow b0
 have hC : Grow b5 cz b5 d0 := .of_below hC0.below
 obtain ⟨c0, d1, hm⟩ := bS hm
 replace af := af.gr hC
 replace ai := ai.gr hC
 refine lc rfl rfl (r_call1 Tryz.call56 rfl) (c_frac_under N 11 b5 _ az a0 be bf ((ab.1.1, ab.1.2), ab.2) af ai c0 d1) ?_
 rintro _ c3 ⟨bp, d2, d3, rfl, b7, cf⟩
 refine ⟨_, rfl, ?_⟩
 refine lN ⟨fun w' => Grow bp c3 bp w', Grow.refl _ _, fun _ _ h => cls hC0 b7 h, ?_⟩
 refine xe rfl rfl ?_
 intro c4 hC0
 replace ao := (ao.gr hC).gr b7
 replace b6 := (b6.gr hC).gr b7
 replace ac := (ac.gr hC).gr b7
 replace hst := (hst.grow hC).grow b7
 have hC : Grow bp c3 bp c4 := .of_below hC0.below
 obtain ⟨c5, d4, hm⟩ := bS hm
 replace b6 := b6.gr hC
 replace cf := cf.gr hC
 refine lc rfl rfl (r_call2 Tryz.call40 rfl rfl) (c_nat_Mul N 12 (frC 11 (frC 10 bp)) _ dy dz cy d2 d3 c0 ((b6.toSlF (Froz.int .u32)).froz 11) ((cf.froz 10 (by decide)).toSlF (Froz.int .u32)) c5 d4) ?_
 rintro _ c6 ⟨d5, d6, d7, rfl, bs, b8⟩
 refine ⟨_, rfl, ?_⟩
 replace b8 := b8.thaw (flat_int .u32) bs (((Fz.refl (col := bp)).froz 10).froz 11) (by decide)
 replace bs := bs.thawR (col := bp)
 generalize colR c4.heap.size bp d5 = bn at *
 refine lN ⟨fun w' => Grow bn c6 bn w', Grow.refl _ _, fun _ _ h => cls hC0 bs h, ?_⟩
 refine xe rfl rfl ?_
 intro c7 hC0
 replace ao := (ao.gr hC).gr bs
 replace ac := (ac.gr hC).gr bs
 replace hst := (hst.grow hC).grow bs
 have hC : Grow bn c6 bn c7 := .of_below hC0.below
 obtain ⟨bt, d8, hm⟩ := bS hm
 replace ao := ao.gr hC
 replace b8 := b8.gr hC
 refine lc rfl rfl (r_call3 Tryz.call55 rfl rfl rfl) (c_frac_lowest N 13 14 (frC 12 (frC 8 bn)) _ a2.1 b3 b4 a2.2 d6 d7 c5 ((ao.toSlF (Froz.int .u32)).froz 12) ((b8.froz 8 (by decide)).toSlF (Froz.int .u32)) bt d8) ?_
 rintro _ c8 ⟨d9, cg, ch, ci, cj, rfl, bu, bv, bw⟩
 refine ⟨_, rfl, ?_⟩
 replace bv := bv.thaw (flat_int .u32) bu (((Fz.refl (col := bn)).froz 8).froz 12) (by decide)
 replace bw := bw.thaw (flat_int .u32) bu (((Fz.refl (col := bn)).froz 8).froz 12) (by decide)
 replace bu := bu.thawR (col := bn)
 generalize colR c7.heap.size bn d9 = bb at *
 refine lN ⟨fun w' => Grow bb c8 bb w', Grow.refl _ _, fun _ _ h => cls hC0 bu h, ?_⟩
 refine xe rfl rfl ?_
 intro ea hC0
 replace ac := (ac.gr hC).gr bu
 replace hst := (hst.grow hC).grow bu
 have hC : Grow bb c8 bb ea := .of_below hC0.below
 replace ac := ac.gr hC
 refine l_bstore (v := (.agg #[(.bool bt.1.1), (.slice cg bt.1.2.length ch), (.slice ci bt.2.length cj)])) ac Tryz.sizeOf40 rfl rfl (by intro u hu; simp only [Value.cells, List.mem_cons, List.not_mem_nil, or_false] at hu; rcases hu with rfl | rfl | rfl <;> rfl) rfl rfl ?_
 intro ck cl eb b9
 clear ac
 replace b9 : Box 40 3 bb ck cq #[(.bool bt.1.1), (.slice cg bt.1.2.length ch), (.slice ci bt.2.length cj)] := b9
 refine lN ⟨fun w' => Grow bb ck bb w', Grow.refl _ _, fun h => absurd h (by decide), ?_⟩
 refine xnil ?_
 replace bv := (bv.gr hC).kp cl
 replace bw := (bw.gr hC).kp cl
 replace hst := (hst.grow hC).kp cl eb
 intro ec hC
 replace hC : Grow bb ck bb ec := .of_below hC.below
 refine wret ?_
 cases hm
 replace bv := bv.gr hC
 replace bw := bw.gr hC
 replace b9 := b9.gr hC
 replace hst := hst.grow hC
 exact ⟨rfl, _, res_a rfl rfl Tryz.isAgg40 Tryz.sizeOf40 rfl rfl b9.atN, colF w0.heap.size col bb (fun n => bif Nat.beq n 13 then c1 else bif Nat.beq n 14 then c2 else 0), cg, ch, ci, cj, rfl, hst.fin (fun n => bif Nat.beq n 13 then c1 else bif Nat.beq n 14 then c2 else 0), hst.finOwn (g := (fun n => bif Nat.beq n 13 then c1 else bif Nat.beq n 14 then c2 else 0)) rfl bv (by decide) (by decide) rfl, hst.finOwn (g := (fun n => bif Nat.beq n 13 then c1 else bif Nat.beq n 14 then c2 else 0)) rfl bw (by decide) (by decide) rfl⟩
def m_frac_Sum_L1 (N : Nat) : List ((Bool × (List Int)) × (List Int)) → Bool → (List Int) → (List Int) → Option ((Bool × (List Int)) × (List Int))
  | [], aa, ab, ac => some ((aa, ab), ac)
  | ad :: af, aa, ab, ac => (m_frac_Add N ((aa, ab), ac) ((ad.1.1, ad.1.2), ad.2)).bind fun ae => (m_frac_Sum_L1 N af) ae.1.1 ae.1.2 ae.2
termination_by structural x => x
def m_frac_Sum (N : Nat) (aa : (List ((Bool × (List Int)) × (List Int)))) : Option ((Bool × (List Int)) × (List Int)) :=
  (m_nat_Of N 1).bind fun ab => m_frac_Sum_L1 N aa false ([] : List Int) ab
theorem c_frac_Sum (N : Nat) (c1 : Nat) (c2 : Nat) (col : Col) (w0 : World) (a0 : Option Addr) (cap0 : Nat) (aa : (List ((Bool × (List Int)) × (List Int)))) (h0 : Sl (Rep.pair (Rep.pair Rep.bool (Rep.slice (Rep.int .u32))) (Rep.slice (Rep.int .u32))) col w0 a0 cap0 aa) (r : ((Bool × (List Int)) × (List Int))) (hm : m_frac_Sum N aa = some r) :
    Calls Tryz.prog 51 #[(.slice a0 aa.length cap0)] w0 (fun e w' => ∃ (col' : Col) (ra1 : Option Addr) (rc2 : Nat) (ra4 : Option Addr) (rc5 : Nat), e = .returned ((.agg #[(.bool r.1.1), (.slice ra1 r.1.2.length rc2), (.slice ra4 r.2.length rc5)])) ∧ Grow col w0 col' w' ∧ Own (Rep.int .u32) 114 c1 col' w' ra1 rc2 r.1.2 ∧ Own (Rep.int .u32) 114 c2 col' w' ra4 rc5 r.2) := by
 refine calls_ofR (m := 19) (args := [(.slice a0 aa.length cap0)]) Tryz.func51 rfl rfl rfl ?_
 rw [m_frac_Sum.eq_1] at hm
 have hst := St.start col w0
 refine wS <| wR ?_
 refine l_alloc (col := (col0 col)) (v := (.agg #[(.bool false), (.slice none (([] : List Int).length) 0), (.slice none (([] : List Int).length) 0)])) 1 rfl Tryz.zeroValue40 ?_
 intro a9 bz bs bt ab
 replace ab : Box 40 1 bs bz a9 #[(.bool false), (.slice none (([] : List Int).length) 0), (.slice none (([] : List Int).length) 0)] := ab
 refine lN <| wS <| wR ?_
 obtain ⟨a1, b0, hm⟩ := bS hm
 refine lc rfl rfl (r_call1 Tryz.call59 rfl) (c_nat_Of N 2 bs _ 1 a1 b0) ?_
 rintro _ cj ⟨b1, ba, bb, rfl, bg, bh⟩
 refine ⟨_, rfl, ?_⟩
 refine lV (.agg #[(.bool false), (.slice none (([] : List Int).length) 0), (.slice ba a1.length bb)]) (r_build (l := [_, _]) (qs := [(0, 2), (2, 1)]) Tryz.underlying40 Tryz.zeroValue40 ⟨rfl, Tryz.sizeOf38, rfl, Tryz.sizeOf36, trivial⟩ rfl) ?_
 refine l_alloc (col := b1) (v := (.agg #[(.bool false), (.slice none (([] : List Int).length) 0), (.slice none (([] : List Int).length) 0)])) 3 rfl Tryz.zeroValue40 ?_
 intro a2 b2 bi bc bd
 replace bd : Box 40 3 bi b2 a2 #[(.bool false), (.slice none (([] : List Int).length) 0), (.slice none (([] : List Int).length) 0)] := bd
 refine l_bstore (v := (.agg #[(.bool false), (.slice none (([] : List Int).length) 0), (.slice ba a1.length bb)])) bd Tryz.sizeOf40 rfl rfl (by intro u hu; simp only [Value.cells, List.mem_cons, List.not_mem_nil, or_false] at hu; rcases hu with rfl | rfl | rfl <;> rfl) rfl rfl ?_
 intro b3 be b4 ae
 clear bd
 replace ae : Box 40 3 bi b3 a2 #[(.bool false), (.slice none (([] : List Int).length) 0), (.slice ba a1.length bb)] := ae
 refine lN <| wS <| wS <| wR <| lM (.slice a0 aa.length cap0) <| lV (.int .i64 (aa.length : Int)) (r_len Tryz.underlying51 rfl) <| lM (.int .i64 0) <| lN <| wB ?_
 replace h0 := ((((h0.keep (Stay.start col w0)).gr bt).gr bg).gr bc).kp be
 replace hst := (((hst.grow bt).grow bg).grow bc).kp be b4
 replace ab := ((ab.gr bg).gr bc).kp be
 replace bh := (bh.gr bc).kp be
 refine wloop (fun n f av => ∃ (af : Col) (ad : Nat) (ap : Bool) (ah : Option Addr) (ai : Nat) (aj : List Int) (ak : Option Addr) (al : Nat) (am : List Int) (a3 : List ((Bool × (List Int)) × (List Int))), n = a3.length ∧ aa.drop ad = a3 ∧ m_frac_Sum_L1 N a3 ap aj am = some r ∧ St w0 (col0 col) af av ∧ Box 40 1 af av a9 #[(.bool false), (.slice none (([] : List Int).length) 0), (.slice none (([] : List Int).length) 0)] ∧ Own (Rep.int .u32) 114 4 af av ah ai aj ∧ Own (Rep.int .u32) 114 2 af av ak al am ∧ Box 40 3 af av a2 #[(.bool ap), (.slice ah aj.length ai), (.slice ak am.length al)] ∧ Sl (Rep.pair (Rep.pair Rep.bool (Rep.slice (Rep.int .u32))) (Rep.slice (Rep.int .u32))) af av a0 cap0 aa ∧ f 10 = (.int .i64 (ad : Int)) ∧ f 2 = (.pointer (some ⟨a9, 0, none⟩)) ∧ f 3 = (.pointer (some ⟨a2, 0, none⟩)) ∧ f 8 = (.slice a0 aa.length cap0) ∧ f 9 = (.int .i64 (aa.length : Int)) ∧ f 1000000 = (enc [])) aa.length ⟨bi, 0, false, none, 0, ([] : List Int), ba, bb, a1, aa, rfl, rfl, hm, hst, ab, Own.nil, bh, ae, h0, rfl, rfl, rfl, rfl, rfl, rfl⟩ ?_
 clear hm; intro n f av hI
 obtain ⟨af, ad, ap, ah, ai, aj, ak, al, am, a3, hn, hl, hm, hst, ab, ay, az, ae, h0, hs10, hs2, hs3, hs8, hs9, hs1000000⟩ := hI
 subst hn
 refine .lD 10 hs10 <| .lD 2 hs2 <| .lD 3 hs3 <| .lD 8 hs8 <| .lD 9 hs9 <| .lD 1000000 hs1000000 ?_
 clear hs10 hs2 hs3 hs8 hs9 hs1000000
 cases a3 with
 | nil =>
  have hk : ¬ ((ad : Int) < (aa.length : Int)) := by have := List.drop_eq_nil_iff.1 hl; omega
  have hkb := decide_eq_false hk
  rw [m_frac_Sum_L1.eq_1] at hm
  refine wS <| wR <| lV (.bool (decide ((ad : Int) < (aa.length : Int)))) (r_lss (ad : Int) (aa.length : Int) rfl rfl) <| lN <| wS ?_
  refine wcondF (congrArg Value.bool hkb) ?_
  refine wexit (inB_hit ?_)
  refine wS <| wR <| lV (.agg #[(.bool ap), (.slice ah aj.length ai), (.slice ak am.length al)]) (r_ldN Tryz.isAgg40 Tryz.sizeOf40 rfl rfl ae.atN) ?_
  refine l_bstore (v := (.agg #[(.bool ap), (.slice ah aj.length ai), (.slice ak am.length al)])) ab Tryz.sizeOf40 rfl rfl (by intro u hu; simp only [Value.cells, List.mem_cons, List.not_mem_nil, or_false] at hu; rcases hu with rfl | rfl | rfl <;> rfl) rfl rfl ?_
  intro b5 bj b6 bk
  clear ab
  replace bk : Box 40 1 af b5 a9 #[(.bool ap), (.slice ah aj.length ai), (.slice ak am.length al)] := bk
  refine lN ?_
  refine wret ?_
  cases hm
  replace ay := ay.kp bj
  replace az := az.kp bj
  replace hst := hst.kp bj b6
  exact ⟨rfl, _, res_a rfl rfl Tryz.isAgg40 Tryz.sizeOf40 rfl rfl bk.atN, colF w0.heap.size col af (fun n => bif Nat.beq n 4 then c1 else bif Nat.beq n 2 then c2 else 0), ah, ai, ak, al, rfl, hst.fin (fun n => bif Nat.beq n 4 then c1 else bif Nat.beq n 2 then c2 else 0), hst.finOwn (g := (fun n => bif Nat.beq n 4 then c1 else bif Nat.beq n 2 then c2 else 0)) rfl ay (by decide) (by decide) rfl, hst.finOwn (g := (fun n => bif Nat.beq n 4 then c1 else bif Nat.beq n 2 then c2 else 0)) rfl az (by decide) (by decide) rfl⟩
 | cons ac bu =>
  obtain ⟨hat, hl2_L1, hlt_L1⟩ := drop_get hl
  have hk : (ad : Int) < (aa.length : Int) := by omega
  have hkb := decide_eq_true hk
  rw [m_frac_Sum_L1.eq_2] at hm
  refine wS <| wR <| lV (.bool (decide ((ad : Int) < (aa.length : Int)))) (r_lss (ad : Int) (aa.length : Int) rfl rfl) <| lN <| wS ?_
  refine wcondT (congrArg Value.bool hkb) ?_
  refine wK <| wS <| wB <| wS <| wR ?_
  refine lV (sptr a0 (Int.toNat (ad : Int) * 3)) (r_idx Tryz.underlying51 Tryz.sizeOf40 rfl rfl (at?_some hat).1 (at?_some hat).2.1 (h0.addr hat)) ?_
  obtain ⟨_, b7, b8⟩ := h0.atN hat
  obtain ⟨_, _, rfl, b9, ca⟩ := rd_pair b7
  obtain ⟨_, _, rfl, cb, cc⟩ := rd_pair b9
  obtain ⟨rfl, _⟩ := cb
  obtain ⟨⟨a4, a5, rfl, bl⟩, _⟩ := cc
  obtain ⟨⟨a6, a7, rfl, bm⟩, _⟩ := ca
  refine lV (.agg #[(.bool ac.1.1), (.slice a4 ac.1.2.length a5), (.slice a6 ac.2.length a7)]) (r_ldN Tryz.isAgg40 Tryz.sizeOf40 rfl rfl b8) ?_
  refine l_alloc (col := af) (v := (.agg #[(.bool false), (.slice none (([] : List Int).length) 0), (.slice none (([] : List Int).length) 0)])) 5 rfl Tryz.zeroValue40 ?_
  intro bv cd aw aq bf
  replace bf : Box 40 5 aw cd bv #[(.bool false), (.slice none (([] : List Int).length) 0), (.slice none (([] : List Int).length) 0)] := bf
  refine l_bstore (v := (.agg #[(.bool ac.1.1), (.slice a4 ac.1.2.length a5), (.slice a6 ac.2.length a7)])) bf Tryz.sizeOf40 rfl rfl (by intro u hu; simp only [Value.cells, List.mem_cons, List.not_mem_nil, or_false] at hu; rcases hu with rfl | rfl | rfl <;> rfl) rfl rfl ?_
  intro bw ar ce bn
  clear bf
  replace bn : Box 40 5 aw bw bv #[(.bool ac.1.1), (.slice a4 ac.1.2.length a5), (.slice a6 ac.2.length a7)] := bn
  refine lN <| wR ?_
  replace ae := (ae.gr aq).kp ar
  refine lV (.agg #[(.bool ap), (.slice ah aj.length ai), (.slice ak am.length al)]) (r_ldN Tryz.isAgg40 Tryz.sizeOf40 rfl rfl ae.atN) <| lV (.agg #[(.bool ac.1.1), (.slice a4 ac.1.2.length a5), (.slice a6 ac.2.length a7)]) (r_ldN Tryz.isAgg40 Tryz.sizeOf40 rfl rfl bn.atN) ?_
  obtain ⟨ag, cf, hm⟩ := bS hm
  replace ay := (ay.gr aq).kp ar
  replace az := (az.gr aq).kp ar
  replace bl := (bl.gr aq).kp ar
  replace bm := (bm.gr aq).kp ar
  refine lc rfl rfl (r_call2 Tryz.call27 rfl rfl) (c_frac_Add N 6 7 (frC 2 (frC 4 aw)) _ ah ai ak al ((ap, aj), am) a4 a5 a6 a7 ((ac.1.1, ac.1.2), ac.2) ((ay.toSlF (Froz.int .u32)).froz 2) ((az.froz 4 (by decide)).toSlF (Froz.int .u32)) ((bl.froz 4).froz 2) ((bm.froz 4).froz 2) ag cf) ?_
  rintro _ ck ⟨cg, bo, bp, bq, br, rfl, au, an, ao⟩
  refine ⟨_, rfl, ?_⟩
  replace an := an.thaw (flat_int .u32) au (((Fz.refl (col := aw)).froz 4).froz 2) (by decide)
  replace ao := ao.thaw (flat_int .u32) au (((Fz.refl (col := aw)).froz 4).froz 2) (by decide)
  replace au := au.thawR (col := aw)
  generalize colR bw.heap.size aw cg = bx at *
  replace ae := ae.gr au
  refine l_bstore (v := (.agg #[(.bool ag.1.1), (.slice bo ag.1.2.length bp), (.slice bq ag.2.length br)])) ae Tryz.sizeOf40 rfl rfl (by intro u hu; simp only [Value.cells, List.mem_cons, List.not_mem_nil, or_false] at hu; rcases hu with rfl | rfl | rfl <;> rfl) rfl rfl ?_
  intro ch a8 ci ax
  clear ae
  replace ax : Box 40 3 bx ch a2 #[(.bool ag.1.1), (.slice bo ag.1.2.length bp), (.slice bq ag.2.length br)] := ax
  refine lN <| wR <| lV (.int .i64 (IntKind.i64.wrap ((ad : Int) + 1))) (r_add (ad : Int) 1 rfl rfl) <| lM (.int .i64 (IntKind.i64.wrap ((ad : Int) + 1))) <| lN ?_
  replace an := an.kp a8
  replace an := an.recolSelf 4 (by decide)
  replace ao := ao.kp a8
  replace ao := ao.recol 6 4 (by decide)
  replace h0 := (((h0.gr aq).kp ar).gr au).kp a8
  replace h0 := h0.recol 6 4 (by decide)
  replace ab := (((ab.gr aq).kp ar).gr au).kp a8
  replace ab := ab.recol 6 4 (by decide)
  replace ax := ax.recol 6 4 (by decide)
  replace hst := (((hst.grow aq).kp ar ce).grow au).kp a8 ci
  replace hst := hst.recol 6 4 (by decide) (by decide)
  replace an := an.recol 7 2 (by decide)
  replace ao := ao.recolSelf 2 (by decide)
  replace h0 := h0.recol 7 2 (by decide)
  replace ab := ab.recol 7 2 (by decide)
  replace ax := ax.recol 7 2 (by decide)
  replace hst := hst.recol 7 2 (by decide) (by decide)
  exact ⟨bu.length, by simp, ⟨(rcC 7 2 (rcC 6 4 bx)), (ad + 1), ag.1.1, bo, bp, ag.1.2, bq, br, ag.2, bu, rfl, hl2_L1, hm, hst, ab, an, ao, ax, h0, (congrArg (Value.int .i64) (wrap_succ (Nat.lt_of_lt_of_le hlt_L1 h0.1.1))), rfl, rfl, rfl, rfl, rfl⟩⟩
def m_model_one (N : Nat)  : Option ((Bool × (List Int)) × (List Int)) :=
  (m_frac_Of N 1 1).bind fun aa => some ((aa.1.1.1, aa.1.1.2), aa.1.2)
theorem c_model_one (N : Nat) (c1 : Nat) (c2 : Nat) (col : Col) (w0 : World)  (r : ((Bool × (List Int)) × (List Int))) (hm : m_model_one N = some r) :
    Calls Tryz.prog 141 #[] w0 (fun e w' => ∃ (col' : Col) (ra1 : Option Addr) (rc2 : Nat) (ra4 : Option Addr) (rc5 : Nat), e = .returned ((.agg #[(.bool r.1.1), (.slice ra1 r.1.2.length rc2), (.slice ra4 r.2.length rc5)])) ∧ Grow col w0 col' w' ∧ Own (Rep.int .u32) 114 c1 col' w' ra1 rc2 r.1.2 ∧ Own (Rep.int .u32) 114 c2 col' w' ra4 rc5 r.2) := by
 refine calls_ofR (m := 8) (args := []) Tryz.func141 rfl rfl rfl ?_
 rw [m_model_one.eq_1] at hm
 have hst := St.start col w0
 refine wS <| wR ?_
 refine l_alloc (col := (col0 col)) (v := (.agg #[(.bool false), (.slice none (([] : List Int).length) 0), (.slice none (([] : List Int).length) 0)])) 1 rfl Tryz.zeroValue40 ?_
 intro ap av aq aw af
 replace af : Box 40 1 aq av ap #[(.bool false), (.slice none (([] : List Int).length) 0), (.slice none (([] : List Int).length) 0)] := af
 refine lN <| wS <| wR ?_
 obtain ⟨aa, ax, hm⟩ := bS hm
 refine lc rfl rfl (r_call2 Tryz.call30 rfl rfl) (c_frac_Of N 2 3 aq _ 1 1 aa ax) ?_
 rintro _ a4 ⟨ay, ab, ac, ad, ae, rfl, ar, ak, al⟩
 refine ⟨_, rfl, ?_⟩
 refine lM (.tuple #[(.agg #[(.bool aa.1.1.1), (.slice ab aa.1.1.2.length ac), (.slice ad aa.1.2.length ae)]), (.int .i64 aa.2)]) <| lV (.agg #[(.bool aa.1.1.1), (.slice ab aa.1.1.2.length ac), (.slice ad aa.1.2.length ae)]) (r_extract rfl rfl) <| lV (.int .i64 aa.2) (r_extract rfl rfl) ?_
 refine l_alloc (col := ay) (v := (.agg #[(.bool false), (.slice none (([] : List Int).length) 0), (.slice none (([] : List Int).length) 0)])) 4 rfl Tryz.zeroValue40 ?_
 intro au az ag ah ai
 replace ai : Box 40 4 ag az au #[(.bool false), (.slice none (([] : List Int).length) 0), (.slice none (([] : List Int).length) 0)] := ai
 refine l_bstore (v := (.agg #[(.bool aa.1.1.1), (.slice ab aa.1.1.2.length ac), (.slice ad aa.1.2.length ae)])) ai Tryz.sizeOf40 rfl rfl (by intro u hu; simp only [Value.cells, List.mem_cons, List.not_mem_nil, or_false] at hu; rcases hu with rfl | rfl | rfl <;> rfl) rfl rfl ?_
 intro a0 aj a1 am
 clear ai
 replace am : Box 40 4 ag a0 au #[(.bool aa.1.1.1), (.slice ab aa.1.1.2.length ac), (.slice ad aa.1.2.length ae)] := am
 refine lA (.int .i64 aa.2) <| lN <| wS <| wR <| lV (.agg #[(.bool aa.1.1.1), (.slice ab aa.1.1.2.length ac), (.slice ad aa.1.2.length ae)]) (r_ldN Tryz.isAgg40 Tryz.sizeOf40 rfl rfl am.atN) ?_
 replace af := ((af.gr ar).gr ah).kp aj
 refine l_bstore (v := (.agg #[(.bool aa.1.1.1), (.slice ab aa.1.1.2.length ac), (.slice ad aa.1.2.length ae)])) af Tryz.sizeOf40 rfl rfl (by intro u hu; simp only [Value.cells, List.mem_cons, List.not_mem_nil, or_false] at hu; rcases hu with rfl | rfl | rfl <;> rfl) rfl rfl ?_
 intro a2 an a3 ao
 clear af
 replace ao : Box 40 1 ag a2 ap #[(.bool aa.1.1.1), (.slice ab aa.1.1.2.length ac), (.slice ad aa.1.2.length ae)] := ao
 refine lN ?_
 refine wret ?_
 cases hm
 replace hst := ((((hst.grow aw).grow ar).grow ah).kp aj a1).kp an a3
 replace ak := ((ak.gr ah).kp aj).kp an
 replace al := ((al.gr ah).kp aj).kp an
 exact ⟨rfl, _, res_a rfl rfl Tryz.isAgg40 Tryz.sizeOf40 rfl rfl ao.atN, colF w0.heap.size col ag (fun n => bif Nat.beq n 2 then c1 else bif Nat.beq n 3 then c2 else 0), ab, ac, ad, ae, rfl, hst.fin (fun n => bif Nat.beq n 2 then c1 else bif Nat.beq n 3 then c2 else 0), hst.finOwn (g := (fun n => bif Nat.beq n 2 then c1 else bif Nat.beq n 3 then c2 else 0)) rfl ak (by decide) (by decide) rfl, hst.finOwn (g := (fun n => bif Nat.beq n 2 then c1 else bif Nat.beq n 3 then c2 else 0)) rfl al (by decide) (by decide) rfl⟩
def m_whole_Cmp (N : Nat) (aa : (Bool × (List Int))) (ab : (Bool × (List Int))) : Option Int :=
  (m_whole_Sign N (aa.1, aa.2)).bind fun ac => (m_whole_Sign N (ab.1, ab.2)).bind fun ad => if (decide (ac < ad)) = true then (some (-1)) else (if (decide (ad < ac)) = true then none else ((m_nat_Cmp N aa.2 ab.2).bind fun ae => some (IntKind.i64.wrap (ac * ae))))
theorem c_whole_Cmp (N : Nat) (col : Col) (w0 : World) (af : Option Addr) (ag : Nat) (aa : (Bool × (List Int))) (ah : Option Addr) (ai : Nat) (ab : (Bool × (List Int))) (ak : Sl (Rep.int .u32) col w0 af ag aa.2) (al : Sl (Rep.int .u32) col w0 ah ai ab.2) (r : Int) (hm : m_whole_Cmp N aa ab = some r) :
    Calls Tryz.prog 93 #[(.agg #[(.bool aa.1), (.slice af aa.2.length ag)]), (.agg #[(.bool ab.1), (.slice ah ab.2.length ai)])] w0 (fun e w' => e = .returned ((.int .i64 r)) ∧ Below w0.heap.size w0 w') := by
 refine calls_of1 4 (m := 26) (args := [(.agg #[(.bool aa.1), (.slice af aa.2.length ag)]), (.agg #[(.bool ab.1), (.slice ah ab.2.length ai)])]) Tryz.func93 rfl rfl rfl rfl rfl ?_
 rw [m_whole_Cmp.eq_1] at hm
 have hst := St.start col w0
 refine wS <| wR ?_
 refine l_box (col := (col0 col)) (v := (.agg #[(.bool aa.1), (.slice af aa.2.length ag)])) 1 rfl rfl ?_
 intro ar ay au ap aj
 replace aj : Box 38 1 au ay ar #[(.bool aa.1), (.slice af aa.2.length ag)] := aj
 refine l_box (col := au) (v := (.agg #[(.bool ab.1), (.slice ah ab.2.length ai)])) 2 rfl rfl ?_
 intro av aw ad an am
 replace am : Box 38 2 ad aw av #[(.bool ab.1), (.slice ah ab.2.length ai)] := am
 refine lA (.int .i64 0) <| lN <| wS ?_
 refine wquiet (col := ad) (by kernel_rfl) (by kernel_rfl) ?_
 replace aj := aj.gr an
 refine qv (v := (.agg #[(.bool aa.1), (.slice af aa.2.length ag)])) rfl (fun _ hC => r_ldN Tryz.isAgg38 Tryz.sizeOf38 rfl rfl (aj.atN.gr (Grow.of_below (col := ad) hC.below))) ?_
 obtain ⟨ac, az, hm⟩ := bS hm
 replace ak := ((ak.keep (Stay.start col w0)).gr ap).gr an
 refine qc (v := (.int .i64 ac)) rfl (fun _ hC => ⟨_, _, r_call1 Tryz.call76 rfl, (c_whole_Sign N ad _ af ag (aa.1, aa.2) (ak.gr (Grow.of_below (col := ad) hC.below)) ac az).mono fun _ _ h => ⟨h.1, hC.trans (.of_below h.2)⟩⟩) ?_
 refine qv (v := (.agg #[(.bool ab.1), (.slice ah ab.2.length ai)])) rfl (fun _ hC => r_ldN Tryz.isAgg38 Tryz.sizeOf38 rfl rfl (am.atN.gr (Grow.of_below (col := ad) hC.below))) ?_
 obtain ⟨ae, a0, hm⟩ := bS hm
 replace al := ((al.keep (Stay.start col w0)).gr ap).gr an
 refine qc (v := (.int .i64 ae)) rfl (fun _ hC => ⟨_, _, r_call1 Tryz.call76 rfl, (c_whole_Sign N ad _ ah ai (ab.1, ab.2) (al.gr (Grow.of_below (col := ad) hC.below)) ae a0).mono fun _ _ h => ⟨h.1, hC.trans (.of_below h.2)⟩⟩) ?_
 refine qv (v := (.int .i64 ac)) rfl (fun _ hC => r_assign rfl) ?_
 refine qv (v := (.int .i64 ae)) rfl (fun _ hC => r_assign rfl) ?_
 refine qnil ?_
 intro ax hC
 replace hC : Grow ad aw ad ax := .of_below hC.below
 refine wS <| wB <| wS <| wR <| lM (.int .i64 ac) <| lM (.int .i64 ae) <| lV (.bool (decide (ac < ae))) (r_lss ac ae rfl rfl) <| lA (.bool (decide (ac < ae))) <| lN ?_
 replace hst := ((hst.grow ap).grow an).grow hC
 replace ak := ak.gr hC
 replace al := al.gr hC
 replace aj := aj.gr hC
 replace am := am.gr hC
 refine wcond (decide (ac < ae)) rfl (fun hb => ?_) (fun hb => ?_)
 ·rw [if_pos hb] at hm
  clear hb
  refine wS <| wR <| lA (.int .i64 (-1)) <| lN ?_
  refine wret ?_
  cases hm
  exact ⟨rfl, rfl, hst.below⟩
 rw [if_neg (by rw [hb]; decide)] at hm
 clear hb
 refine wS <| wR <| lM (.int .i64 ac) <| lM (.int .i64 ae) <| lV (.bool (decide (ae < ac))) (r_gtr ac ae rfl rfl) <| lA (.bool (decide (ae < ac))) <| lN ?_
 refine wcond (decide (ae < ac)) rfl (fun hb => ?_) (fun hb => ?_)
 ·rw [if_pos hb] at hm
  clear hb
  cases hm
 rw [if_neg (by rw [hb]; decide)] at hm
 clear hb
 refine wK <| wS <| wR <| lM (.int .i64 ac) <| lV (.pointer ((some (⟨ar, 0, none⟩ : Addr)).map (·.add 1))) (rF (sz := 1) (off := 1) Tryz.underlying38 rfl Tryz.sizeOf36 (by decide) rfl rfl ⟨_, _, rfl⟩) <| lV (.slice af aa.2.length ag) (r_ld Tryz.isAgg36 rfl ((aj.atN).nth (q := 1) (v := (.slice af aa.2.length ag)) rfl)) <| lV (.pointer ((some (⟨av, 0, none⟩ : Addr)).map (·.add 1))) (rF (sz := 1) (off := 1) Tryz.underlying38 rfl Tryz.sizeOf36 (by decide) rfl rfl ⟨_, _, rfl⟩) <| lV (.slice ah ab.2.length ai) (r_ld Tryz.isAgg36 rfl ((am.atN).nth (q := 1) (v := (.slice ah ab.2.length ai)) rfl)) ?_
 obtain ⟨ao, a1, hm⟩ := bS hm
 refine lc rfl rfl (r_call2 Tryz.call58 rfl rfl) (c_nat_Cmp N ad _ af ag aa.2 ah ai ab.2 ak al ao a1) ?_
 rintro _ a2 ⟨rfl, aq⟩
 refine ⟨_, rfl, ?_⟩
 replace aq : Grow ad ax ad a2 := .of_below aq
 refine lV (.int .i64 (IntKind.i64.wrap (ac * ao))) (r_mul ac ao rfl rfl) <| lA (.int .i64 (IntKind.i64.wrap (ac * ao))) <| lN ?_
 refine wret ?_
 cases hm
 replace hst := hst.grow aq
 exact ⟨rfl, rfl, hst.below⟩
def m_frac_Cmp (N : Nat) (aa : ((Bool × (List Int)) × (List Int))) (ab : ((Bool × (List Int)) × (List Int))) : Option Int :=
  (m_frac_under N ((ab.1.1, ab.1.2), ab.2)).bind fun ae => (m_frac_over N (aa.1.1, aa.1.2) ae).bind fun ac => (m_frac_under N ((aa.1.1, aa.1.2), aa.2)).bind fun af => (m_frac_over N (ab.1.1, ab.1.2) af).bind fun ad => (m_whole_Cmp N (ac.1, ac.2) (ad.1, ad.2)).bind fun ag => some ag
theorem c_frac_Cmp (N : Nat) (col : Col) (w0 : World) (ae : Option Addr) (af : Nat) (ao : Option Addr) (ap : Nat) (aa : ((Bool × (List Int)) × (List Int))) (ag : Option Addr) (ah : Nat) (aq : Option Addr) (ar : Nat) (ab : ((Bool × (List Int)) × (List Int))) (ak : Sl (Rep.int .u32) col w0 ae af aa.1.2) (au : Sl (Rep.int .u32) col w0 ao ap aa.2) (ad : Sl (Rep.int .u32) col w0 ag ah ab.1.2) (a5 : Sl (Rep.int .u32) col w0 aq ar ab.2) (r : Int) (hm : m_frac_Cmp N aa ab = some r) :
    Calls Tryz.prog 43 #[(.agg #[(.bool aa.1.1), (.slice ae aa.1.2.length af), (.slice ao aa.2.length ap)]), (.agg #[(.bool ab.1.1), (.slice ag ab.1.2.length ah), (.slice aq ab.2.length ar)])] w0 (fun e w' => e = .returned ((.int .i64 r)) ∧ Below w0.heap.size w0 w') := by
 refine calls_of1 4 (m := 16) (args := [(.agg #[(.bool aa.1.1), (.slice ae aa.1.2.length af), (.slice ao aa.2.length ap)]), (.agg #[(.bool ab.1.1), (.slice ag ab.1.2.length ah), (.slice aq ab.2.length ar)])]) Tryz.func43 rfl rfl rfl rfl rfl ?_
 rw [m_frac_Cmp.eq_1] at hm
 have hst := St.start col w0
 refine wS <| wR ?_
 refine l_box (col := (col0 col)) (v := (.agg #[(.bool aa.1.1), (.slice ae aa.1.2.length af), (.slice ao aa.2.length ap)])) 1 rfl rfl ?_
 intro bb bp bc ay av
 replace av : Box 40 1 bc bp bb #[(.bool aa.1.1), (.slice ae aa.1.2.length af), (.slice ao aa.2.length ap)] := av
 refine l_box (col := bc) (v := (.agg #[(.bool ab.1.1), (.slice ag ab.1.2.length ah), (.slice aq ab.2.length ar)])) 2 rfl rfl ?_
 intro bd be ai aw a2
 replace a2 : Box 40 2 ai be bd #[(.bool ab.1.1), (.slice ag ab.1.2.length ah), (.slice aq ab.2.length ar)] := a2
 refine lA (.int .i64 0) <| lN <| wS ?_
 refine wmix (col := ai) [(0, 1), (1, 0), (2, 0), (5, 1), (6, 0), (7, 0), (3, 3), (4, 3), (8, 3), (9, 3), (10, 3), (11, 1)] (by kernel_rfl) (by kernel_rfl) ?_
 refine xu (v := (.pointer ((some (⟨bb, 0, none⟩ : Addr)).map (·.add 0)))) rfl rfl (fun _ => rF (sz := 2) (off := 0) Tryz.underlying40 rfl Tryz.sizeOf38 (by decide) rfl rfl ⟨_, _, rfl⟩) ?_
 replace av := av.gr aw
 refine xv (v := (.agg #[(.bool aa.1.1), (.slice ae aa.1.2.length af)])) rfl rfl (fun _ hC => r_ldN Tryz.isAgg38 Tryz.sizeOf38 rfl rfl (((av.atN).part 0 2 _ rfl).gr (Grow.of_below (col := ai) hC.below))) ?_
 refine xv (v := (.agg #[(.bool ab.1.1), (.slice ag ab.1.2.length ah), (.slice aq ab.2.length ar)])) rfl rfl (fun _ hC => r_ldN Tryz.isAgg40 Tryz.sizeOf40 rfl rfl (a2.atN.gr (Grow.of_below (col := ai) hC.below))) ?_
 refine xu (v := (.pointer ((some (⟨bd, 0, none⟩ : Addr)).map (·.add 0)))) rfl rfl (fun _ => rF (sz := 2) (off := 0) Tryz.underlying40 rfl Tryz.sizeOf38 (by decide) rfl rfl ⟨_, _, rfl⟩) ?_
 refine xv (v := (.agg #[(.bool ab.1.1), (.slice ag ab.1.2.length ah)])) rfl rfl (fun _ hC => r_ldN Tryz.isAgg38 Tryz.sizeOf38 rfl rfl (((a2.atN).part 0 2 _ rfl).gr (Grow.of_below (col := ai) hC.below))) ?_
 refine xv (v := (.agg #[(.bool aa.1.1), (.slice ae aa.1.2.length af), (.slice ao aa.2.length ap)])) rfl rfl (fun _ hC => r_ldN Tryz.isAgg40 Tryz.sizeOf40 rfl rfl (av.atN.gr (Grow.of_below (col := ai) hC.below))) ?_
 refine xe rfl rfl ?_
 intro bq hC0
 have hC : Grow ai be ai bq := .of_below hC0.below
 obtain ⟨bf, br, hm⟩ := bS hm
 replace ad := (((ad.keep (Stay.start col w0)).gr ay).gr aw).gr hC
 replace a5 := (((a5.keep (Stay.start col w0)).gr ay).gr aw).gr hC
 refine lc rfl rfl (r_call1 Tryz.call56 rfl) (c_frac_under N 3 ai _ ag ah aq ar ((ab.1.1, ab.1.2), ab.2) ad a5 bf br) ?_
 rintro _ bg ⟨al, bs, bt, rfl, az, a6⟩
 refine ⟨_, rfl, ?_⟩
 refine lN ⟨fun w' => Grow al bg al w', Grow.refl _ _, fun _ _ h => cls hC0 az h, ?_⟩
 refine xe rfl rfl ?_
 intro bh hC0
 replace ak := ((((ak.keep (Stay.start col w0)).gr ay).gr aw).gr hC).gr az
 replace au := ((((au.keep (Stay.start col w0)).gr ay).gr aw).gr hC).gr az
 replace hst := (((hst.grow ay).grow aw).grow hC).grow az
 have hC : Grow al bg al bh := .of_below hC0.below
 obtain ⟨a7, bu, hm⟩ := bS hm
 replace ak := ak.gr hC
 replace a6 := a6.gr hC
 refine lc rfl rfl (r_call2 Tryz.call81 rfl rfl) (c_frac_over N 4 (frC 3 al) _ ae af (aa.1.1, aa.1.2) bs bt bf (ak.froz 3) (a6.toSlF (Froz.int .u32)) a7 bu) ?_
 rintro _ bi ⟨bv, bw, bx, rfl, am, aj⟩
 refine ⟨_, rfl, ?_⟩
 replace aj := aj.thaw (flat_int .u32) am ((Fz.refl (col := al)).froz 3) (by decide)
 replace am := am.thawR (col := al)
 generalize colR bh.heap.size al bv = a0 at *
 refine lN ⟨fun w' => Grow a0 bi a0 w', Grow.refl _ _, fun _ _ h => cls hC0 am h, ?_⟩
 refine xe rfl rfl ?_
 intro bz hC0
 replace ad := ((ad.gr az).gr hC).gr am
 replace au := (au.gr hC).gr am
 replace hst := (hst.grow hC).grow am
 have hC : Grow a0 bi a0 bz := .of_below hC0.below
 obtain ⟨bj, b0, hm⟩ := bS hm
 replace ak := (ak.gr am).gr hC
 replace au := au.gr hC
 refine lc rfl rfl (r_call1 Tryz.call56 rfl) (c_frac_under N 5 a0 _ ae af ao ap ((aa.1.1, aa.1.2), aa.2) ak au bj b0) ?_
 rintro _ bk ⟨an, b1, b2, rfl, a3, a8⟩
 refine ⟨_, rfl, ?_⟩
 refine lN ⟨fun w' => Grow an bk an w', Grow.refl _ _, fun _ _ h => cls hC0 a3 h, ?_⟩
 refine xe rfl rfl ?_
 intro bl hC0
 replace ad := (ad.gr hC).gr a3
 replace aj := (aj.gr hC).gr a3
 replace hst := (hst.grow hC).grow a3
 have hC : Grow an bk an bl := .of_below hC0.below
 obtain ⟨a9, b3, hm⟩ := bS hm
 replace ad := ad.gr hC
 replace a8 := a8.gr hC
 refine lc rfl rfl (r_call2 Tryz.call81 rfl rfl) (c_frac_over N 6 (frC 5 an) _ ag ah (ab.1.1, ab.1.2) b1 b2 bj (ad.froz 5) (a8.toSlF (Froz.int .u32)) a9 b3) ?_
 rintro _ bm ⟨b4, b5, b6, rfl, ax, a1⟩
 refine ⟨_, rfl, ?_⟩
 replace a1 := a1.thaw (flat_int .u32) ax ((Fz.refl (col := an)).froz 5) (by decide)
 replace ax := ax.thawR (col := an)
 generalize colR bl.heap.size an b4 = ac at *
 refine lN ⟨fun w' => Grow ac bm ac w', Grow.refl _ _, fun _ _ h => cls hC0 ax h, ?_⟩
 refine xe rfl rfl ?_
 intro bn hC0
 replace aj := (aj.gr hC).gr ax
 replace hst := (hst.grow hC).grow ax
 have hC : Grow ac bm ac bn := .of_below hC0.below
 obtain ⟨bo, b7, hm⟩ := bS hm
 replace aj := aj.gr hC
 replace a1 := a1.gr hC
 refine lc rfl rfl (r_call2 Tryz.call93 rfl rfl) (c_whole_Cmp N (frC 6 (frC 4 ac)) _ bw bx (a7.1, a7.2) b5 b6 (a9.1, a9.2) ((aj.toSlF (Froz.int .u32)).froz 6) ((a1.froz 4 (by decide)).toSlF (Froz.int .u32)) bo b7) ?_
 rintro _ ba ⟨rfl, a4⟩
 refine ⟨_, rfl, ?_⟩
 replace a4 : Grow ac bn ac ba := .of_below a4
 refine lN ⟨fun w' => Grow ac ba ac w', Grow.refl _ _, fun _ _ h => cls hC0 a4 h, ?_⟩
 refine xu (v := (.int .i64 bo)) rfl rfl (fun _ => r_assign rfl) ?_
 refine xnil ?_
 replace hst := (hst.grow hC).grow a4
 intro b8 hC
 replace hC : Grow ac ba ac b8 := .of_below hC.below
 refine wret ?_
 cases hm
 replace hst := hst.grow hC
 exact ⟨rfl, rfl, hst.below⟩
def m_model_whole_L1_Xret (aa : Bool) : Option Bool :=
  some aa
def m_model_whole_L1 (N : Nat) : List (List ((Bool × (List Int)) × (List Int))) → Bool → Option Bool
  | [], ac => some true
  | ad :: ae, ac => (m_frac_Sum N ad).bind fun aa => (m_model_one N).bind fun ab => (m_frac_Cmp N ((aa.1.1, aa.1.2), aa.2) ((ab.1.1, ab.1.2), ab.2)).bind fun af => if (!decide (af = 0)) = true then none else ((m_model_whole_L1 N ae) ac)
termination_by structural x => x
def m_model_whole (N : Nat) (aa : (List ((Bool × (List Int)) × (List Int)))) (ab : Int) : Option Bool :=
  (m_slices_Chunk_api_Rat_api_Rat N aa ab).bind fun ac => m_model_whole_L1 N ac false
theorem c_model_whole (N : Nat) (col : Col) (w0 : World) (a0 : Option Addr) (cap0 : Nat) (ag : (List ((Bool × (List Int)) × (List Int)))) (ah : Int) (h0 : Sl (Rep.pair (Rep.pair Rep.bool (Rep.slice (Rep.int .u32))) (Rep.slice (Rep.int .u32))) col w0 a0 cap0 ag) (r : Bool) (hm : m_model_whole N ag ah = some r) :
    Calls Tryz.prog 120 #[(.slice a0 ag.length cap0), (.int .i64 ah)] w0 (fun e w' => e = .returned ((.bool r)) ∧ Below w0.heap.size w0 w') := by
 refine calls_ofMR (m := 15) (args := [(.slice a0 ag.length cap0), (.int .i64 ah)]) Tryz.func120 rfl rfl rfl ?_
 rw [m_model_whole.eq_1] at hm
 have hst := St.start col w0
 replace h0 := h0.keep (Stay.start col w0)
 have hmk : Marks (col0 col) w0 [] := .nil
 refine wS <| wR ?_
 refine l_alloc (col := (col0 col)) (v := (.bool false)) 1 rfl Tryz.zeroValue4 ?_
 intro al a7 a1 ap aa
 replace aa : Box 4 1 a1 a7 al #[(.bool false)] := aa
 refine lN <| wS <| wS <| wR <| lM (.slice a0 ag.length cap0) <| lM (.int .i64 ah) ?_
 obtain ⟨a2, a8, hm⟩ := bS hm
 replace h0 := h0.gr ap
 refine lc rfl rfl (r_call2 Tryz.call150 rfl rfl) (c_slices_Chunk_api_Rat_api_Rat N a1 _ a0 cap0 ag ah h0 a2 a8) ?_
 rintro _ bx ⟨a9, bz, rfl, aq, ba⟩
 refine ⟨_, rfl, ?_⟩
 refine lN <| wB ?_
 replace hmk := (hmk.gr ap).gr aq
 replace hst := (hst.grow ap).grow aq
 replace aa := aa.gr aq
 refine wrange (psl := [9]) (arr := (fun (y : List ((Bool × (List Int)) × (List Int))) (col : Col) (w : World) (args : List Value) => ∃ (a0 : Option Addr) (cap0 : Nat), args = [.slice a0 y.length cap0] ∧ Sl (Rep.pair (Rep.pair Rep.bool (Rep.slice (Rep.int .u32))) (Rep.slice (Rep.int .u32))) col w a0 cap0 y)) (ys := a2) (col := a9) 498 rfl ba rfl hmk rfl rfl (by rintro _ _ _ _ ⟨_, _, rfl, _⟩; rfl) (fun ys_ ab ad => ∃ (ac : Bool), m_model_whole_L1 N ys_ ac = some r ∧ St w0 (col0 col) ab ad ∧ Box 4 1 ab ad al #[(.bool ac)]) (fun c_ ab ad => (c_ = .ret ∧ ∃ (ac : Bool), m_model_whole_L1_Xret  ac = some r ∧ St w0 (col0 col) ab ad ∧ Box 4 1 ab ad al #[(.bool ac)])) ?_ ?_ ⟨false, hm, hst, aa⟩ ?_ ?_ ?_
 ·intro ys_ ab ad col2_ w2_ hJ hk
  obtain ⟨ac, hm, hst, aa⟩ := hJ
  exact ⟨ac, hm, hst.kpp hk rfl rfl, aa.kpp hk rfl⟩
 ·intro c_ ab ad col2_ w2_ hX hk
  obtain ⟨rfl, hX⟩ := hX
  obtain ⟨ac, hm, hst, aa⟩ := hX
  exact ⟨rfl, ⟨ac, hm, hst.kpp hk rfl rfl, aa.kpp hk rfl⟩⟩
 ·intro b0 b1 b2 ar b3 ab ad args hJ hrec hmk harr
  obtain ⟨ac, hm, hst, aa⟩ := hJ
  rw [m_model_whole_L1.eq_2] at hm
  have hki := KeepP.refl pCo ab ad
  obtain ⟨au, av, rfl, aw⟩ := harr
  refine wR <| lA (.slice au ar.length av) <| lN ?_
  refine ⟨_, hrec, ?_⟩
  intro b4 b5 ai a3 hrec2
  clear hrec
  have hrec := hrec2
  clear hrec2
  refine wB <| wS <| wR <| lM (.slice au ar.length av) ?_
  obtain ⟨am, bb, hm⟩ := bS hm
  replace aw := aw.kp ai
  refine lc rfl rfl (r_call1 Tryz.call51 rfl) (c_frac_Sum N 2 3 ab _ au av ar aw am bb) ?_
  rintro _ b6 ⟨bc, bd, be, bf, bg, rfl, aj, ax, ay⟩
  refine ⟨_, rfl, ?_⟩
  obtain ⟨an, bh, hm⟩ := bS hm
  refine lc rfl rfl (r_call0 Tryz.call141 ) (c_model_one N 4 5 bc _ an bh) ?_
  rintro _ bi ⟨az, bj, bk, bl, bm, rfl, ae, bn, bo⟩
  refine ⟨_, rfl, ?_⟩
  obtain ⟨ao, bp, hm⟩ := bS hm
  replace ax := ax.gr ae
  replace ay := ay.gr ae
  refine lc rfl rfl (r_call2 Tryz.call43 rfl rfl) (c_frac_Cmp N (frC 5 (frC 4 (frC 3 (frC 2 az)))) _ bd be bf bg ((am.1.1, am.1.2), am.2) bj bk bl bm ((an.1.1, an.1.2), an.2) ((((ax.toSlF (Froz.int .u32)).froz 3).froz 4).froz 5) ((((ay.froz 2 (by decide)).toSlF (Froz.int .u32)).froz 4).froz 5) ((((bn.froz 2 (by decide)).froz 3 (by decide)).toSlF (Froz.int .u32)).froz 5) ((((bo.froz 2 (by decide)).froz 3 (by decide)).froz 4 (by decide)).toSlF (Froz.int .u32)) ao bp) ?_
  rintro _ bq ⟨rfl, af⟩
  refine ⟨_, rfl, ?_⟩
  replace af : Grow az bi az bq := .of_below af
  refine lV (.bool (!decide (ao = 0))) (r_neq ao 0 rfl rfl) <| lN ?_
  replace aa := (((aa.kp ai).gr aj).gr ae).gr af
  replace hmk := (((hmk.kp ai).gr aj).gr ae).gr af
  replace hki := (((hki.kp ai a3 rfl).gr aj).gr ae).gr af
  replace hst := (((hst.kp ai a3).grow aj).grow ae).grow af
  replace hrec := ((hrec.gr aj).gr ae).gr af
  refine wcond (!decide (ao = 0)) rfl (fun hb => ?_) (fun hb => ?_)
  ·rw [if_pos hb] at hm
   clear hb
   cases hm
  rw [if_neg (by rw [hb]; decide)] at hm
  clear hb
  refine wK ?_
  exact ⟨_, hki, ⟨ac, hm, hst, aa⟩, hrec, hmk⟩
 ·clear hmk
  intro br ab ad hJ hmk
  obtain ⟨ac, hm, hst, aa⟩ := hJ
  rw [m_model_whole_L1.eq_1] at hm
  refine wS <| wR ?_
  refine l_bstore (v := (.bool true)) aa Tryz.sizeOf4 rfl rfl (by intro u hu; simp only [Value.cells, List.mem_cons, List.not_mem_nil, or_false] at hu; subst hu; rfl) rfl rfl ?_
  intro bs a4 bt ak
  clear aa
  replace ak : Box 4 1 ab bs al #[(.bool true)] := ak
  refine lN ?_
  refine wret ?_
  cases hm
  replace hmk := hmk.kp a4
  refine ⟨_, (br :: []), rfl, hmk, ?_⟩
  intro b7 a5 bu
  clear hmk
  replace hst := (hst.kp a4 bt).kp a5 bu
  replace ak := ak.kp a5
  exact ⟨_, res_cell1 rfl rfl Tryz.isAgg4 rfl ak.at1, rfl, hst.below⟩
 clear hmk
 intro c_ bv ab ad hX hmk
 obtain ⟨rfl, hX⟩ := hX
 obtain ⟨ac, hm, hst, aa⟩ := hX
 rw [m_model_whole_L1_Xret.eq_1] at hm
 refine wret ?_
 cases hm
 refine ⟨_, (bv :: []), rfl, hmk, ?_⟩
 intro b8 a6 bw
 clear hmk
 replace aa := aa.kp a6
 replace hst := hst.kp a6 bw
 exact ⟨_, res_cell1 rfl rfl Tryz.isAgg4 rfl aa.at1, rfl, hst.below⟩
def m_frac_Sign (N : Nat) (aa : ((Bool × (List Int)) × (List Int))) : Option Int :=
  (m_whole_Sign N (aa.1.1, aa.1.2)).bind fun ab => some ab
theorem c_frac_Sign (N : Nat) (col : Col) (w0 : World) (ab : Option Addr) (ac : Nat) (ad : Option Addr) (ae : Nat) (aa : ((Bool × (List Int)) × (List Int))) (ag : Sl (Rep.int .u32) col w0 ab ac aa.1.2) (ap : Sl (Rep.int .u32) col w0 ad ae aa.2) (r : Int) (hm : m_frac_Sign N aa = some r) :
    Calls Tryz.prog 24 #[(.agg #[(.bool aa.1.1), (.slice ab aa.1.2.length ac), (.slice ad aa.2.length ae)])] w0 (fun e w' => e = .returned ((.int .i64 r)) ∧ Below w0.heap.size w0 w') := by
 refine calls_of1 2 (m := 6) (args := [(.agg #[(.bool aa.1.1), (.slice ab aa.1.2.length ac), (.slice ad aa.2.length ae)])]) Tryz.func24 rfl rfl rfl rfl rfl ?_
 rw [m_frac_Sign.eq_1] at hm
 have hst := St.start col w0
 refine wS <| wR ?_
 refine l_box (col := (col0 col)) (v := (.agg #[(.bool aa.1.1), (.slice ab aa.1.2.length ac), (.slice ad aa.2.length ae)])) 1 rfl rfl ?_
 intro aj ak af al ah
 replace ah : Box 40 1 af ak aj #[(.bool aa.1.1), (.slice ab aa.1.2.length ac), (.slice ad aa.2.length ae)] := ah
 refine lA (.int .i64 0) <| lN <| wS <| wR <| lV (.pointer ((some (⟨aj, 0, none⟩ : Addr)).map (·.add 0))) (rF (sz := 2) (off := 0) Tryz.underlying40 rfl Tryz.sizeOf38 (by decide) rfl rfl ⟨_, _, rfl⟩) <| lV (.agg #[(.bool aa.1.1), (.slice ab aa.1.2.length ac)]) (r_ldN Tryz.isAgg38 Tryz.sizeOf38 rfl rfl ((ah.atN).part 0 2 _ rfl)) ?_
 obtain ⟨am, an, hm⟩ := bS hm
 replace ag := (ag.keep (Stay.start col w0)).gr al
 refine lc rfl rfl (r_call1 Tryz.call76 rfl) (c_whole_Sign N af _ ab ac (aa.1.1, aa.1.2) ag am an) ?_
 rintro _ ao ⟨rfl, ai⟩
 refine ⟨_, rfl, ?_⟩
 replace ai : Grow af ak af ao := .of_below ai
 refine lA (.int .i64 am) <| lN ?_
 refine wret ?_
 cases hm
 replace hst := (hst.grow al).grow ai
 exact ⟨rfl, rfl, hst.below⟩
def m_model_outside_J1 (aa : Bool) : Option Bool :=
  some aa
def m_model_outside (N : Nat) (aa : ((Bool × (List Int)) × (List Int))) : Option Bool :=
  (m_frac_Sign N ((aa.1.1, aa.1.2), aa.2)).bind fun ac => if (decide (ac < 0)) = true then (m_model_outside_J1 true) else ((m_model_one N).bind fun ab => (m_frac_Cmp N ((aa.1.1, aa.1.2), aa.2) ((ab.1.1, ab.1.2), ab.2)).bind fun ad => m_model_outside_J1 (decide (0 < ad)))
theorem c_model_outside (N : Nat) (col : Col) (w0 : World) (ah : Option Addr) (ai : Nat) (aj : Option Addr) (ak : Nat) (aa : ((Bool × (List Int)) × (List Int))) (ae : Sl (Rep.int .u32) col w0 ah ai aa.1.2) (af : Sl (Rep.int .u32) col w0 aj ak aa.2) (r : Bool) (hm : m_model_outside N aa = some r) :
    Calls Tryz.prog 119 #[(.agg #[(.bool aa.1.1), (.slice ah aa.1.2.length ai), (.slice aj aa.2.length ak)])] w0 (fun e w' => e = .returned ((.bool r)) ∧ Below w0.heap.size w0 w') := by
 refine calls_of1 2 (m := 12) (args := [(.agg #[(.bool aa.1.1), (.slice ah aa.1.2.length ai), (.slice aj aa.2.length ak)])]) Tryz.func119 rfl rfl rfl rfl rfl ?_
 rw [m_model_outside.eq_1] at hm
 have hst := St.start col w0
 refine wS <| wR ?_
 refine l_box (col := (col0 col)) (v := (.agg #[(.bool aa.1.1), (.slice ah aa.1.2.length ai), (.slice aj aa.2.length ak)])) 1 rfl rfl ?_
 intro a5 az ab au am
 replace am : Box 40 1 ab az a5 #[(.bool aa.1.1), (.slice ah aa.1.2.length ai), (.slice aj aa.2.length ak)] := am
 refine lA (.bool false) <| lN <| wS ?_
 replace ae := (ae.keep (Stay.start col w0)).gr au
 replace af := (af.keep (Stay.start col w0)).gr au
 replace hst := hst.grow au
 refine Wp.cut (fun f a0 => ∃ (a1 : Col) (av : Bool), m_model_outside_J1 av = some r ∧ St w0 (col0 col) a1 a0 ∧ f 2 = (.bool av) ∧ f 1000000 = (enc [])) ?_ ?_
 ·intro f a0 hJ
  obtain ⟨a1, av, hm, hst, hs2, hs1000000⟩ := hJ
  rw [m_model_outside_J1.eq_1] at hm
  refine .lD 2 hs2 <| .lD 1000000 hs1000000 ?_
  clear hs2 hs1000000
  refine wret ?_
  cases hm
  exact ⟨rfl, rfl, hst.below⟩
 refine wmix (col := ab) [(0, 0), (1, 3), (2, 1), (3, 1), (4, 0), (5, 3), (6, 3), (7, 1), (8, 1), (9, 1)] (by kernel_rfl) (by kernel_rfl) ?_
 refine xv (v := (.agg #[(.bool aa.1.1), (.slice ah aa.1.2.length ai), (.slice aj aa.2.length ak)])) rfl rfl (fun _ hC => r_ldN Tryz.isAgg40 Tryz.sizeOf40 rfl rfl (am.atN.gr (Grow.of_below (col := ab) hC.below))) ?_
 refine xe rfl rfl ?_
 intro a2 hC0
 have hC : Grow ab az ab a2 := .of_below hC0.below
 obtain ⟨ad, a6, hm⟩ := bS hm
 replace ae := ae.gr hC
 replace af := af.gr hC
 refine lc rfl rfl (r_call1 Tryz.call24 rfl) (c_frac_Sign N ab _ ah ai aj ak ((aa.1.1, aa.1.2), aa.2) ae af ad a6) ?_
 rintro _ ao ⟨rfl, al⟩
 refine ⟨_, rfl, ?_⟩
 replace al : Grow ab a2 ab ao := .of_below al
 refine lN ⟨fun w' => Grow ab ao ab w', Grow.refl _ _, fun _ _ h => cls hC0 al h, ?_⟩
 refine xu (v := (.bool (decide (ad < 0)))) rfl rfl (fun _ => r_lss ad 0 rfl rfl) ?_
 refine xu (v := (.bool (decide (ad < 0)))) rfl rfl (fun _ => r_move rfl) ?_
 replace am := (am.gr hC).gr al
 replace hst := (hst.grow hC).grow al
 replace ae := ae.gr al
 replace af := af.gr al
 by_cases ac : (decide (ad < 0)) = true
 ·rw [if_pos ac] at hm
  refine xpass (b := decide (ad < 0)) 6 rfl rfl rfl rfl rfl (by rw [ac]; rfl) ?_
  refine xpass (b := decide (ad < 0)) 6 rfl rfl rfl rfl rfl (by rw [ac]; rfl) ?_
  refine xpass (b := decide (ad < 0)) 6 rfl rfl rfl rfl rfl (by rw [ac]; rfl) ?_
  refine xpass (b := decide (ad < 0)) 6 rfl rfl rfl rfl rfl (by rw [ac]; rfl) ?_
  refine xu (v := (.bool true)) rfl rfl (fun _ => r_pickT (congrArg Value.bool ac) rfl) ?_
  refine xu (v := (.bool true)) rfl rfl (fun _ => r_assign rfl) ?_
  refine xnil ?_
  intro a7 hC
  replace hC : Grow ab ao ab a7 := .of_below hC.below
  replace hst := hst.grow hC
  exact ⟨ab, true, hm, hst, rfl, rfl⟩
 rw [if_neg ac] at hm
 replace ac := Bool.eq_false_iff.2 ac
 refine xv_g (v := (.agg #[(.bool aa.1.1), (.slice ah aa.1.2.length ai), (.slice aj aa.2.length ak)])) (b := decide (ad < 0)) 6 rfl rfl rfl rfl rfl (by rw [ac]; rfl) (fun _ hC => r_ldN Tryz.isAgg40 Tryz.sizeOf40 rfl rfl (am.atN.gr (Grow.of_below (col := ab) hC.below))) ?_
 refine xe rfl rfl ?_
 intro a8 hC0
 have hC : Grow ab ao ab a8 := .of_below hC0.below
 refine lg (b := decide (ad < 0)) 6 rfl rfl rfl (by rw [ac]; rfl) ?_
 obtain ⟨ap, a9, hm⟩ := bS hm
 refine lc rfl rfl (r_call0 Tryz.call141 ) (c_model_one N 6 7 ab _ ap a9) ?_
 rintro _ a3 ⟨ag, ba, bb, bc, bd, rfl, aq, aw, ax⟩
 refine ⟨_, rfl, ?_⟩
 refine lN ⟨fun w' => Grow ag a3 ag w', Grow.refl _ _, fun _ _ h => cls hC0 aq h, ?_⟩
 refine xe rfl rfl ?_
 intro a4 hC0
 replace ae := (ae.gr hC).gr aq
 replace af := (af.gr hC).gr aq
 replace hst := (hst.grow hC).grow aq
 have hC : Grow ag a3 ag a4 := .of_below hC0.below
 refine lg (b := decide (ad < 0)) 6 rfl rfl rfl (by rw [ac]; rfl) ?_
 obtain ⟨an, be, hm⟩ := bS hm
 replace ae := ae.gr hC
 replace af := af.gr hC
 replace aw := aw.gr hC
 replace ax := ax.gr hC
 refine lc rfl rfl (r_call2 Tryz.call43 rfl rfl) (c_frac_Cmp N (frC 7 (frC 6 ag)) _ ah ai aj ak ((aa.1.1, aa.1.2), aa.2) ba bb bc bd ((ap.1.1, ap.1.2), ap.2) ((ae.froz 6).froz 7) ((af.froz 6).froz 7) ((aw.toSlF (Froz.int .u32)).froz 7) ((ax.froz 6 (by decide)).toSlF (Froz.int .u32)) an be) ?_
 rintro _ ay ⟨rfl, ar⟩
 refine ⟨_, rfl, ?_⟩
 replace ar : Grow ag a4 ag ay := .of_below ar
 refine lN ⟨fun w' => Grow ag ay ag w', Grow.refl _ _, fun _ _ h => cls hC0 ar h, ?_⟩
 refine xu_g (v := (.bool (decide (0 < an)))) (b := decide (ad < 0)) 6 rfl rfl rfl rfl rfl (by rw [ac]; rfl) (fun _ => r_gtr an 0 rfl rfl) ?_
 refine xu (v := (.bool (decide (0 < an)))) rfl rfl (fun _ => r_pickF (congrArg Value.bool ac) rfl) ?_
 refine xu (v := (.bool (decide (0 < an)))) rfl rfl (fun _ => r_assign rfl) ?_
 refine xnil ?_
 replace hst := (hst.grow hC).grow ar
 intro bf hC
 replace hC : Grow ag ay ag bf := .of_below hC.below
 replace hst := hst.grow hC
 exact ⟨ag, (decide (0 < an)), hm, hst, rfl, rfl⟩
def m_slices_IndexFunc_api_Rat_api_Rat_v1f119_L1 (N : Nat) : List ((Bool × (List Int)) × (List Int)) → Nat → Option Int
  | [], ab => some (-1)
  | aa :: ac, ab => (m_model_outside N ((aa.1.1, aa.1.2), aa.2)).bind fun ad => if ad = true then none else ((m_slices_IndexFunc_api_Rat_api_Rat_v1f119_L1 N ac) (ab + 1))
termination_by structural x => x
def m_slices_IndexFunc_api_Rat_api_Rat_v1f119 (N : Nat) (aa : (List ((Bool × (List Int)) × (List Int)))) : Option Int :=
  m_slices_IndexFunc_api_Rat_api_Rat_v1f119_L1 N aa 0
theorem c_slices_IndexFunc_api_Rat_api_Rat_v1f119 (N : Nat) (col : Col) (w0 : World) (a0 : Option Addr) (cap0 : Nat) (aa : (List ((Bool × (List Int)) × (List Int)))) (h0 : Sl (Rep.pair (Rep.pair Rep.bool (Rep.slice (Rep.int .u32))) (Rep.slice (Rep.int .u32))) col w0 a0 cap0 aa) (r : Int) (hm : m_slices_IndexFunc_api_Rat_api_Rat_v1f119 N aa = some r) :
    Calls Tryz.prog 149 #[(.slice a0 aa.length cap0), (.func (.func 119) #[] #[])] w0 (fun e w' => e = .returned ((.int .i64 r)) ∧ Below w0.heap.size w0 w') := by
 refine calls_of1 4 (m := 19) (args := [(.slice a0 aa.length cap0), (.func (.func 119) #[] #[])]) Tryz.func149 rfl rfl rfl rfl rfl ?_
 rw [m_slices_IndexFunc_api_Rat_api_Rat_v1f119.eq_1] at hm
 have hst := St.start col w0
 refine wS <| wR <| lA (.int .i64 0) <| lN <| wS <| wS <| wR <| lM (.slice a0 aa.length cap0) <| lV (.int .i64 (aa.length : Int)) (r_len Tryz.underlying51 rfl) <| lM (.int .i64 0) <| lN <| wB ?_
 replace h0 := h0.keep (Stay.start col w0)
 refine wloop (fun n f af => ∃ (ac : Col) (ab : Nat) (ae : List ((Bool × (List Int)) × (List Int))), n = ae.length ∧ aa.drop ab = ae ∧ m_slices_IndexFunc_api_Rat_api_Rat_v1f119_L1 N ae ab = some r ∧ St w0 (col0 col) ac af ∧ Sl (Rep.pair (Rep.pair Rep.bool (Rep.slice (Rep.int .u32))) (Rep.slice (Rep.int .u32))) ac af a0 cap0 aa ∧ f 8 = (.int .i64 (ab : Int)) ∧ f 0 = (.slice a0 aa.length cap0) ∧ f 1 = (.func (.func 119) #[] #[]) ∧ f 7 = (.int .i64 (aa.length : Int)) ∧ f 1000000 = (enc [])) aa.length ⟨(col0 col), 0, aa, rfl, rfl, hm, hst, h0, rfl, rfl, rfl, rfl, rfl⟩ ?_
 clear hm; intro n f af hI
 obtain ⟨ac, ab, ae, hn, hl, hm, hst, h0, hs8, hs0, hs1, hs7, hs1000000⟩ := hI
 subst hn
 refine .lD 8 hs8 <| .lD 0 hs0 <| .lD 1 hs1 <| .lD 7 hs7 <| .lD 1000000 hs1000000 ?_
 clear hs8 hs0 hs1 hs7 hs1000000
 cases ae with
 | nil =>
  have hk : ¬ ((ab : Int) < (aa.length : Int)) := by have := List.drop_eq_nil_iff.1 hl; omega
  have hkb := decide_eq_false hk
  rw [m_slices_IndexFunc_api_Rat_api_Rat_v1f119_L1.eq_1] at hm
  refine wS <| wR <| lV (.bool (decide ((ab : Int) < (aa.length : Int)))) (r_lss (ab : Int) (aa.length : Int) rfl rfl) <| lN <| wS ?_
  refine wcondF (congrArg Value.bool hkb) ?_
  refine wexit (inB_hit ?_)
  refine wS <| wR <| lA (.int .i64 (-1)) <| lN ?_
  refine wret ?_
  cases hm
  exact ⟨rfl, rfl, hst.below⟩
 | cons ad ah =>
  obtain ⟨hat, hl2_L1, hlt_L1⟩ := drop_get hl
  have hk : (ab : Int) < (aa.length : Int) := by omega
  have hkb := decide_eq_true hk
  rw [m_slices_IndexFunc_api_Rat_api_Rat_v1f119_L1.eq_2] at hm
  refine wS <| wR <| lV (.bool (decide ((ab : Int) < (aa.length : Int)))) (r_lss (ab : Int) (aa.length : Int) rfl rfl) <| lN <| wS ?_
  refine wcondT (congrArg Value.bool hkb) ?_
  refine wK <| wS <| wB <| wS <| wR <| lM (.int .i64 (ab : Int)) <| lA (.int .i64 (ab : Int)) <| lN <| wS <| wR <| lM (.func (.func 119) #[] #[]) <| lM (.slice a0 aa.length cap0) <| lM (.int .i64 (ab : Int)) ?_
  refine lV (sptr a0 (Int.toNat (ab : Int) * 3)) (r_idx Tryz.underlying51 Tryz.sizeOf40 rfl rfl (at?_some hat).1 (at?_some hat).2.1 (h0.addr hat)) ?_
  obtain ⟨_, an, ao⟩ := h0.atN hat
  obtain ⟨_, _, rfl, ap, aq⟩ := rd_pair an
  obtain ⟨_, _, rfl, ar, au⟩ := rd_pair ap
  obtain ⟨rfl, _⟩ := ar
  obtain ⟨⟨ai, aj, rfl, av⟩, _⟩ := au
  obtain ⟨⟨ak, al, rfl, aw⟩, _⟩ := aq
  refine lV (.agg #[(.bool ad.1.1), (.slice ai ad.1.2.length aj), (.slice ak ad.2.length al)]) (r_ldN Tryz.isAgg40 Tryz.sizeOf40 rfl rfl ao) ?_
  obtain ⟨am, ax, hm⟩ := bS hm
  refine lc rfl rfl (r_callv1 Tryz.call119 rfl rfl) (c_model_outside N ac _ ai aj ak al ((ad.1.1, ad.1.2), ad.2) av aw am ax) ?_
  rintro _ ay ⟨rfl, ag⟩
  refine ⟨_, rfl, ?_⟩
  replace ag : Grow ac af ac ay := .of_below ag
  refine lN ?_
  replace h0 := h0.gr ag
  replace hst := hst.grow ag
  refine wcond (am) rfl (fun hb => ?_) (fun hb => ?_)
  ·rw [if_pos hb] at hm
   clear hb
   cases hm
  rw [if_neg (by rw [hb]; decide)] at hm
  clear hb
  refine wK <| wR <| lV (.int .i64 (IntKind.i64.wrap ((ab : Int) + 1))) (r_add (ab : Int) 1 rfl rfl) <| lM (.int .i64 (IntKind.i64.wrap ((ab : Int) + 1))) <| lN ?_
  exact ⟨ah.length, by simp, ⟨ac, (ab + 1), ah, rfl, hl2_L1, hm, hst, h0, (congrArg (Value.int .i64) (wrap_succ (Nat.lt_of_lt_of_le hlt_L1 h0.1.1))), rfl, rfl, rfl, rfl⟩⟩
def m_slices_ContainsFunc_api_Rat_api_Rat_v1f119 (N : Nat) (aa : (List ((Bool × (List Int)) × (List Int)))) : Option Bool :=
  (m_slices_IndexFunc_api_Rat_api_Rat_v1f119 N aa).bind fun ab => some (decide (0 ≤ ab))
theorem c_slices_ContainsFunc_api_Rat_api_Rat_v1f119 (N : Nat) (col : Col) (w0 : World) (a0 : Option Addr) (cap0 : Nat) (aa : (List ((Bool × (List Int)) × (List Int)))) (h0 : Sl (Rep.pair (Rep.pair Rep.bool (Rep.slice (Rep.int .u32))) (Rep.slice (Rep.int .u32))) col w0 a0 cap0 aa) (r : Bool) (hm : m_slices_ContainsFunc_api_Rat_api_Rat_v1f119 N aa = some r) :
    Calls Tryz.prog 117 #[(.slice a0 aa.length cap0), (.func (.func 119) #[] #[])] w0 (fun e w' => e = .returned ((.bool r)) ∧ Below w0.heap.size w0 w') := by
 refine calls_of1 4 (m := 9) (args := [(.slice a0 aa.length cap0), (.func (.func 119) #[] #[])]) Tryz.func117 rfl rfl rfl rfl rfl ?_
 rw [m_slices_ContainsFunc_api_Rat_api_Rat_v1f119.eq_1] at hm
 have hst := St.start col w0
 refine wS <| wR <| lA (.bool false) <| lN <| wS <| wR <| lM (.slice a0 aa.length cap0) <| lM (.func (.func 119) #[] #[]) ?_
 obtain ⟨ab, ad, hm⟩ := bS hm
 replace h0 := h0.keep (Stay.start col w0)
 refine lc rfl rfl (r_call2 Tryz.call149 rfl rfl) (c_slices_IndexFunc_api_Rat_api_Rat_v1f119 N (col0 col) _ a0 cap0 aa h0 ab ad) ?_
 rintro _ ae ⟨rfl, ac⟩
 refine ⟨_, rfl, ?_⟩
 replace ac : Grow (col0 col) w0 (col0 col) ae := .of_below ac
 refine lV (.bool (decide (0 ≤ ab))) (r_geq ab 0 rfl rfl) <| lA (.bool (decide (0 ≤ ab))) <| lN ?_
 refine wret ?_
 cases hm
 replace hst := hst.grow ac
 exact ⟨rfl, rfl, hst.below⟩
def m_model_rows_L1 (ab : (ByteArray × (List ByteArray) × (List (List ByteArray)) × (List (List Int)) × (List (List ((Bool × (List Int)) × (List Int)))))) : List Int → Int → Option Int
  | [], aa => some aa
  | ad :: ae, aa => (at? ab.2.2.1 ad).bind fun ac => (m_model_rows_L1 ab ae) (if 1099511627776 < (IntKind.i64.wrap (aa * (ac.length : Int))) then 1099511627776 else (IntKind.i64.wrap (aa * (ac.length : Int))))
termination_by structural x => x
def m_model_rows (aa : (ByteArray × (List ByteArray) × (List (List ByteArray)) × (List (List Int)) × (List (List ((Bool × (List Int)) × (List Int)))))) (ab : Int) : Option Int :=
  (at? aa.2.2.2.1 ab).bind fun ac => m_model_rows_L1 aa ac 1
theorem c_model_rows (col : Col) (w0 : World) (al : Option Addr) (am : Nat) (af : Option Addr) (ah : Nat) (ag : Option Addr) (ai : Nat) (an : Option Addr) (ao : Nat) (aa : (ByteArray × (List ByteArray) × (List (List ByteArray)) × (List (List Int)) × (List (List ((Bool × (List Int)) × (List Int)))))) (av : Int) (aw : Sl Rep.str col w0 al am aa.2.1) (ap : Sl (Rep.slice Rep.str) col w0 af ah aa.2.2.1) (aq : Sl (Rep.slice (Rep.int .i64)) col w0 ag ai aa.2.2.2.1) (ax : Sl (Rep.slice (Rep.pair (Rep.pair Rep.bool (Rep.slice (Rep.int .u32))) (Rep.slice (Rep.int .u32)))) col w0 an ao aa.2.2.2.2) (r : Int) (hm : m_model_rows aa av = some r) :
    Calls Tryz.prog 116 #[(.agg #[(.string aa.1), (.slice al aa.2.1.length am), (.slice af aa.2.2.1.length ah), (.slice ag aa.2.2.2.1.length ai), (.slice an aa.2.2.2.2.length ao)]), (.int .i64 av)] w0 (fun e w' => e = .returned ((.int .i64 r)) ∧ Below w0.heap.size w0 w') := by
 refine calls_of1 4 (m := 29) (args := [(.agg #[(.string aa.1), (.slice al aa.2.1.length am), (.slice af aa.2.2.1.length ah), (.slice ag aa.2.2.2.1.length ai), (.slice an aa.2.2.2.2.length ao)]), (.int .i64 av)]) Tryz.func116 rfl rfl rfl rfl rfl ?_
 rw [m_model_rows.eq_1] at hm
 have hst := St.start col w0
 refine wS <| wR ?_
 refine l_box (col := (col0 col)) (v := (.agg #[(.string aa.1), (.slice al aa.2.1.length am), (.slice af aa.2.2.1.length ah), (.slice ag aa.2.2.2.1.length ai), (.slice an aa.2.2.2.2.length ao)])) 1 rfl rfl ?_
 intro ay a8 a6 az ar
 replace ar : Box 28 1 a6 a8 ay #[(.string aa.1), (.slice al aa.2.1.length am), (.slice af aa.2.2.1.length ah), (.slice ag aa.2.2.2.1.length ai), (.slice an aa.2.2.2.2.length ao)] := ar
 refine lA (.int .i64 0) <| lN <| wS <| wR <| lA (.int .i64 1) <| lN <| wS <| wS <| wR <| lV (.pointer ((some (⟨ay, 0, none⟩ : Addr)).map (·.add 3))) (rF (sz := 1) (off := 3) Tryz.underlying28 rfl Tryz.sizeOf25 (by decide) rfl rfl ⟨_, _, rfl⟩) <| lV (.slice ag aa.2.2.2.1.length ai) (r_ld Tryz.isAgg25 rfl ((ar.atN).nth (q := 3) (v := (.slice ag aa.2.2.2.1.length ai)) rfl)) <| lM (.int .i64 av) ?_
 obtain ⟨ac, a1, hm⟩ := bS hm
 replace aq := (aq.keep (Stay.start col w0)).gr az
 refine lV (sptr ag (Int.toNat av * 1)) (r_idx Tryz.underlying25 Tryz.sizeOf33 rfl rfl (at?_some a1).1 (at?_some a1).2.1 (aq.addr a1)) ?_
 obtain ⟨_, a9, ba⟩ := aq.atN a1
 obtain ⟨⟨a2, a5, rfl, au⟩, _⟩ := a9
 refine lV (.slice a2 ac.length a5) (r_ld Tryz.isAgg33 rfl ba.one) <| lV (.int .i64 (ac.length : Int)) (r_len Tryz.underlying33 rfl) <| lM (.int .i64 0) <| lN <| wB ?_
 replace aw := (aw.keep (Stay.start col w0)).gr az
 replace ap := (ap.keep (Stay.start col w0)).gr az
 replace ax := (ax.keep (Stay.start col w0)).gr az
 replace hst := hst.grow az
 refine wloop (fun n f ak => ∃ (aj : Col) (ad : Nat) (ab : Int) (a0 : List Int), n = a0.length ∧ ac.drop ad = a0 ∧ m_model_rows_L1 aa a0 ab = some r ∧ St w0 (col0 col) aj ak ∧ Sl (Rep.int .i64) aj ak a2 a5 ac ∧ Sl Rep.str aj ak al am aa.2.1 ∧ Sl (Rep.slice Rep.str) aj ak af ah aa.2.2.1 ∧ Sl (Rep.slice (Rep.int .i64)) aj ak ag ai aa.2.2.2.1 ∧ Sl (Rep.slice (Rep.pair (Rep.pair Rep.bool (Rep.slice (Rep.int .u32))) (Rep.slice (Rep.int .u32)))) aj ak an ao aa.2.2.2.2 ∧ Box 28 1 aj ak ay #[(.string aa.1), (.slice al aa.2.1.length am), (.slice af aa.2.2.1.length ah), (.slice ag aa.2.2.2.1.length ai), (.slice an aa.2.2.2.2.length ao)] ∧ f 14 = (.int .i64 (ad : Int)) ∧ f 12 = (.slice a2 ac.length a5) ∧ f 13 = (.int .i64 (ac.length : Int)) ∧ f 2 = (.pointer (some ⟨ay, 0, none⟩)) ∧ f 5 = (.int .i64 ab) ∧ f 1000000 = (enc [])) ac.length ⟨a6, 0, 1, ac, rfl, rfl, hm, hst, au, aw, ap, aq, ax, ar, rfl, rfl, rfl, rfl, rfl, rfl⟩ ?_
 clear hm; intro n f ak hI
 obtain ⟨aj, ad, ab, a0, hn, hl, hm, hst, au, aw, ap, aq, ax, ar, hs14, hs12, hs13, hs2, hs5, hs1000000⟩ := hI
 subst hn
 refine .lD 14 hs14 <| .lD 12 hs12 <| .lD 13 hs13 <| .lD 2 hs2 <| .lD 5 hs5 <| .lD 1000000 hs1000000 ?_
 clear hs14 hs12 hs13 hs2 hs5 hs1000000
 cases a0 with
 | nil =>
  have hk : ¬ ((ad : Int) < (ac.length : Int)) := by have := List.drop_eq_nil_iff.1 hl; omega
  have hkb := decide_eq_false hk
  rw [m_model_rows_L1.eq_1] at hm
  refine wS <| wR <| lV (.bool (decide ((ad : Int) < (ac.length : Int)))) (r_lss (ad : Int) (ac.length : Int) rfl rfl) <| lN <| wS ?_
  refine wcondF (congrArg Value.bool hkb) ?_
  refine wexit (inB_hit ?_)
  refine wS <| wR <| lM (.int .i64 ab) <| lA (.int .i64 ab) <| lN ?_
  refine wret ?_
  cases hm
  exact ⟨rfl, rfl, hst.below⟩
 | cons a3 a7 =>
  obtain ⟨hat, hl2_L1, hlt_L1⟩ := drop_get hl
  have hk : (ad : Int) < (ac.length : Int) := by omega
  have hkb := decide_eq_true hk
  rw [m_model_rows_L1.eq_2] at hm
  refine wS <| wR <| lV (.bool (decide ((ad : Int) < (ac.length : Int)))) (r_lss (ad : Int) (ac.length : Int) rfl rfl) <| lN <| wS ?_
  refine wcondT (congrArg Value.bool hkb) ?_
  refine wK <| wS <| wB <| wS <| wR ?_
  refine lV (sptr a2 (Int.toNat (ad : Int) * 1)) (r_idx Tryz.underlying33 Tryz.sizeOf3 rfl rfl (at?_some hat).1 (at?_some hat).2.1 (au.addr hat)) ?_
  refine lV (.int .i64 a3) (r_ld Tryz.isAgg3 rfl (au.atInt hat)) <| lA (.int .i64 a3) <| lN <| wR <| lM (.int .i64 ab) <| lV (.pointer ((some (⟨ay, 0, none⟩ : Addr)).map (·.add 2))) (rF (sz := 1) (off := 2) Tryz.underlying28 rfl Tryz.sizeOf24 (by decide) rfl rfl ⟨_, _, rfl⟩) <| lV (.slice af aa.2.2.1.length ah) (r_ld Tryz.isAgg24 rfl ((ar.atN).nth (q := 2) (v := (.slice af aa.2.2.1.length ah)) rfl)) <| lM (.int .i64 a3) ?_
  obtain ⟨ae, a4, hm⟩ := bS hm
  refine lV (sptr af (Int.toNat a3 * 1)) (r_idx Tryz.underlying24 Tryz.sizeOf23 rfl rfl (at?_some a4).1 (at?_some a4).2.1 (ap.addr a4)) ?_
  obtain ⟨_, bb, bc⟩ := ap.atN a4
  obtain ⟨⟨bd, be, rfl, bf⟩, _⟩ := bb
  refine lV (.slice bd ae.length be) (r_ld Tryz.isAgg23 rfl bc.one) <| lV (.int .i64 (ae.length : Int)) (r_len Tryz.underlying23 rfl) <| lV (.int .i64 (IntKind.i64.wrap (ab * (ae.length : Int)))) (r_mul ab (ae.length : Int) rfl rfl) <| lV (.int .i64 (if 1099511627776 < (IntKind.i64.wrap (ab * (ae.length : Int))) then 1099511627776 else (IntKind.i64.wrap (ab * (ae.length : Int))))) (r_min (IntKind.i64.wrap (ab * (ae.length : Int))) 1099511627776 rfl rfl) <| lA (.int .i64 (if 1099511627776 < (IntKind.i64.wrap (ab * (ae.length : Int))) then 1099511627776 else (IntKind.i64.wrap (ab * (ae.length : Int))))) <| lN <| wR <| lV (.int .i64 (IntKind.i64.wrap ((ad : Int) + 1))) (r_add (ad : Int) 1 rfl rfl) <| lM (.int .i64 (IntKind.i64.wrap ((ad : Int) + 1))) <| lN ?_
  exact ⟨a7.length, by simp, ⟨aj, (ad + 1), (if 1099511627776 < (IntKind.i64.wrap (ab * (ae.length : Int))) then 1099511627776 else (IntKind.i64.wrap (ab * (ae.length : Int)))), a7, rfl, hl2_L1, hm, hst, au, aw, ap, aq, ax, ar, (congrArg (Value.int .i64) (wrap_succ (Nat.lt_of_lt_of_le hlt_L1 au.1.1))), rfl, rfl, rfl, rfl, rfl⟩⟩
def m_model_Check_L3 (N : Nat) (ab : (ByteArray × (List ByteArray) × (List (List ByteArray)) × (List (List Int)) × (List (List ((Bool × (List Int)) × (List Int)))))) : List (List ((Bool × (List Int)) × (List Int))) → Nat → Option Int
  | [], aa => some 0
  | ac :: ad, aa => (at? ab.2.2.1 (aa : Int)).bind fun ae => (m_model_fittings N ac).bind fun af => (m_model_whole N af (ae.length : Int)).bind fun ag => if (!ag) = true then none else ((m_model_Check_L3 N ab ad) (aa + 1))
termination_by structural x => x
def m_model_Check_L2 (N : Nat) (aa : (ByteArray × (List ByteArray) × (List (List ByteArray)) × (List (List Int)) × (List (List ((Bool × (List Int)) × (List Int)))))) : List (List ((Bool × (List Int)) × (List Int))) → Option Int
  | [] => m_model_Check_L3 N aa aa.2.2.2.2 0
  | ab :: ac => (m_model_fittings N ab).bind fun ad => (m_slices_ContainsFunc_api_Rat_api_Rat_v1f119 N ad).bind fun ae => if ae = true then none else (m_model_Check_L2 N aa ac)
termination_by structural x => x
def m_model_Check_L1 (N : Nat) (aa : (ByteArray × (List ByteArray) × (List (List ByteArray)) × (List (List Int)) × (List (List ((Bool × (List Int)) × (List Int)))))) : List (List ((Bool × (List Int)) × (List Int))) → Nat → Option Int
  | [], ab => m_model_Check_L2 N aa aa.2.2.2.2 
  | ae :: af, ab => (m_model_rows (aa.1, aa.2.1, aa.2.2.1, aa.2.2.2.1, aa.2.2.2.2) (ab : Int)).bind fun ac => (at? aa.2.2.1 (ab : Int)).bind fun ad => if (decide (65536 < (IntKind.i64.wrap (ac * (ad.length : Int))))) = true then none else (if (!decide ((IntKind.i64.wrap (ac * (ad.length : Int))) = (ae.length : Int))) = true then none else ((m_model_Check_L1 N aa af) (ab + 1)))
termination_by structural x => x
def m_model_Check_J1 (N : Nat) (aa : (ByteArray × (List ByteArray) × (List (List ByteArray)) × (List (List Int)) × (List (List ((Bool × (List Int)) × (List Int)))))) (ab : Bool) : Option Int :=
  if ab = true then none else (if (decide (1024 < (aa.2.1.length : Int))) = true then none else ((m_model_named (aa.1, aa.2.1, aa.2.2.1, aa.2.2.2.1, aa.2.2.2.2)).bind fun ac => if (!decide (ac = 0)) = true then none else ((m_dag_Check N aa.2.2.2.1).bind fun ad => if (!decide (ad = 0)) = true then none else (m_model_Check_L1 N aa aa.2.2.2.2 0))))
def m_model_Check (N : Nat) (aa : (ByteArray × (List ByteArray) × (List (List ByteArray)) × (List (List Int)) × (List (List ((Bool × (List Int)) × (List Int)))))) : Option Int :=
  if (!decide ((aa.2.2.1.length : Int) = (aa.2.1.length : Int))) = true then (m_model_Check_J1 N aa true) else (if (!decide ((aa.2.2.2.1.length : Int) = (aa.2.1.length : Int))) = true then (m_model_Check_J1 N aa true) else (m_model_Check_J1 N aa (!decide ((aa.2.2.2.2.length : Int) = (aa.2.1.length : Int)))))
theorem c_model_Check (N : Nat) (col : Col) (w0 : World) (ao : Option Addr) (ap : Nat) (ai : Option Addr) (aj : Nat) (ak : Option Addr) (al : Nat) (af : Option Addr) (ah : Nat) (aa : (ByteArray × (List ByteArray) × (List (List ByteArray)) × (List (List Int)) × (List (List ((Bool × (List Int)) × (List Int)))))) (ag : Sl Rep.str col w0 ao ap aa.2.1) (ad : Sl (Rep.slice Rep.str) col w0 ai aj aa.2.2.1) (ae : Sl (Rep.slice (Rep.int .i64)) col w0 ak al aa.2.2.2.1) (ac : Sl (Rep.slice (Rep.pair (Rep.pair Rep.bool (Rep.slice (Rep.int .u32))) (Rep.slice (Rep.int .u32)))) col w0 af ah aa.2.2.2.2) (r : Int) (hm : m_model_Check N aa = some r) :
    Calls Tryz.prog 69 #[(.agg #[(.string aa.1), (.slice ao aa.2.1.length ap), (.slice ai aa.2.2.1.length aj), (.slice ak aa.2.2.2.1.length al), (.slice af aa.2.2.2.2.length ah)])] w0 (fun e w' => e = .returned ((.int .i64 r)) ∧ Below w0.heap.size w0 w') := by
 refine calls_of1 2 (m := 103) (args := [(.agg #[(.string aa.1), (.slice ao aa.2.1.length ap), (.slice ai aa.2.2.1.length aj), (.slice ak aa.2.2.2.1.length al), (.slice af aa.2.2.2.2.length ah)])]) Tryz.func69 rfl rfl rfl rfl rfl ?_
 rw [m_model_Check.eq_1] at hm
 have hst := St.start col w0
 refine wS <| wR ?_
 refine l_box (col := (col0 col)) (v := (.agg #[(.string aa.1), (.slice ao aa.2.1.length ap), (.slice ai aa.2.2.1.length aj), (.slice ak aa.2.2.2.1.length al), (.slice af aa.2.2.2.2.length ah)])) 1 rfl rfl ?_
 intro aq cc bk bg ab
 replace ab : Box 28 1 bk cc aq #[(.string aa.1), (.slice ao aa.2.1.length ap), (.slice ai aa.2.2.1.length aj), (.slice ak aa.2.2.2.1.length al), (.slice af aa.2.2.2.2.length ah)] := ab
 refine lA (.int .i64 0) <| lN <| wS <| wR <| lV (.pointer ((some (⟨aq, 0, none⟩ : Addr)).map (·.add 1))) (rF (sz := 1) (off := 1) Tryz.underlying28 rfl Tryz.sizeOf23 (by decide) rfl rfl ⟨_, _, rfl⟩) <| lV (.slice ao aa.2.1.length ap) (r_ld Tryz.isAgg23 rfl ((ab.atN).nth (q := 1) (v := (.slice ao aa.2.1.length ap)) rfl)) <| lV (.int .i64 (aa.2.1.length : Int)) (r_len Tryz.underlying23 rfl) <| lA (.int .i64 (aa.2.1.length : Int)) <| lN <| wS <| wS ?_
 replace ag := (ag.keep (Stay.start col w0)).gr bg
 replace ad := (ad.keep (Stay.start col w0)).gr bg
 replace ae := (ae.keep (Stay.start col w0)).gr bg
 replace ac := (ac.keep (Stay.start col w0)).gr bg
 replace hst := hst.grow bg
 refine Wp.cut (fun f a4 => ∃ (aw : Col) (bl : Bool), m_model_Check_J1 N aa bl = some r ∧ St w0 (col0 col) aw a4 ∧ Sl Rep.str aw a4 ao ap aa.2.1 ∧ Sl (Rep.slice Rep.str) aw a4 ai aj aa.2.2.1 ∧ Sl (Rep.slice (Rep.int .i64)) aw a4 ak al aa.2.2.2.1 ∧ Sl (Rep.slice (Rep.pair (Rep.pair Rep.bool (Rep.slice (Rep.int .u32))) (Rep.slice (Rep.int .u32)))) aw a4 af ah aa.2.2.2.2 ∧ Box 28 1 aw a4 aq #[(.string aa.1), (.slice ao aa.2.1.length ap), (.slice ai aa.2.2.1.length aj), (.slice ak aa.2.2.2.1.length al), (.slice af aa.2.2.2.2.length ah)] ∧ f 1 = (.pointer (some ⟨aq, 0, none⟩)) ∧ f 3 = (.int .i64 (aa.2.1.length : Int)) ∧ f 34 = (.bool bl) ∧ f 1000000 = (enc [])) ?_ ?_
 ·intro f a4 hJ
  obtain ⟨aw, bl, hm, hst, ag, ad, ae, ac, ab, hs1, hs3, hs34, hs1000000⟩ := hJ
  rw [m_model_Check_J1.eq_1] at hm
  refine .lD 1 hs1 <| .lD 3 hs3 <| .lD 34 hs34 <| .lD 1000000 hs1000000 ?_
  clear hs1 hs3 hs34 hs1000000
  refine wcond (bl) rfl (fun hb => ?_) (fun hb => ?_)
  ·rw [if_pos hb] at hm
   clear hb
   cases hm
  rw [if_neg (by rw [hb]; decide)] at hm
  clear hb
  refine wK <| wS <| wS <| wR <| lM (.int .i64 (aa.2.1.length : Int)) <| lV (.bool (decide (1024 < (aa.2.1.length : Int)))) (r_gtr (aa.2.1.length : Int) 1024 rfl rfl) <| lN ?_
  refine wcond (decide (1024 < (aa.2.1.length : Int))) rfl (fun hb => ?_) (fun hb => ?_)
  ·rw [if_pos hb] at hm
   clear hb
   cases hm
  rw [if_neg (by rw [hb]; decide)] at hm
  clear hb
  refine wK <| wS <| wS <| wR <| lV (.agg #[(.string aa.1), (.slice ao aa.2.1.length ap), (.slice ai aa.2.2.1.length aj), (.slice ak aa.2.2.2.1.length al), (.slice af aa.2.2.2.2.length ah)]) (r_ldN Tryz.isAgg28 Tryz.sizeOf28 rfl rfl ab.atN) ?_
  obtain ⟨bd, cd, hm⟩ := bS hm
  refine lc rfl rfl (r_call1 Tryz.call114 rfl) (c_model_named aw _ ao ap ai aj ak al af ah (aa.1, aa.2.1, aa.2.2.1, aa.2.2.2.1, aa.2.2.2.2) ag ad ae ac bd cd) ?_
  rintro _ b3 ⟨rfl, a5⟩
  refine ⟨_, rfl, ?_⟩
  replace a5 : Grow aw a4 aw b3 := .of_below a5
  refine lA (.int .i64 bd) <| lN <| wS <| wR <| lM (.int .i64 bd) <| lV (.bool (!decide (bd = 0))) (r_neq bd 0 rfl rfl) <| lN ?_
  replace ag := ag.gr a5
  replace ad := ad.gr a5
  replace ae := ae.gr a5
  replace ac := ac.gr a5
  replace ab := ab.gr a5
  replace hst := hst.grow a5
  refine wcond (!decide (bd = 0)) rfl (fun hb => ?_) (fun hb => ?_)
  ·rw [if_pos hb] at hm
   clear hb
   cases hm
  rw [if_neg (by rw [hb]; decide)] at hm
  clear hb
  refine wK <| wS <| wS <| wR <| lV (.pointer ((some (⟨aq, 0, none⟩ : Addr)).map (·.add 3))) (rF (sz := 1) (off := 3) Tryz.underlying28 rfl Tryz.sizeOf25 (by decide) rfl rfl ⟨_, _, rfl⟩) <| lV (.slice ak aa.2.2.2.1.length al) (r_ld Tryz.isAgg25 rfl ((ab.atN).nth (q := 3) (v := (.slice ak aa.2.2.2.1.length al)) rfl)) ?_
  obtain ⟨be, ce, hm⟩ := bS hm
  refine lc rfl rfl (r_call1 Tryz.call115 rfl) (c_dag_Check N aw _ ak al aa.2.2.2.1 ae be ce) ?_
  rintro _ cf ⟨rfl, a6⟩
  refine ⟨_, rfl, ?_⟩
  replace a6 : Grow aw b3 aw cf := .of_below a6
  refine lA (.int .i64 be) <| lN <| wS <| wR <| lM (.int .i64 be) <| lV (.bool (!decide (be = 0))) (r_neq be 0 rfl rfl) <| lN ?_
  replace ag := ag.gr a6
  replace ad := ad.gr a6
  replace ae := ae.gr a6
  replace ac := ac.gr a6
  replace ab := ab.gr a6
  replace hst := hst.grow a6
  refine wcond (!decide (be = 0)) rfl (fun hb => ?_) (fun hb => ?_)
  ·rw [if_pos hb] at hm
   clear hb
   cases hm
  rw [if_neg (by rw [hb]; decide)] at hm
  clear hb
  refine wK <| wS <| wS <| wR <| lV (.pointer ((some (⟨aq, 0, none⟩ : Addr)).map (·.add 4))) (rF (sz := 1) (off := 4) Tryz.underlying28 rfl Tryz.sizeOf26 (by decide) rfl rfl ⟨_, _, rfl⟩) <| lV (.slice af aa.2.2.2.2.length ah) (r_ld Tryz.isAgg26 rfl ((ab.atN).nth (q := 4) (v := (.slice af aa.2.2.2.2.length ah)) rfl)) <| lV (.int .i64 (aa.2.2.2.2.length : Int)) (r_len Tryz.underlying26 rfl) <| lM (.int .i64 0) <| lN <| wB ?_
  refine wloop (fun n f a7 => ∃ (an : Col) (am : Nat) (bh : List (List ((Bool × (List Int)) × (List Int)))), n = bh.length ∧ aa.2.2.2.2.drop am = bh ∧ m_model_Check_L1 N aa bh am = some r ∧ St w0 (col0 col) an a7 ∧ Sl Rep.str an a7 ao ap aa.2.1 ∧ Sl (Rep.slice Rep.str) an a7 ai aj aa.2.2.1 ∧ Sl (Rep.slice (Rep.int .i64)) an a7 ak al aa.2.2.2.1 ∧ Sl (Rep.slice (Rep.pair (Rep.pair Rep.bool (Rep.slice (Rep.int .u32))) (Rep.slice (Rep.int .u32)))) an a7 af ah aa.2.2.2.2 ∧ Box 28 1 an a7 aq #[(.string aa.1), (.slice ao aa.2.1.length ap), (.slice ai aa.2.2.1.length aj), (.slice ak aa.2.2.2.1.length al), (.slice af aa.2.2.2.2.length ah)] ∧ f 51 = (.int .i64 (am : Int)) ∧ f 1 = (.pointer (some ⟨aq, 0, none⟩)) ∧ f 49 = (.slice af aa.2.2.2.2.length ah) ∧ f 50 = (.int .i64 (aa.2.2.2.2.length : Int)) ∧ f 1000000 = (enc [])) aa.2.2.2.2.length ⟨aw, 0, aa.2.2.2.2, rfl, rfl, hm, hst, ag, ad, ae, ac, ab, rfl, rfl, rfl, rfl, rfl⟩ ?_
  clear hm; intro n f a7 hI
  obtain ⟨an, am, bh, hn, hl, hm, hst, ag, ad, ae, ac, ab, hs51, hs1, hs49, hs50, hs1000000⟩ := hI
  subst hn
  refine .lD 51 hs51 <| .lD 1 hs1 <| .lD 49 hs49 <| .lD 50 hs50 <| .lD 1000000 hs1000000 ?_
  clear hs51 hs1 hs49 hs50 hs1000000
  cases bh with
  | nil =>
   have hk : ¬ ((am : Int) < (aa.2.2.2.2.length : Int)) := by have := List.drop_eq_nil_iff.1 hl; omega
   have hkb := decide_eq_false hk
   rw [m_model_Check_L1.eq_1] at hm
   refine wS <| wR <| lV (.bool (decide ((am : Int) < (aa.2.2.2.2.length : Int)))) (r_lss (am : Int) (aa.2.2.2.2.length : Int) rfl rfl) <| lN <| wS ?_
   refine wcondF (congrArg Value.bool hkb) ?_
   refine wexit (inB_hit ?_)
   refine wS <| wS <| wR <| lV (.pointer ((some (⟨aq, 0, none⟩ : Addr)).map (·.add 4))) (rF (sz := 1) (off := 4) Tryz.underlying28 rfl Tryz.sizeOf26 (by decide) rfl rfl ⟨_, _, rfl⟩) <| lV (.slice af aa.2.2.2.2.length ah) (r_ld Tryz.isAgg26 rfl ((ab.atN).nth (q := 4) (v := (.slice af aa.2.2.2.2.length ah)) rfl)) <| lV (.int .i64 (aa.2.2.2.2.length : Int)) (r_len Tryz.underlying26 rfl) <| lM (.int .i64 0) <| lN <| wB ?_
   refine wloop (fun n f ba => ∃ (a2 : Col) (ax : Nat) (bi : List (List ((Bool × (List Int)) × (List Int)))), n = bi.length ∧ aa.2.2.2.2.drop ax = bi ∧ m_model_Check_L2 N aa bi  = some r ∧ St w0 (col0 col) a2 ba ∧ Sl Rep.str a2 ba ao ap aa.2.1 ∧ Sl (Rep.slice Rep.str) a2 ba ai aj aa.2.2.1 ∧ Sl (Rep.slice (Rep.int .i64)) a2 ba ak al aa.2.2.2.1 ∧ Sl (Rep.slice (Rep.pair (Rep.pair Rep.bool (Rep.slice (Rep.int .u32))) (Rep.slice (Rep.int .u32)))) a2 ba af ah aa.2.2.2.2 ∧ Box 28 1 a2 ba aq #[(.string aa.1), (.slice ao aa.2.1.length ap), (.slice ai aa.2.2.1.length aj), (.slice ak aa.2.2.2.1.length al), (.slice af aa.2.2.2.2.length ah)] ∧ f 76 = (.int .i64 (ax : Int)) ∧ f 1 = (.pointer (some ⟨aq, 0, none⟩)) ∧ f 74 = (.slice af aa.2.2.2.2.length ah) ∧ f 75 = (.int .i64 (aa.2.2.2.2.length : Int)) ∧ f 1000000 = (enc [])) aa.2.2.2.2.length ⟨an, 0, aa.2.2.2.2, rfl, rfl, hm, hst, ag, ad, ae, ac, ab, rfl, rfl, rfl, rfl, rfl⟩ ?_
   clear hm; intro n f ba hI
   obtain ⟨a2, ax, bi, hn, hl, hm, hst, ag, ad, ae, ac, ab, hs76, hs1, hs74, hs75, hs1000000⟩ := hI
   subst hn
   refine .lD 76 hs76 <| .lD 1 hs1 <| .lD 74 hs74 <| .lD 75 hs75 <| .lD 1000000 hs1000000 ?_
   clear hs76 hs1 hs74 hs75 hs1000000
   cases bi with
   | nil =>
    have hk : ¬ ((ax : Int) < (aa.2.2.2.2.length : Int)) := by have := List.drop_eq_nil_iff.1 hl; omega
    have hkb := decide_eq_false hk
    rw [m_model_Check_L2.eq_1] at hm
    refine wS <| wR <| lV (.bool (decide ((ax : Int) < (aa.2.2.2.2.length : Int)))) (r_lss (ax : Int) (aa.2.2.2.2.length : Int) rfl rfl) <| lN <| wS ?_
    refine wcondF (congrArg Value.bool hkb) ?_
    refine wexit (inB_hit ?_)
    refine wS <| wS <| wR <| lV (.pointer ((some (⟨aq, 0, none⟩ : Addr)).map (·.add 4))) (rF (sz := 1) (off := 4) Tryz.underlying28 rfl Tryz.sizeOf26 (by decide) rfl rfl ⟨_, _, rfl⟩) <| lV (.slice af aa.2.2.2.2.length ah) (r_ld Tryz.isAgg26 rfl ((ab.atN).nth (q := 4) (v := (.slice af aa.2.2.2.2.length ah)) rfl)) <| lV (.int .i64 (aa.2.2.2.2.length : Int)) (r_len Tryz.underlying26 rfl) <| lM (.int .i64 0) <| lN <| wB ?_
    refine wloop (fun n f a8 => ∃ (ay : Col) (ar : Nat) (bj : List (List ((Bool × (List Int)) × (List Int)))), n = bj.length ∧ aa.2.2.2.2.drop ar = bj ∧ m_model_Check_L3 N aa bj ar = some r ∧ St w0 (col0 col) ay a8 ∧ Sl Rep.str ay a8 ao ap aa.2.1 ∧ Sl (Rep.slice Rep.str) ay a8 ai aj aa.2.2.1 ∧ Sl (Rep.slice (Rep.int .i64)) ay a8 ak al aa.2.2.2.1 ∧ Sl (Rep.slice (Rep.pair (Rep.pair Rep.bool (Rep.slice (Rep.int .u32))) (Rep.slice (Rep.int .u32)))) ay a8 af ah aa.2.2.2.2 ∧ Box 28 1 ay a8 aq #[(.string aa.1), (.slice ao aa.2.1.length ap), (.slice ai aa.2.2.1.length aj), (.slice ak aa.2.2.2.1.length al), (.slice af aa.2.2.2.2.length ah)] ∧ f 87 = (.int .i64 (ar : Int)) ∧ f 1 = (.pointer (some ⟨aq, 0, none⟩)) ∧ f 85 = (.slice af aa.2.2.2.2.length ah) ∧ f 86 = (.int .i64 (aa.2.2.2.2.length : Int)) ∧ f 1000000 = (enc [])) aa.2.2.2.2.length ⟨a2, 0, aa.2.2.2.2, rfl, rfl, hm, hst, ag, ad, ae, ac, ab, rfl, rfl, rfl, rfl, rfl⟩ ?_
    clear hm; intro n f a8 hI
    obtain ⟨ay, ar, bj, hn, hl, hm, hst, ag, ad, ae, ac, ab, hs87, hs1, hs85, hs86, hs1000000⟩ := hI
    subst hn
    refine .lD 87 hs87 <| .lD 1 hs1 <| .lD 85 hs85 <| .lD 86 hs86 <| .lD 1000000 hs1000000 ?_
    clear hs87 hs1 hs85 hs86 hs1000000
    cases bj with
    | nil =>
     have hk : ¬ ((ar : Int) < (aa.2.2.2.2.length : Int)) := by have := List.drop_eq_nil_iff.1 hl; omega
     have hkb := decide_eq_false hk
     rw [m_model_Check_L3.eq_1] at hm
     refine wS <| wR <| lV (.bool (decide ((ar : Int) < (aa.2.2.2.2.length : Int)))) (r_lss (ar : Int) (aa.2.2.2.2.length : Int) rfl rfl) <| lN <| wS ?_
     refine wcondF (congrArg Value.bool hkb) ?_
     refine wexit (inB_hit ?_)
     refine wS <| wR <| lA (.int .i64 0) <| lN ?_
     refine wret ?_
     cases hm
     exact ⟨rfl, rfl, hst.below⟩
    | cons bm b4 =>
     obtain ⟨hat, hl2_L3, hlt_L3⟩ := drop_get hl
     have hk : (ar : Int) < (aa.2.2.2.2.length : Int) := by omega
     have hkb := decide_eq_true hk
     rw [m_model_Check_L3.eq_2] at hm
     refine wS <| wR <| lV (.bool (decide ((ar : Int) < (aa.2.2.2.2.length : Int)))) (r_lss (ar : Int) (aa.2.2.2.2.length : Int) rfl rfl) <| lN <| wS ?_
     refine wcondT (congrArg Value.bool hkb) ?_
     refine wK <| wS <| wB <| wS <| wR <| lM (.int .i64 (ar : Int)) ?_
     refine lV (sptr af (Int.toNat (ar : Int) * 1)) (r_idx Tryz.underlying26 Tryz.sizeOf51 rfl rfl (at?_some hat).1 (at?_some hat).2.1 (ac.addr hat)) ?_
     obtain ⟨_, cg, ch⟩ := ac.atN hat
     obtain ⟨⟨bn, bo, rfl, bw⟩, _⟩ := cg
     refine lV (.slice bn bm.length bo) (r_ld Tryz.isAgg51 rfl ch.one) <| lA (.int .i64 (ar : Int)) <| lA (.slice bn bm.length bo) <| lN <| wS ?_
     refine wmix (col := ay) [(0, 1), (2, 1), (3, 0), (4, 1), (5, 1), (6, 0), (7, 1), (1, 3), (8, 3), (9, 1)] (by kernel_rfl) (by kernel_rfl) ?_
     refine xu (v := (.slice bn bm.length bo)) rfl rfl (fun _ => r_move rfl) ?_
     refine xu (v := (.pointer ((some (⟨aq, 0, none⟩ : Addr)).map (·.add 2)))) rfl rfl (fun _ => rF (sz := 1) (off := 2) Tryz.underlying28 rfl Tryz.sizeOf24 (by decide) rfl rfl ⟨_, _, rfl⟩) ?_
     refine xv (v := (.slice ai aa.2.2.1.length aj)) rfl rfl (fun _ hC => r_ld Tryz.isAgg24 rfl (((ab.atN).nth (q := 2) (v := (.slice ai aa.2.2.1.length aj)) rfl).gr (Grow.of_below (col := ay) hC.below))) ?_
     refine xu (v := (.int .i64 (ar : Int))) rfl rfl (fun _ => r_move rfl) ?_
     obtain ⟨bx, bp, hm⟩ := bS hm
     refine xu (v := (sptr ai (Int.toNat (ar : Int) * 1))) rfl rfl (fun _ => r_idx Tryz.underlying24 Tryz.sizeOf23 rfl rfl (at?_some bp).1 (at?_some bp).2.1 (ad.addr bp)) ?_
     obtain ⟨_, ci, cj⟩ := ad.atN bp
     obtain ⟨⟨ck, cl, rfl, da⟩, _⟩ := ci
     refine xv (v := (.slice ck bx.length cl)) rfl rfl (fun _ hC => r_ld Tryz.isAgg23 rfl (cj.one.gr (Grow.of_below (col := ay) hC.below))) ?_
     refine xu (v := (.int .i64 (bx.length : Int))) rfl rfl (fun _ => r_len Tryz.underlying23 rfl) ?_
     refine xe rfl rfl ?_
     intro cm hC0
     have hC : Grow ay a8 ay cm := .of_below hC0.below
     obtain ⟨b5, cn, hm⟩ := bS hm
     replace bw := bw.gr hC
     refine lc rfl rfl (r_call1 Tryz.call118 rfl) (c_model_fittings N 2 ay _ bn bo bm bw b5 cn) ?_
     rintro _ b6 ⟨a1, co, cp, rfl, bb, bz⟩
     refine ⟨_, rfl, ?_⟩
     refine lN ⟨fun w' => Grow a1 b6 a1 w', Grow.refl _ _, fun _ _ h => cls hC0 bb h, ?_⟩
     refine xe rfl rfl ?_
     intro b7 hC0
     replace ag := (ag.gr hC).gr bb
     replace ad := (ad.gr hC).gr bb
     replace ae := (ae.gr hC).gr bb
     replace ac := (ac.gr hC).gr bb
     replace ab := (ab.gr hC).gr bb
     replace hst := (hst.grow hC).grow bb
     have hC : Grow a1 b6 a1 b7 := .of_below hC0.below
     obtain ⟨bq, cq, hm⟩ := bS hm
     replace bz := bz.gr hC
     refine lc rfl rfl (r_call2 Tryz.call120 rfl rfl) (c_model_whole N (frC 2 a1) _ co cp b5 (bx.length : Int) (bz.toSlF (Froz.pair (Froz.pair Froz.bool Froz.slice) Froz.slice)) bq cq) ?_
     rintro _ b0 ⟨rfl, a3⟩
     refine ⟨_, rfl, ?_⟩
     replace a3 : Grow a1 b7 a1 b0 := .of_below a3
     refine lN ⟨fun w' => Grow a1 b0 a1 w', Grow.refl _ _, fun _ _ h => cls hC0 a3 h, ?_⟩
     refine xu (v := (.bool (!bq))) rfl rfl (fun _ => r_not bq rfl) ?_
     refine xnil ?_
     replace ag := (ag.gr hC).gr a3
     replace ad := (ad.gr hC).gr a3
     replace ae := (ae.gr hC).gr a3
     replace ac := (ac.gr hC).gr a3
     replace ab := (ab.gr hC).gr a3
     replace hst := (hst.grow hC).grow a3
     intro cr hC
     replace hC : Grow a1 b0 a1 cr := .of_below hC.below
     replace ag := ag.gr hC
     replace ad := ad.gr hC
     replace ae := ae.gr hC
     replace ac := ac.gr hC
     replace ab := ab.gr hC
     replace hst := hst.grow hC
     refine wcond (!bq) rfl (fun hb => ?_) (fun hb => ?_)
     ·rw [if_pos hb] at hm
      clear hb
      cases hm
     rw [if_neg (by rw [hb]; decide)] at hm
     clear hb
     refine wK <| wR <| lV (.int .i64 (IntKind.i64.wrap ((ar : Int) + 1))) (r_add (ar : Int) 1 rfl rfl) <| lM (.int .i64 (IntKind.i64.wrap ((ar : Int) + 1))) <| lN ?_
     exact ⟨b4.length, by simp, ⟨a1, (ar + 1), b4, rfl, hl2_L3, hm, hst, ag, ad, ae, ac, ab, (congrArg (Value.int .i64) (wrap_succ (Nat.lt_of_lt_of_le hlt_L3 ac.1.1))), rfl, rfl, rfl, rfl⟩⟩
   | cons br b8 =>
    obtain ⟨hat, hl2_L2, hlt_L2⟩ := drop_get hl
    have hk : (ax : Int) < (aa.2.2.2.2.length : Int) := by omega
    have hkb := decide_eq_true hk
    rw [m_model_Check_L2.eq_2] at hm
    refine wS <| wR <| lV (.bool (decide ((ax : Int) < (aa.2.2.2.2.length : Int)))) (r_lss (ax : Int) (aa.2.2.2.2.length : Int) rfl rfl) <| lN <| wS ?_
    refine wcondT (congrArg Value.bool hkb) ?_
    refine wK <| wS <| wB <| wS <| wR ?_
    refine lV (sptr af (Int.toNat (ax : Int) * 1)) (r_idx Tryz.underlying26 Tryz.sizeOf51 rfl rfl (at?_some hat).1 (at?_some hat).2.1 (ac.addr hat)) ?_
    obtain ⟨_, cs, ct⟩ := ac.atN hat
    obtain ⟨⟨bs, bt, rfl, cu⟩, _⟩ := cs
    refine lV (.slice bs br.length bt) (r_ld Tryz.isAgg51 rfl ct.one) <| lA (.slice bs br.length bt) <| lN <| wS <| wR <| lM (.slice bs br.length bt) ?_
    obtain ⟨b9, cv, hm⟩ := bS hm
    refine lc rfl rfl (r_call1 Tryz.call118 rfl) (c_model_fittings N 3 a2 _ bs bt br cu b9 cv) ?_
    rintro _ cw ⟨bu, cx, cy, rfl, bf, cz⟩
    refine ⟨_, rfl, ?_⟩
    obtain ⟨ca, c0, hm⟩ := bS hm
    refine lc rfl rfl (r_call2 Tryz.call117 rfl rfl) (c_slices_ContainsFunc_api_Rat_api_Rat_v1f119 N (frC 3 bu) _ cx cy b9 (cz.toSlF (Froz.pair (Froz.pair Froz.bool Froz.slice) Froz.slice)) ca c0) ?_
    rintro _ c1 ⟨rfl, a9⟩
    refine ⟨_, rfl, ?_⟩
    replace a9 : Grow bu cw bu c1 := .of_below a9
    refine lN ?_
    replace ag := (ag.gr bf).gr a9
    replace ad := (ad.gr bf).gr a9
    replace ae := (ae.gr bf).gr a9
    replace ac := (ac.gr bf).gr a9
    replace ab := (ab.gr bf).gr a9
    replace hst := (hst.grow bf).grow a9
    refine wcond (ca) rfl (fun hb => ?_) (fun hb => ?_)
    ·rw [if_pos hb] at hm
     clear hb
     cases hm
    rw [if_neg (by rw [hb]; decide)] at hm
    clear hb
    refine wK <| wR <| lV (.int .i64 (IntKind.i64.wrap ((ax : Int) + 1))) (r_add (ax : Int) 1 rfl rfl) <| lM (.int .i64 (IntKind.i64.wrap ((ax : Int) + 1))) <| lN ?_
    exact ⟨b8.length, by simp, ⟨bu, (ax + 1), b8, rfl, hl2_L2, hm, hst, ag, ad, ae, ac, ab, (congrArg (Value.int .i64) (wrap_succ (Nat.lt_of_lt_of_le hlt_L2 ac.1.1))), rfl, rfl, rfl, rfl⟩⟩
  | cons bc cb =>
   obtain ⟨hat, hl2_L1, hlt_L1⟩ := drop_get hl
   have hk : (am : Int) < (aa.2.2.2.2.length : Int) := by omega
   have hkb := decide_eq_true hk
   rw [m_model_Check_L1.eq_2] at hm
   refine wS <| wR <| lV (.bool (decide ((am : Int) < (aa.2.2.2.2.length : Int)))) (r_lss (am : Int) (aa.2.2.2.2.length : Int) rfl rfl) <| lN <| wS ?_
   refine wcondT (congrArg Value.bool hkb) ?_
   refine wK <| wS <| wB <| wS <| wR <| lM (.int .i64 (am : Int)) ?_
   refine lV (sptr af (Int.toNat (am : Int) * 1)) (r_idx Tryz.underlying26 Tryz.sizeOf51 rfl rfl (at?_some hat).1 (at?_some hat).2.1 (ac.addr hat)) ?_
   obtain ⟨_, c2, c3⟩ := ac.atN hat
   obtain ⟨⟨b1, b2, rfl, db⟩, _⟩ := c2
   refine lV (.slice b1 bc.length b2) (r_ld Tryz.isAgg51 rfl c3.one) <| lA (.int .i64 (am : Int)) <| lA (.slice b1 bc.length b2) <| lN <| wS ?_
   refine wquiet (col := an) (by kernel_rfl) (by kernel_rfl) ?_
   refine qv (v := (.agg #[(.string aa.1), (.slice ao aa.2.1.length ap), (.slice ai aa.2.2.1.length aj), (.slice ak aa.2.2.2.1.length al), (.slice af aa.2.2.2.2.length ah)])) rfl (fun _ hC => r_ldN Tryz.isAgg28 Tryz.sizeOf28 rfl rfl (ab.atN.gr (Grow.of_below (col := an) hC.below))) ?_
   refine qv (v := (.int .i64 (am : Int))) rfl (fun _ hC => r_move rfl) ?_
   obtain ⟨az, c4, hm⟩ := bS hm
   refine qc (v := (.int .i64 az)) rfl (fun _ hC => ⟨_, _, r_call2 Tryz.call116 rfl rfl, (c_model_rows an _ ao ap ai aj ak al af ah (aa.1, aa.2.1, aa.2.2.1, aa.2.2.2.1, aa.2.2.2.2) (am : Int) (ag.gr (Grow.of_below (col := an) hC.below)) (ad.gr (Grow.of_below (col := an) hC.below)) (ae.gr (Grow.of_below (col := an) hC.below)) (ac.gr (Grow.of_below (col := an) hC.below)) az c4).mono fun _ _ h => ⟨h.1, hC.trans (.of_below h.2)⟩⟩) ?_
   refine qv (v := (.pointer ((some (⟨aq, 0, none⟩ : Addr)).map (·.add 2)))) rfl (fun _ hC => rF (sz := 1) (off := 2) Tryz.underlying28 rfl Tryz.sizeOf24 (by decide) rfl rfl ⟨_, _, rfl⟩) ?_
   refine qv (v := (.slice ai aa.2.2.1.length aj)) rfl (fun _ hC => r_ld Tryz.isAgg24 rfl (((ab.atN).nth (q := 2) (v := (.slice ai aa.2.2.1.length aj)) rfl).gr (Grow.of_below (col := an) hC.below))) ?_
   refine qv (v := (.int .i64 (am : Int))) rfl (fun _ hC => r_move rfl) ?_
   obtain ⟨a0, bv, hm⟩ := bS hm
   refine qv (v := (sptr ai (Int.toNat (am : Int) * 1))) rfl (fun _ hC => r_idx Tryz.underlying24 Tryz.sizeOf23 rfl rfl (at?_some bv).1 (at?_some bv).2.1 (ad.addr bv)) ?_
   obtain ⟨_, c5, c6⟩ := ad.atN bv
   obtain ⟨⟨c7, c8, rfl, dc⟩, _⟩ := c5
   refine qv (v := (.slice c7 a0.length c8)) rfl (fun _ hC => r_ld Tryz.isAgg23 rfl (c6.one.gr (Grow.of_below (col := an) hC.below))) ?_
   refine qv (v := (.int .i64 (a0.length : Int))) rfl (fun _ hC => r_len Tryz.underlying23 rfl) ?_
   refine qv (v := (.int .i64 (IntKind.i64.wrap (az * (a0.length : Int))))) rfl (fun _ hC => r_mul az (a0.length : Int) rfl rfl) ?_
   refine qv (v := (.int .i64 (IntKind.i64.wrap (az * (a0.length : Int))))) rfl (fun _ hC => r_assign rfl) ?_
   refine qnil ?_
   intro c9 hC
   replace hC : Grow an a7 an c9 := .of_below hC.below
   refine wS <| wS <| wR <| lM (.int .i64 (IntKind.i64.wrap (az * (a0.length : Int)))) <| lV (.bool (decide (65536 < (IntKind.i64.wrap (az * (a0.length : Int)))))) (r_gtr (IntKind.i64.wrap (az * (a0.length : Int))) 65536 rfl rfl) <| lN ?_
   replace ag := ag.gr hC
   replace ad := ad.gr hC
   replace ae := ae.gr hC
   replace ac := ac.gr hC
   replace ab := ab.gr hC
   replace hst := hst.grow hC
   refine wcond (decide (65536 < (IntKind.i64.wrap (az * (a0.length : Int))))) rfl (fun hb => ?_) (fun hb => ?_)
   ·rw [if_pos hb] at hm
    clear hb
    cases hm
   rw [if_neg (by rw [hb]; decide)] at hm
   clear hb
   refine wK <| wS <| wR <| lM (.int .i64 (IntKind.i64.wrap (az * (a0.length : Int)))) <| lM (.slice b1 bc.length b2) <| lV (.int .i64 (bc.length : Int)) (r_len Tryz.underlying51 rfl) <| lV (.bool (!decide ((IntKind.i64.wrap (az * (a0.length : Int))) = (bc.length : Int)))) (r_neq (IntKind.i64.wrap (az * (a0.length : Int))) (bc.length : Int) rfl rfl) <| lN ?_
   refine wcond (!decide ((IntKind.i64.wrap (az * (a0.length : Int))) = (bc.length : Int))) rfl (fun hb => ?_) (fun hb => ?_)
   ·rw [if_pos hb] at hm
    clear hb
    cases hm
   rw [if_neg (by rw [hb]; decide)] at hm
   clear hb
   refine wK <| wR <| lV (.int .i64 (IntKind.i64.wrap ((am : Int) + 1))) (r_add (am : Int) 1 rfl rfl) <| lM (.int .i64 (IntKind.i64.wrap ((am : Int) + 1))) <| lN ?_
   exact ⟨cb.length, by simp, ⟨an, (am + 1), cb, rfl, hl2_L1, hm, hst, ag, ad, ae, ac, ab, (congrArg (Value.int .i64) (wrap_succ (Nat.lt_of_lt_of_le hlt_L1 ac.1.1))), rfl, rfl, rfl, rfl⟩⟩
 refine wR <| lV (.pointer ((some (⟨aq, 0, none⟩ : Addr)).map (·.add 2))) (rF (sz := 1) (off := 2) Tryz.underlying28 rfl Tryz.sizeOf24 (by decide) rfl rfl ⟨_, _, rfl⟩) <| lV (.slice ai aa.2.2.1.length aj) (r_ld Tryz.isAgg24 rfl ((ab.atN).nth (q := 2) (v := (.slice ai aa.2.2.1.length aj)) rfl)) <| lV (.int .i64 (aa.2.2.1.length : Int)) (r_len Tryz.underlying24 rfl) <| lM (.int .i64 (aa.2.1.length : Int)) <| lV (.bool (!decide ((aa.2.2.1.length : Int) = (aa.2.1.length : Int)))) (r_neq (aa.2.2.1.length : Int) (aa.2.1.length : Int) rfl rfl) <| lM (.bool (!decide ((aa.2.2.1.length : Int) = (aa.2.1.length : Int)))) ?_
 by_cases au : (!decide ((aa.2.2.1.length : Int) = (aa.2.1.length : Int))) = true
 ·rw [if_pos au] at hm
  refine lp (b := !decide ((aa.2.2.1.length : Int) = (aa.2.1.length : Int))) 21 rfl rfl rfl rfl (by rw [au]; rfl) ?_
  refine lp (b := !decide ((aa.2.2.1.length : Int) = (aa.2.1.length : Int))) 21 rfl rfl rfl rfl (by rw [au]; rfl) ?_
  refine lp (b := !decide ((aa.2.2.1.length : Int) = (aa.2.1.length : Int))) 21 rfl rfl rfl rfl (by rw [au]; rfl) ?_
  refine lp (b := !decide ((aa.2.2.1.length : Int) = (aa.2.1.length : Int))) 21 rfl rfl rfl rfl (by rw [au]; rfl) ?_
  refine lp (b := !decide ((aa.2.2.1.length : Int) = (aa.2.1.length : Int))) 21 rfl rfl rfl rfl (by rw [au]; rfl) ?_
  refine lV (.bool true) (r_pickT (congrArg Value.bool au) rfl) <| lM (.bool true) ?_
  refine lp (b := true) 28 rfl rfl rfl rfl rfl ?_
  refine lp (b := true) 28 rfl rfl rfl rfl rfl ?_
  refine lp (b := true) 28 rfl rfl rfl rfl rfl ?_
  refine lp (b := true) 28 rfl rfl rfl rfl rfl ?_
  refine lp (b := true) 28 rfl rfl rfl rfl rfl ?_
  refine lV (.bool true) (r_pickT rfl rfl) <| lN ?_
  exact ⟨bk, true, hm, hst, ag, ad, ae, ac, ab, rfl, rfl, rfl, rfl⟩
 rw [if_neg au] at hm
 replace au := Bool.eq_false_iff.2 au
 refine lg (b := !decide ((aa.2.2.1.length : Int) = (aa.2.1.length : Int))) 21 rfl rfl rfl (by rw [au]; rfl) ?_
 refine lV (.pointer ((some (⟨aq, 0, none⟩ : Addr)).map (·.add 3))) (rF (sz := 1) (off := 3) Tryz.underlying28 rfl Tryz.sizeOf25 (by decide) rfl rfl ⟨_, _, rfl⟩) ?_
 refine lg (b := !decide ((aa.2.2.1.length : Int) = (aa.2.1.length : Int))) 21 rfl rfl rfl (by rw [au]; rfl) ?_
 refine lV (.slice ak aa.2.2.2.1.length al) (r_ld Tryz.isAgg25 rfl ((ab.atN).nth (q := 3) (v := (.slice ak aa.2.2.2.1.length al)) rfl)) ?_
 refine lg (b := !decide ((aa.2.2.1.length : Int) = (aa.2.1.length : Int))) 21 rfl rfl rfl (by rw [au]; rfl) ?_
 refine lV (.int .i64 (aa.2.2.2.1.length : Int)) (r_len Tryz.underlying25 rfl) ?_
 refine lg (b := !decide ((aa.2.2.1.length : Int) = (aa.2.1.length : Int))) 21 rfl rfl rfl (by rw [au]; rfl) ?_
 refine lM (.int .i64 (aa.2.1.length : Int)) ?_
 refine lg (b := !decide ((aa.2.2.1.length : Int) = (aa.2.1.length : Int))) 21 rfl rfl rfl (by rw [au]; rfl) ?_
 refine lV (.bool (!decide ((aa.2.2.2.1.length : Int) = (aa.2.1.length : Int)))) (r_neq (aa.2.2.2.1.length : Int) (aa.2.1.length : Int) rfl rfl) <| lV (.bool (!decide ((aa.2.2.2.1.length : Int) = (aa.2.1.length : Int)))) (r_pickF (congrArg Value.bool au) rfl) <| lM (.bool (!decide ((aa.2.2.2.1.length : Int) = (aa.2.1.length : Int)))) ?_
 by_cases av : (!decide ((aa.2.2.2.1.length : Int) = (aa.2.1.length : Int))) = true
 ·rw [if_pos av] at hm
  refine lp (b := !decide ((aa.2.2.2.1.length : Int) = (aa.2.1.length : Int))) 28 rfl rfl rfl rfl (by rw [av]; rfl) ?_
  refine lp (b := !decide ((aa.2.2.2.1.length : Int) = (aa.2.1.length : Int))) 28 rfl rfl rfl rfl (by rw [av]; rfl) ?_
  refine lp (b := !decide ((aa.2.2.2.1.length : Int) = (aa.2.1.length : Int))) 28 rfl rfl rfl rfl (by rw [av]; rfl) ?_
  refine lp (b := !decide ((aa.2.2.2.1.length : Int) = (aa.2.1.length : Int))) 28 rfl rfl rfl rfl (by rw [av]; rfl) ?_
  refine lp (b := !decide ((aa.2.2.2.1.length : Int) = (aa.2.1.length : Int))) 28 rfl rfl rfl rfl (by rw [av]; rfl) ?_
  refine lV (.bool true) (r_pickT (congrArg Value.bool av) rfl) <| lN ?_
  exact ⟨bk, true, hm, hst, ag, ad, ae, ac, ab, rfl, rfl, rfl, rfl⟩
 rw [if_neg av] at hm
 replace av := Bool.eq_false_iff.2 av
 refine lg (b := !decide ((aa.2.2.2.1.length : Int) = (aa.2.1.length : Int))) 28 rfl rfl rfl (by rw [av]; rfl) ?_
 refine lV (.pointer ((some (⟨aq, 0, none⟩ : Addr)).map (·.add 4))) (rF (sz := 1) (off := 4) Tryz.underlying28 rfl Tryz.sizeOf26 (by decide) rfl rfl ⟨_, _, rfl⟩) ?_
 refine lg (b := !decide ((aa.2.2.2.1.length : Int) = (aa.2.1.length : Int))) 28 rfl rfl rfl (by rw [av]; rfl) ?_
 refine lV (.slice af aa.2.2.2.2.length ah) (r_ld Tryz.isAgg26 rfl ((ab.atN).nth (q := 4) (v := (.slice af aa.2.2.2.2.length ah)) rfl)) ?_
 refine lg (b := !decide ((aa.2.2.2.1.length : Int) = (aa.2.1.length : Int))) 28 rfl rfl rfl (by rw [av]; rfl) ?_
 refine lV (.int .i64 (aa.2.2.2.2.length : Int)) (r_len Tryz.underlying26 rfl) ?_
 refine lg (b := !decide ((aa.2.2.2.1.length : Int) = (aa.2.1.length : Int))) 28 rfl rfl rfl (by rw [av]; rfl) ?_
 refine lM (.int .i64 (aa.2.1.length : Int)) ?_
 refine lg (b := !decide ((aa.2.2.2.1.length : Int) = (aa.2.1.length : Int))) 28 rfl rfl rfl (by rw [av]; rfl) ?_
 refine lV (.bool (!decide ((aa.2.2.2.2.length : Int) = (aa.2.1.length : Int)))) (r_neq (aa.2.2.2.2.length : Int) (aa.2.1.length : Int) rfl rfl) <| lV (.bool (!decide ((aa.2.2.2.2.length : Int) = (aa.2.1.length : Int)))) (r_pickF (congrArg Value.bool av) rfl) <| lN ?_
 exact ⟨bk, (!decide ((aa.2.2.2.2.length : Int) = (aa.2.1.length : Int))), hm, hst, ag, ad, ae, ac, ab, rfl, rfl, rfl, rfl⟩
def m_learn_wrong_J1 (aa : Nat) (kk_L2 : (Nat → Option Int)) (ab : Bool) : Option Int :=
  if ab = true then (some 71) else (kk_L2 (aa + 1))
def m_learn_wrong_L2 (ab : (ByteArray × (List ByteArray) × (List (List ByteArray)) × (List (List Int)) × (List (List ((Bool × (List Int)) × (List Int)))))) (kk_L1 : (Option Int)) : List Int → Nat → Option Int
  | [], aa => kk_L1 
  | ac :: ad, aa => if (decide (ac < (-1))) = true then (m_learn_wrong_J1 aa (m_learn_wrong_L2 ab kk_L1 ad) true) else ((at? ab.2.2.1 (aa : Int)).bind fun ae => m_learn_wrong_J1 aa (m_learn_wrong_L2 ab kk_L1 ad) (decide ((ae.length : Int) ≤ ac)))
termination_by structural x => x
def m_learn_wrong_L1 (aa : (ByteArray × (List ByteArray) × (List (List ByteArray)) × (List (List Int)) × (List (List ((Bool × (List Int)) × (List Int)))))) : List (List Int) → Option Int
  | [] => some 0
  | ab :: ac => if (!decide ((ab.length : Int) = (aa.2.1.length : Int))) = true then none else (m_learn_wrong_L2 aa (m_learn_wrong_L1 aa ac) ab 0)
termination_by structural x => x
def m_learn_wrong (N : Nat) (aa : (ByteArray × (List ByteArray) × (List (List ByteArray)) × (List (List Int)) × (List (List ((Bool × (List Int)) × (List Int)))))) (ab : (List (List Int))) : Option Int :=
  (m_model_Check N (aa.1, aa.2.1, aa.2.2.1, aa.2.2.2.1, aa.2.2.2.2)).bind fun ac => if (!decide (ac = 0)) = true then none else (m_learn_wrong_L1 aa ab)
theorem c_learn_wrong (N : Nat) (col : Col) (w0 : World) (ak : Option Addr) (al : Nat) (ag : Option Addr) (am : Nat) (aq : Option Addr) (ar : Nat) (au : Option Addr) (av : Nat) (aa : (ByteArray × (List ByteArray) × (List (List ByteArray)) × (List (List Int)) × (List (List ((Bool × (List Int)) × (List Int)))))) (a1 : Option Addr) (cap1 : Nat) (ac : (List (List Int))) (an : Sl Rep.str col w0 ak al aa.2.1) (ah : Sl (Rep.slice Rep.str) col w0 ag am aa.2.2.1) (ao : Sl (Rep.slice (Rep.int .i64)) col w0 aq ar aa.2.2.2.1) (ap : Sl (Rep.slice (Rep.pair (Rep.pair Rep.bool (Rep.slice (Rep.int .u32))) (Rep.slice (Rep.int .u32)))) col w0 au av aa.2.2.2.2) (h1 : Sl (Rep.slice (Rep.int .i64)) col w0 a1 cap1 ac) (r : Int) (hm : m_learn_wrong N aa ac = some r) :
    Calls Tryz.prog 23 #[(.agg #[(.string aa.1), (.slice ak aa.2.1.length al), (.slice ag aa.2.2.1.length am), (.slice aq aa.2.2.2.1.length ar), (.slice au aa.2.2.2.2.length av)]), (.slice a1 ac.length cap1)] w0 (fun e w' => e = .returned ((.int .i64 r)) ∧ Below w0.heap.size w0 w') := by
 refine calls_of1 4 (m := 48) (args := [(.agg #[(.string aa.1), (.slice ak aa.2.1.length al), (.slice ag aa.2.2.1.length am), (.slice aq aa.2.2.2.1.length ar), (.slice au aa.2.2.2.2.length av)]), (.slice a1 ac.length cap1)]) Tryz.func23 rfl rfl rfl rfl rfl ?_
 rw [m_learn_wrong.eq_1] at hm
 have hst := St.start col w0
 refine wS <| wR ?_
 refine l_box (col := (col0 col)) (v := (.agg #[(.string aa.1), (.slice ak aa.2.1.length al), (.slice ag aa.2.2.1.length am), (.slice aq aa.2.2.2.1.length ar), (.slice au aa.2.2.2.2.length av)])) 1 rfl rfl ?_
 intro ay bi bb a8 ai
 replace ai : Box 28 1 bb bi ay #[(.string aa.1), (.slice ak aa.2.1.length al), (.slice ag aa.2.2.1.length am), (.slice aq aa.2.2.2.1.length ar), (.slice au aa.2.2.2.2.length av)] := ai
 refine lA (.int .i64 0) <| lN <| wS <| wS <| wR <| lV (.agg #[(.string aa.1), (.slice ak aa.2.1.length al), (.slice ag aa.2.2.1.length am), (.slice aq aa.2.2.2.1.length ar), (.slice au aa.2.2.2.2.length av)]) (r_ldN Tryz.isAgg28 Tryz.sizeOf28 rfl rfl ai.atN) ?_
 obtain ⟨a9, bj, hm⟩ := bS hm
 replace an := (an.keep (Stay.start col w0)).gr a8
 replace ah := (ah.keep (Stay.start col w0)).gr a8
 replace ao := (ao.keep (Stay.start col w0)).gr a8
 replace ap := (ap.keep (Stay.start col w0)).gr a8
 refine lc rfl rfl (r_call1 Tryz.call69 rfl) (c_model_Check N bb _ ak al ag am aq ar au av (aa.1, aa.2.1, aa.2.2.1, aa.2.2.2.1, aa.2.2.2.2) an ah ao ap a9 bj) ?_
 rintro _ bk ⟨rfl, az⟩
 refine ⟨_, rfl, ?_⟩
 replace az : Grow bb bi bb bk := .of_below az
 refine lA (.int .i64 a9) <| lN <| wS <| wR <| lM (.int .i64 a9) <| lV (.bool (!decide (a9 = 0))) (r_neq a9 0 rfl rfl) <| lN ?_
 replace h1 := ((h1.keep (Stay.start col w0)).gr a8).gr az
 replace hst := (hst.grow a8).grow az
 replace an := an.gr az
 replace ah := ah.gr az
 replace ao := ao.gr az
 replace ap := ap.gr az
 replace ai := ai.gr az
 refine wcond (!decide (a9 = 0)) rfl (fun hb => ?_) (fun hb => ?_)
 ·rw [if_pos hb] at hm
  clear hb
  cases hm
 rw [if_neg (by rw [hb]; decide)] at hm
 clear hb
 refine wK <| wS <| wS <| wR <| lM (.slice a1 ac.length cap1) <| lV (.int .i64 (ac.length : Int)) (r_len Tryz.underlying34 rfl) <| lM (.int .i64 0) <| lN <| wB ?_
 refine wloop (fun n f a6 => ∃ (a0 : Col) (aj : Nat) (bc : List (List Int)), n = bc.length ∧ ac.drop aj = bc ∧ m_learn_wrong_L1 aa bc  = some r ∧ St w0 (col0 col) a0 a6 ∧ Sl (Rep.slice (Rep.int .i64)) a0 a6 a1 cap1 ac ∧ Sl Rep.str a0 a6 ak al aa.2.1 ∧ Sl (Rep.slice Rep.str) a0 a6 ag am aa.2.2.1 ∧ Sl (Rep.slice (Rep.int .i64)) a0 a6 aq ar aa.2.2.2.1 ∧ Sl (Rep.slice (Rep.pair (Rep.pair Rep.bool (Rep.slice (Rep.int .u32))) (Rep.slice (Rep.int .u32)))) a0 a6 au av aa.2.2.2.2 ∧ Box 28 1 a0 a6 ay #[(.string aa.1), (.slice ak aa.2.1.length al), (.slice ag aa.2.2.1.length am), (.slice aq aa.2.2.2.1.length ar), (.slice au aa.2.2.2.2.length av)] ∧ f 17 = (.int .i64 (aj : Int)) ∧ f 15 = (.slice a1 ac.length cap1) ∧ f 16 = (.int .i64 (ac.length : Int)) ∧ f 2 = (.pointer (some ⟨ay, 0, none⟩)) ∧ f 1000000 = (enc [])) ac.length ⟨bb, 0, ac, rfl, rfl, hm, hst, h1, an, ah, ao, ap, ai, rfl, rfl, rfl, rfl, rfl⟩ ?_
 clear hm; intro n f a6 hI
 obtain ⟨a0, aj, bc, hn, hl, hm, hst, h1, an, ah, ao, ap, ai, hs17, hs15, hs16, hs2, hs1000000⟩ := hI
 subst hn
 refine .lD 17 hs17 <| .lD 15 hs15 <| .lD 16 hs16 <| .lD 2 hs2 <| .lD 1000000 hs1000000 ?_
 clear hs17 hs15 hs16 hs2 hs1000000
 cases bc with
 | nil =>
  have hk : ¬ ((aj : Int) < (ac.length : Int)) := by have := List.drop_eq_nil_iff.1 hl; omega
  have hkb := decide_eq_false hk
  rw [m_learn_wrong_L1.eq_1] at hm
  refine wS <| wR <| lV (.bool (decide ((aj : Int) < (ac.length : Int)))) (r_lss (aj : Int) (ac.length : Int) rfl rfl) <| lN <| wS ?_
  refine wcondF (congrArg Value.bool hkb) ?_
  refine wexit (inB_hit ?_)
  refine wS <| wR <| lA (.int .i64 0) <| lN ?_
  refine wret ?_
  cases hm
  exact ⟨rfl, rfl, hst.below⟩
 | cons ad be =>
  obtain ⟨hat, hl2_L1, hlt_L1⟩ := drop_get hl
  have hk : (aj : Int) < (ac.length : Int) := by omega
  have hkb := decide_eq_true hk
  rw [m_learn_wrong_L1.eq_2] at hm
  refine wS <| wR <| lV (.bool (decide ((aj : Int) < (ac.length : Int)))) (r_lss (aj : Int) (ac.length : Int) rfl rfl) <| lN <| wS ?_
  refine wcondT (congrArg Value.bool hkb) ?_
  refine wK <| wS <| wB <| wS <| wR ?_
  refine lV (sptr a1 (Int.toNat (aj : Int) * 1)) (r_idx Tryz.underlying34 Tryz.sizeOf33 rfl rfl (at?_some hat).1 (at?_some hat).2.1 (h1.addr hat)) ?_
  obtain ⟨_, bl, bm⟩ := h1.atN hat
  obtain ⟨⟨a2, a7, rfl, a3⟩, _⟩ := bl
  refine lV (.slice a2 ad.length a7) (r_ld Tryz.isAgg33 rfl bm.one) <| lA (.slice a2 ad.length a7) <| lN <| wS <| wS <| wR <| lM (.slice a2 ad.length a7) <| lV (.int .i64 (ad.length : Int)) (r_len Tryz.underlying33 rfl) <| lV (.pointer ((some (⟨ay, 0, none⟩ : Addr)).map (·.add 1))) (rF (sz := 1) (off := 1) Tryz.underlying28 rfl Tryz.sizeOf23 (by decide) rfl rfl ⟨_, _, rfl⟩) <| lV (.slice ak aa.2.1.length al) (r_ld Tryz.isAgg23 rfl ((ai.atN).nth (q := 1) (v := (.slice ak aa.2.1.length al)) rfl)) <| lV (.int .i64 (aa.2.1.length : Int)) (r_len Tryz.underlying23 rfl) <| lV (.bool (!decide ((ad.length : Int) = (aa.2.1.length : Int)))) (r_neq (ad.length : Int) (aa.2.1.length : Int) rfl rfl) <| lN ?_
  refine wcond (!decide ((ad.length : Int) = (aa.2.1.length : Int))) rfl (fun hb => ?_) (fun hb => ?_)
  ·rw [if_pos hb] at hm
   clear hb
   cases hm
  rw [if_neg (by rw [hb]; decide)] at hm
  clear hb
  refine wK <| wS <| wR <| lM (.slice a2 ad.length a7) <| lV (.int .i64 (ad.length : Int)) (r_len Tryz.underlying33 rfl) <| lM (.int .i64 0) <| lN <| wB ?_
  refine wloop (fun n f a4 => ∃ (aw : Col) (af : Nat) (bd : List Int), n = bd.length ∧ ad.drop af = bd ∧ m_learn_wrong_L2 aa (m_learn_wrong_L1 aa be) bd af = some r ∧ St w0 (col0 col) aw a4 ∧ Sl (Rep.slice (Rep.int .i64)) aw a4 a1 cap1 ac ∧ Sl Rep.str aw a4 ak al aa.2.1 ∧ Sl (Rep.slice Rep.str) aw a4 ag am aa.2.2.1 ∧ Sl (Rep.slice (Rep.int .i64)) aw a4 aq ar aa.2.2.2.1 ∧ Sl (Rep.slice (Rep.pair (Rep.pair Rep.bool (Rep.slice (Rep.int .u32))) (Rep.slice (Rep.int .u32)))) aw a4 au av aa.2.2.2.2 ∧ Box 28 1 aw a4 ay #[(.string aa.1), (.slice ak aa.2.1.length al), (.slice ag aa.2.2.1.length am), (.slice aq aa.2.2.2.1.length ar), (.slice au aa.2.2.2.2.length av)] ∧ Sl (Rep.int .i64) aw a4 a2 a7 ad ∧ f 29 = (.int .i64 (af : Int)) ∧ f 15 = (.slice a1 ac.length cap1) ∧ f 16 = (.int .i64 (ac.length : Int)) ∧ f 17 = (.int .i64 (aj : Int)) ∧ f 2 = (.pointer (some ⟨ay, 0, none⟩)) ∧ f 27 = (.slice a2 ad.length a7) ∧ f 28 = (.int .i64 (ad.length : Int)) ∧ f 1000000 = (enc [])) ad.length ⟨a0, 0, ad, rfl, rfl, hm, hst, h1, an, ah, ao, ap, ai, a3, rfl, rfl, rfl, rfl, rfl, rfl, rfl, rfl⟩ ?_
  clear hm; intro n f a4 hI
  obtain ⟨aw, af, bd, hn, hl, hm, hst, h1, an, ah, ao, ap, ai, a3, hs29, hs15, hs16, hs17, hs2, hs27, hs28, hs1000000⟩ := hI
  subst hn
  refine .lD 29 hs29 <| .lD 15 hs15 <| .lD 16 hs16 <| .lD 17 hs17 <| .lD 2 hs2 <| .lD 27 hs27 <| .lD 28 hs28 <| .lD 1000000 hs1000000 ?_
  clear hs29 hs15 hs16 hs17 hs2 hs27 hs28 hs1000000
  cases bd with
  | nil =>
   have hk : ¬ ((af : Int) < (ad.length : Int)) := by have := List.drop_eq_nil_iff.1 hl; omega
   have hkb := decide_eq_false hk
   rw [m_learn_wrong_L2.eq_1] at hm
   refine wS <| wR <| lV (.bool (decide ((af : Int) < (ad.length : Int)))) (r_lss (af : Int) (ad.length : Int) rfl rfl) <| lN <| wS ?_
   refine wcondF (congrArg Value.bool hkb) ?_
   refine wexit (inB_hit ?_)
   refine wR <| lV (.int .i64 (IntKind.i64.wrap ((aj : Int) + 1))) (r_add (aj : Int) 1 rfl rfl) <| lM (.int .i64 (IntKind.i64.wrap ((aj : Int) + 1))) <| lN ?_
   exact ⟨be.length, by simp, ⟨aw, (aj + 1), be, rfl, hl2_L1, hm, hst, h1, an, ah, ao, ap, ai, (congrArg (Value.int .i64) (wrap_succ (Nat.lt_of_lt_of_le hlt_L1 h1.1.1))), rfl, rfl, rfl, rfl⟩⟩
  | cons ab bh =>
   obtain ⟨hat, hl2_L2, hlt_L2⟩ := drop_get hl
   have hk : (af : Int) < (ad.length : Int) := by omega
   have hkb := decide_eq_true hk
   rw [m_learn_wrong_L2.eq_2] at hm
   refine wS <| wR <| lV (.bool (decide ((af : Int) < (ad.length : Int)))) (r_lss (af : Int) (ad.length : Int) rfl rfl) <| lN <| wS ?_
   refine wcondT (congrArg Value.bool hkb) ?_
   refine wK <| wS <| wB <| wS <| wR <| lM (.int .i64 (af : Int)) ?_
   refine lV (sptr a2 (Int.toNat (af : Int) * 1)) (r_idx Tryz.underlying33 Tryz.sizeOf3 rfl rfl (at?_some hat).1 (at?_some hat).2.1 (a3.addr hat)) ?_
   refine lV (.int .i64 ab) (r_ld Tryz.isAgg3 rfl (a3.atInt hat)) <| lA (.int .i64 (af : Int)) <| lA (.int .i64 ab) <| lN <| wS ?_
   refine Wp.cut (fun f a5 => ∃ (ax : Col) (bf : Bool), m_learn_wrong_J1 af (m_learn_wrong_L2 aa (m_learn_wrong_L1 aa be) bh) bf = some r ∧ St w0 (col0 col) ax a5 ∧ Sl (Rep.slice (Rep.int .i64)) ax a5 a1 cap1 ac ∧ Sl Rep.str ax a5 ak al aa.2.1 ∧ Sl (Rep.slice Rep.str) ax a5 ag am aa.2.2.1 ∧ Sl (Rep.slice (Rep.int .i64)) ax a5 aq ar aa.2.2.2.1 ∧ Sl (Rep.slice (Rep.pair (Rep.pair Rep.bool (Rep.slice (Rep.int .u32))) (Rep.slice (Rep.int .u32)))) ax a5 au av aa.2.2.2.2 ∧ Box 28 1 ax a5 ay #[(.string aa.1), (.slice ak aa.2.1.length al), (.slice ag aa.2.2.1.length am), (.slice aq aa.2.2.2.1.length ar), (.slice au aa.2.2.2.2.length av)] ∧ Sl (Rep.int .i64) ax a5 a2 a7 ad ∧ f 15 = (.slice a1 ac.length cap1) ∧ f 16 = (.int .i64 (ac.length : Int)) ∧ f 17 = (.int .i64 (aj : Int)) ∧ f 2 = (.pointer (some ⟨ay, 0, none⟩)) ∧ f 27 = (.slice a2 ad.length a7) ∧ f 28 = (.int .i64 (ad.length : Int)) ∧ f 29 = (.int .i64 (af : Int)) ∧ f 45 = (.bool bf) ∧ f 1000000 = (enc [])) ?_ ?_
   ·intro f a5 hJ
    obtain ⟨ax, bf, hm, hst, h1, an, ah, ao, ap, ai, a3, hs15, hs16, hs17, hs2, hs27, hs28, hs29, hs45, hs1000000⟩ := hJ
    rw [m_learn_wrong_J1.eq_1] at hm
    refine .lD 15 hs15 <| .lD 16 hs16 <| .lD 17 hs17 <| .lD 2 hs2 <| .lD 27 hs27 <| .lD 28 hs28 <| .lD 29 hs29 <| .lD 45 hs45 <| .lD 1000000 hs1000000 ?_
    clear hs15 hs16 hs17 hs2 hs27 hs28 hs29 hs45 hs1000000
    refine wcond (bf) rfl (fun hb => ?_) (fun hb => ?_)
    ·rw [if_pos hb] at hm
     clear hb
     refine wS <| wR <| lA (.int .i64 71) <| lN ?_
     refine wret ?_
     cases hm
     exact ⟨rfl, rfl, hst.below⟩
    rw [if_neg (by rw [hb]; decide)] at hm
    clear hb
    refine wK <| wR <| lV (.int .i64 (IntKind.i64.wrap ((af : Int) + 1))) (r_add (af : Int) 1 rfl rfl) <| lM (.int .i64 (IntKind.i64.wrap ((af : Int) + 1))) <| lN ?_
    exact ⟨bh.length, by simp, ⟨ax, (af + 1), bh, rfl, hl2_L2, hm, hst, h1, an, ah, ao, ap, ai, a3, (congrArg (Value.int .i64) (wrap_succ (Nat.lt_of_lt_of_le hlt_L2 a3.1.1))), rfl, rfl, rfl, rfl, rfl, rfl, rfl⟩⟩
   refine wR <| lM (.int .i64 ab) <| lV (.bool (decide (ab < (-1)))) (r_lss ab (-1) rfl rfl) <| lM (.bool (decide (ab < (-1)))) ?_
   by_cases ae : (decide (ab < (-1))) = true
   ·rw [if_pos ae] at hm
    refine lp (b := decide (ab < (-1))) 36 rfl rfl rfl rfl (by rw [ae]; rfl) ?_
    refine lp (b := decide (ab < (-1))) 36 rfl rfl rfl rfl (by rw [ae]; rfl) ?_
    refine lp (b := decide (ab < (-1))) 36 rfl rfl rfl rfl (by rw [ae]; rfl) ?_
    refine lp (b := decide (ab < (-1))) 36 rfl rfl rfl rfl (by rw [ae]; rfl) ?_
    refine lp (b := decide (ab < (-1))) 36 rfl rfl rfl rfl (by rw [ae]; rfl) ?_
    refine lp (b := decide (ab < (-1))) 36 rfl rfl rfl rfl (by rw [ae]; rfl) ?_
    refine lp (b := decide (ab < (-1))) 36 rfl rfl rfl rfl (by rw [ae]; rfl) ?_
    refine lp (b := decide (ab < (-1))) 36 rfl rfl rfl rfl (by rw [ae]; rfl) ?_
    refine lV (.bool true) (r_pickT (congrArg Value.bool ae) rfl) <| lN ?_
    exact ⟨aw, true, hm, hst, h1, an, ah, ao, ap, ai, a3, rfl, rfl, rfl, rfl, rfl, rfl, rfl, rfl, rfl⟩
   rw [if_neg ae] at hm
   replace ae := Bool.eq_false_iff.2 ae
   refine lg (b := decide (ab < (-1))) 36 rfl rfl rfl (by rw [ae]; rfl) ?_
   refine lM (.int .i64 ab) ?_
   refine lg (b := decide (ab < (-1))) 36 rfl rfl rfl (by rw [ae]; rfl) ?_
   refine lV (.pointer ((some (⟨ay, 0, none⟩ : Addr)).map (·.add 2))) (rF (sz := 1) (off := 2) Tryz.underlying28 rfl Tryz.sizeOf24 (by decide) rfl rfl ⟨_, _, rfl⟩) ?_
   refine lg (b := decide (ab < (-1))) 36 rfl rfl rfl (by rw [ae]; rfl) ?_
   refine lV (.slice ag aa.2.2.1.length am) (r_ld Tryz.isAgg24 rfl ((ai.atN).nth (q := 2) (v := (.slice ag aa.2.2.1.length am)) rfl)) ?_
   refine lg (b := decide (ab < (-1))) 36 rfl rfl rfl (by rw [ae]; rfl) ?_
   refine lM (.int .i64 (af : Int)) ?_
   refine lg (b := decide (ab < (-1))) 36 rfl rfl rfl (by rw [ae]; rfl) ?_
   obtain ⟨ba, bg, hm⟩ := bS hm
   refine lV (sptr ag (Int.toNat (af : Int) * 1)) (r_idx Tryz.underlying24 Tryz.sizeOf23 rfl rfl (at?_some bg).1 (at?_some bg).2.1 (ah.addr bg)) ?_
   refine lg (b := decide (ab < (-1))) 36 rfl rfl rfl (by rw [ae]; rfl) ?_
   obtain ⟨_, bn, bo⟩ := ah.atN bg
   obtain ⟨⟨bp, bq, rfl, br⟩, _⟩ := bn
   refine lV (.slice bp ba.length bq) (r_ld Tryz.isAgg23 rfl bo.one) ?_
   refine lg (b := decide (ab < (-1))) 36 rfl rfl rfl (by rw [ae]; rfl) ?_
   refine lV (.int .i64 (ba.length : Int)) (r_len Tryz.underlying23 rfl) ?_
   refine lg (b := decide (ab < (-1))) 36 rfl rfl rfl (by rw [ae]; rfl) ?_
   refine lV (.bool (decide ((ba.length : Int) ≤ ab))) (r_geq ab (ba.length : Int) rfl rfl) <| lV (.bool (decide ((ba.length : Int) ≤ ab))) (r_pickF (congrArg Value.bool ae) rfl) <| lN ?_
   exact ⟨aw, (decide ((ba.length : Int) ≤ ab)), hm, hst, h1, an, ah, ao, ap, ai, a3, rfl, rfl, rfl, rfl, rfl, rfl, rfl, rfl, rfl⟩
theorem el9_77 : ElemOk Tryz.prog 9 1 16 := ⟨Tryz.t9, _, rfl, rfl, rfl, rfl, rfl⟩
def m_slices_Clone_string_string (aa : (List ByteArray)) : Option (List ByteArray) :=
  chk ((([] : List ByteArray).length + aa.length) * 16 ≤ 140737488355328 ∧ ([] : List ByteArray).length + aa.length ≤ maxLen) (some (([] : List ByteArray) ++ aa))
theorem c_slices_Clone_string_string (c1 : Nat) (col : Col) (w0 : World) (a0 : Option Addr) (cap0 : Nat) (aa : (List ByteArray)) (h0 : Sl Rep.str col w0 a0 cap0 aa) (r : (List ByteArray)) (hm : m_slices_Clone_string_string aa = some r) :
    Calls Tryz.prog 77 #[(.slice a0 aa.length cap0)] w0 (fun e w' => ∃ (col' : Col) (ra1 : Option Addr) (rc2 : Nat), e = .returned ((.slice ra1 r.length rc2)) ∧ Grow col w0 col' w' ∧ Own Rep.str 9 c1 col' w' ra1 rc2 r) := by
 refine calls_of1 2 (m := 8) (args := [(.slice a0 aa.length cap0)]) Tryz.func77 rfl rfl rfl rfl rfl ?_
 rw [m_slices_Clone_string_string.eq_1] at hm
 have hst := St.start col w0
 refine wS <| wR <| lA (.slice none (([] : List ByteArray).length) 0) <| lN <| wS <| wS <| wR <| lM (.slice a0 aa.length cap0) ?_
 replace h0 := h0.keep (Stay.start col w0)
 rcases nil_or h0 with ab | ab
 ·replace hm : some ([] : List ByteArray) = some r := by have h0 := ab.2; subst h0; simpa [chk, maxLen] using hm
  refine lv (v := .bool a0.isNone) rfl rfl (r_eqlNil Tryz.underlying23 rfl) ?_
  refine .ld (d := 4) (v := .bool true) (congrArg Value.bool ab.1) ?_
  refine lN ?_
  refine wcondT rfl ?_
  refine wS <| wR <| lA (.slice none (([] : List ByteArray).length) 0) <| lN ?_
  refine wret ?_
  cases hm
  exact ⟨rfl, colF w0.heap.size col (col0 col) (fun n => 0), none, 0, rfl, hst.fin (fun n => 0), Own.nil⟩
 refine lv (v := .bool a0.isNone) rfl rfl (r_eqlNil Tryz.underlying23 rfl) ?_
 refine .ld (d := 4) (v := .bool false) (congrArg Value.bool ab) ?_
 refine lN ?_
 refine wcondF rfl ?_
 refine wK <| wS <| wR ?_
 refine l_lit0 (col := (col0 col)) (r := Rep.str) 1 rfl Tryz.underlying23 el9_77 rfl ?_
 intro am ah ai ac ad
 refine lM (.slice a0 aa.length cap0) ?_
 obtain ⟨ae, hm⟩ := cS hm
 replace h0 := h0.gr ac
 refine l_appendM (col := ai) (w := ah) (r := Rep.str) (c := 1) (c2 := 1) (xs := ([] : List ByteArray)) (ys := aa) ad h0.srcC rfl Tryz.underlying23 el9_77 rfl rfl rfl ae.1 ae.2 (by decide) ?_
 intro af ag an aj ak al
 clear ad
 refine lA (.slice af ((([] : List ByteArray) ++ aa).length) ag) <| lN ?_
 refine wret ?_
 cases hm
 replace hst := (hst.grow ac).kpp ak
 exact ⟨rfl, colF w0.heap.size col aj (fun n => bif Nat.beq n 1 then c1 else 0), af, ag, rfl, hst.fin (fun n => bif Nat.beq n 1 then c1 else 0), hst.finOwn (g := (fun n => bif Nat.beq n 1 then c1 else 0)) rfl al (by decide) (by decide) rfl⟩
theorem el3_78 : ElemOk Tryz.prog 3 1 8 := ⟨Tryz.t3, _, rfl, rfl, rfl, rfl, rfl⟩
def m_slices_Clone_int_int (aa : (List Int)) : Option (List Int) :=
  chk ((([] : List Int).length + aa.length) * 8 ≤ 140737488355328 ∧ ([] : List Int).length + aa.length ≤ maxLen) (some (([] : List Int) ++ aa))
theorem c_slices_Clone_int_int (c1 : Nat) (col : Col) (w0 : World) (a0 : Option Addr) (cap0 : Nat) (aa : (List Int)) (h0 : Sl (Rep.int .i64) col w0 a0 cap0 aa) (r : (List Int)) (hm : m_slices_Clone_int_int aa = some r) :
    Calls Tryz.prog 78 #[(.slice a0 aa.length cap0)] w0 (fun e w' => ∃ (col' : Col) (ra1 : Option Addr) (rc2 : Nat), e = .returned ((.slice ra1 r.length rc2)) ∧ Grow col w0 col' w' ∧ Own (Rep.int .i64) 3 c1 col' w' ra1 rc2 r) := by
 refine calls_of1 2 (m := 8) (args := [(.slice a0 aa.length cap0)]) Tryz.func78 rfl rfl rfl rfl rfl ?_
 rw [m_slices_Clone_int_int.eq_1] at hm
 have hst := St.start col w0
 refine wS <| wR <| lA (.slice none (([] : List Int).length) 0) <| lN <| wS <| wS <| wR <| lM (.slice a0 aa.length cap0) ?_
 replace h0 := h0.keep (Stay.start col w0)
 rcases nil_or h0 with ab | ab
 ·replace hm : some ([] : List Int) = some r := by have h0 := ab.2; subst h0; simpa [chk, maxLen] using hm
  refine lv (v := .bool a0.isNone) rfl rfl (r_eqlNil Tryz.underlying33 rfl) ?_
  refine .ld (d := 4) (v := .bool true) (congrArg Value.bool ab.1) ?_
  refine lN ?_
  refine wcondT rfl ?_
  refine wS <| wR <| lA (.slice none (([] : List Int).length) 0) <| lN ?_
  refine wret ?_
  cases hm
  exact ⟨rfl, colF w0.heap.size col (col0 col) (fun n => 0), none, 0, rfl, hst.fin (fun n => 0), Own.nil⟩
 refine lv (v := .bool a0.isNone) rfl rfl (r_eqlNil Tryz.underlying33 rfl) ?_
 refine .ld (d := 4) (v := .bool false) (congrArg Value.bool ab) ?_
 refine lN ?_
 refine wcondF rfl ?_
 refine wK <| wS <| wR ?_
 refine l_lit0 (col := (col0 col)) (r := (Rep.int .i64)) 1 rfl Tryz.underlying33 el3_78 rfl ?_
 intro am ah ai ac ad
 refine lM (.slice a0 aa.length cap0) ?_
 obtain ⟨ae, hm⟩ := cS hm
 replace h0 := h0.gr ac
 refine l_appendM (col := ai) (w := ah) (r := (Rep.int .i64)) (c := 1) (c2 := 1) (xs := ([] : List Int)) (ys := aa) ad h0.srcC rfl Tryz.underlying33 el3_78 rfl rfl rfl ae.1 ae.2 (by decide) ?_
 intro af ag an aj ak al
 clear ad
 refine lA (.slice af ((([] : List Int) ++ aa).length) ag) <| lN ?_
 refine wret ?_
 cases hm
 replace hst := (hst.grow ac).kpp ak
 exact ⟨rfl, colF w0.heap.size col aj (fun n => bif Nat.beq n 1 then c1 else 0), af, ag, rfl, hst.fin (fun n => bif Nat.beq n 1 then c1 else 0), hst.finOwn (g := (fun n => bif Nat.beq n 1 then c1 else 0)) rfl al (by decide) (by decide) rfl⟩
theorem el23_25 : ElemOk Tryz.prog 23 1 24 := ⟨Tryz.t23, _, rfl, rfl, rfl, rfl, rfl⟩
theorem el33_25 : ElemOk Tryz.prog 33 1 24 := ⟨Tryz.t33, _, rfl, rfl, rfl, rfl, rfl⟩
theorem el40_25 : ElemOk Tryz.prog 40 3 56 := ⟨Tryz.t40, _, rfl, rfl, rfl, rfl, rfl⟩
theorem el51_25 : ElemOk Tryz.prog 51 1 24 := ⟨Tryz.t51, _, rfl, rfl, rfl, rfl, rfl⟩
def m_learn_copied_L2 (N : Nat) (ae : Int) (af : ByteArray) (ag : List ByteArray) (ah : List (List ByteArray)) (ai : List (List Int)) (ac : List (List ((Bool × (List Int)) × (List Int)))) (kk_L1 : (Int → ByteArray → (List ByteArray) → (List (List ByteArray)) → (List (List Int)) → (List (List ((Bool × (List Int)) × (List Int)))) → Option (ByteArray × (List ByteArray) × (List (List ByteArray)) × (List (List Int)) × (List (List ((Bool × (List Int)) × (List Int))))))) (aj : (List ByteArray)) (ak : (List Int)) : List ((Bool × (List Int)) × (List Int)) → (List ((Bool × (List Int)) × (List Int))) → Option (ByteArray × (List ByteArray) × (List (List ByteArray)) × (List (List Int)) × (List (List ((Bool × (List Int)) × (List Int)))))
  | [], ab => chk ((ac.length + [ab].length) * 24 ≤ 140737488355328 ∧ ac.length + [ab].length ≤ maxLen) (kk_L1 (IntKind.i64.wrap (ae + 1)) af ag (ah ++ [aj]) (ai ++ [ak]) (ac ++ [ab]))
  | ad :: al, ab => (m_frac_Add N ((ad.1.1, ad.1.2), ad.2) ((false, ([] : List Int)), ([] : List Int))).bind fun aa => chk ((ab.length + [((aa.1.1, aa.1.2), aa.2)].length) * 56 ≤ 140737488355328 ∧ ab.length + [((aa.1.1, aa.1.2), aa.2)].length ≤ maxLen) ((m_learn_copied_L2 N ae af ag ah ai ac kk_L1 aj ak al) (ab ++ [((aa.1.1, aa.1.2), aa.2)]))
termination_by structural x => x
def m_learn_copied_L1 (N : Nat) (aa : (ByteArray × (List ByteArray) × (List (List ByteArray)) × (List (List Int)) × (List (List ((Bool × (List Int)) × (List Int)))))) : Nat → Int → ByteArray → (List ByteArray) → (List (List ByteArray)) → (List (List Int)) → (List (List ((Bool × (List Int)) × (List Int)))) → Option (ByteArray × (List ByteArray) × (List (List ByteArray)) × (List (List Int)) × (List (List ((Bool × (List Int)) × (List Int)))))
  | 0, _, _, _, _, _, _ => none
  | ak + 1, ab, ah, ai, ac, ad, aj => if (decide (ab < (aa.2.1.length : Int))) = true then ((at? aa.2.2.1 ab).bind fun al => (m_slices_Clone_string_string al).bind fun ae => chk ((ac.length + [ae].length) * 24 ≤ 140737488355328 ∧ ac.length + [ae].length ≤ maxLen) ((at? aa.2.2.2.1 ab).bind fun am => (m_slices_Clone_int_int am).bind fun af => chk ((ad.length + [af].length) * 24 ≤ 140737488355328 ∧ ad.length + [af].length ≤ maxLen) ((at? aa.2.2.2.2 ab).bind fun ag => chk (ag.length * 56 ≤ 281474976710656 ∧ ag.length ≤ maxLen) (m_learn_copied_L2 N ab ah ai ac ad aj (m_learn_copied_L1 N aa ak) ae af ag ([] : List ((Bool × (List Int)) × (List Int))))))) else (some (ah, ai, ac, ad, aj))
termination_by structural x => x
def m_learn_copied (N : Nat) (aa : (ByteArray × (List ByteArray) × (List (List ByteArray)) × (List (List Int)) × (List (List ((Bool × (List Int)) × (List Int)))))) : Option (ByteArray × (List ByteArray) × (List (List ByteArray)) × (List (List Int)) × (List (List ((Bool × (List Int)) × (List Int))))) :=
  (m_slices_Clone_string_string aa.2.1).bind fun ab => m_learn_copied_L1 N aa N 0 aa.1 ab ([] : List (List ByteArray)) ([] : List (List Int)) ([] : List (List ((Bool × (List Int)) × (List Int))))
theorem c_learn_copied (N : Nat) (c1 : Nat) (c2 : Nat) (c3 : Nat) (c4 : Nat) (col : Col) (w0 : World) (a8 : Option Addr) (a9 : Nat) (bq : Option Addr) (bz : Nat) (br : Option Addr) (b0 : Nat) (a3 : Option Addr) (bg : Nat) (aa : (ByteArray × (List ByteArray) × (List (List ByteArray)) × (List (List Int)) × (List (List ((Bool × (List Int)) × (List Int)))))) (ag : Sl Rep.str col w0 a8 a9 aa.2.1) (ae : Sl (Rep.slice Rep.str) col w0 bq bz aa.2.2.1) (af : Sl (Rep.slice (Rep.int .i64)) col w0 br b0 aa.2.2.2.1) (ac : Sl (Rep.slice (Rep.pair (Rep.pair Rep.bool (Rep.slice (Rep.int .u32))) (Rep.slice (Rep.int .u32)))) col w0 a3 bg aa.2.2.2.2) (r : (ByteArray × (List ByteArray) × (List (List ByteArray)) × (List (List Int)) × (List (List ((Bool × (List Int)) × (List Int)))))) (hm : m_learn_copied N aa = some r) :
    Calls Tryz.prog 25 #[(.agg #[(.string aa.1), (.slice a8 aa.2.1.length a9), (.slice bq aa.2.2.1.length bz), (.slice br aa.2.2.2.1.length b0), (.slice a3 aa.2.2.2.2.length bg)])] w0 (fun e w' => ∃ (col' : Col) (ra1 : Option Addr) (rc2 : Nat) (ra4 : Option Addr) (rc5 : Nat) (ra7 : Option Addr) (rc8 : Nat) (ra10 : Option Addr) (rc11 : Nat), e = .returned ((.agg #[(.string r.1), (.slice ra1 r.2.1.length rc2), (.slice ra4 r.2.2.1.length rc5), (.slice ra7 r.2.2.2.1.length rc8), (.slice ra10 r.2.2.2.2.length rc11)])) ∧ Grow col w0 col' w' ∧ Own Rep.str 9 c1 col' w' ra1 rc2 r.2.1 ∧ Own (Rep.row 9 Rep.str) 23 c2 col' w' ra4 rc5 r.2.2.1 ∧ Own (Rep.row 3 (Rep.int .i64)) 33 c3 col' w' ra7 rc8 r.2.2.2.1 ∧ Own (Rep.row 40 (Rep.pair (Rep.pair Rep.bool (Rep.row 114 (Rep.int .u32))) (Rep.row 114 (Rep.int .u32)))) 51 c4 col' w' ra10 rc11 r.2.2.2.2) := by
 refine calls_ofR (m := 74) (args := [(.agg #[(.string aa.1), (.slice a8 aa.2.1.length a9), (.slice bq aa.2.2.1.length bz), (.slice br aa.2.2.2.1.length b0), (.slice a3 aa.2.2.2.2.length bg)])]) Tryz.func25 rfl rfl rfl ?_
 rw [m_learn_copied.eq_1] at hm
 have hst := St.start col w0
 refine wS <| wR ?_
 refine l_box (col := (col0 col)) (v := (.agg #[(.string aa.1), (.slice a8 aa.2.1.length a9), (.slice bq aa.2.2.1.length bz), (.slice br aa.2.2.2.1.length b0), (.slice a3 aa.2.2.2.2.length bg)])) 1 rfl rfl ?_
 intro bs fc d8 cz ab
 replace ab : Box 28 1 d8 fc bs #[(.string aa.1), (.slice a8 aa.2.1.length a9), (.slice bq aa.2.2.1.length bz), (.slice br aa.2.2.2.1.length b0), (.slice a3 aa.2.2.2.2.length bg)] := ab
 refine l_alloc (col := d8) (v := (.agg #[(.string (⟨#[]⟩)), (.slice none (([] : List ByteArray).length) 0), (.slice none (([] : List (List ByteArray)).length) 0), (.slice none (([] : List (List Int)).length) 0), (.slice none (([] : List (List ((Bool × (List Int)) × (List Int)))).length) 0)])) 2 rfl Tryz.zeroValue28 ?_
 intro cv ci cj cw ad
 replace ad : Box 28 2 cj ci cv #[(.string (⟨#[]⟩)), (.slice none (([] : List ByteArray).length) 0), (.slice none (([] : List (List ByteArray)).length) 0), (.slice none (([] : List (List Int)).length) 0), (.slice none (([] : List (List ((Bool × (List Int)) × (List Int)))).length) 0)] := ad
 refine lN <| wS ?_
 have cp := KeepP.clip (fun _ => false) cj ci
 refine wmixF (col := cj) [(0, 1), (1, 0), (2, 1), (3, 0), (4, 3), (5, 1), (6, 4), (7, 2)] (by kernel_rfl) (by kernel_rfl) ⟨fun h => absurd h (by decide), fun h => absurd h (by decide), fun h => absurd h (by decide), fun h => absurd h (by decide), fun h => absurd h (by decide), fun h => absurd h (by decide), fun _ => ⟨_, _, _, rfl, free_alloc Tryz.zeroValue28⟩, fun h => absurd h (by decide), trivial⟩ ?_
 refine xuF (v := (.pointer ((some (⟨bs, 0, none⟩ : Addr)).map (·.add 0)))) rfl rfl (fun _ => rF (sz := 1) (off := 0) Tryz.underlying28 rfl Tryz.sizeOf9 (by decide) rfl rfl ⟨_, _, rfl⟩) ?_
 replace ab := (ab.gr cw).kpp cp
 refine xvF (v := (.string aa.1)) rfl rfl (fun _ hC => r_ld Tryz.isAgg9 rfl (((ab.atN).nth (q := 0) (v := (.string aa.1)) rfl).gr (Grow.of_below (col := (clipC ci cj)) hC.below))) ?_
 refine xuF (v := (.pointer ((some (⟨bs, 0, none⟩ : Addr)).map (·.add 1)))) rfl rfl (fun _ => rF (sz := 1) (off := 1) Tryz.underlying28 rfl Tryz.sizeOf23 (by decide) rfl rfl ⟨_, _, rfl⟩) ?_
 refine xvF (v := (.slice a8 aa.2.1.length a9)) rfl rfl (fun _ hC => r_ld Tryz.isAgg23 rfl (((ab.atN).nth (q := 1) (v := (.slice a8 aa.2.1.length a9)) rfl).gr (Grow.of_below (col := (clipC ci cj)) hC.below))) ?_
 refine xeF rfl rfl ?_
 intro fd hC0
 have hC : Grow (clipC ci cj) ci (clipC ci cj) fd := .of_below hC0.below
 obtain ⟨c0, fe, hm⟩ := bS hm
 replace ag := ((((ag.keep (Stay.start col w0)).gr cz).gr cw).kpp cp).gr hC
 refine lc rfl rfl (r_call1 Tryz.call77 rfl) (c_slices_Clone_string_string 3 (clipC ci cj) _ a8 a9 aa.2.1 ag c0 fe) ?_
 rintro _ aq ⟨az, dg, dh, rfl, b9, c5⟩
 refine ⟨_, rfl, ?_⟩
 refine lN ⟨fun w' => Grow (clipC aq az) aq (clipC aq az) w', fun g => (clipC aq az) g = 497, Grow.refl _ _, good_clip, fun _ => ⟨fun _ h => cls hC0 b9 h, fun b hb => b9.below.block b hb, fun g h1 h2 => fcl b9 g h1 (by first | exact h2 | (simp only [frC, rcC, h2]; rfl))⟩, ?_⟩
 have ck := KeepP.clip (fun _ => false) az aq
 refine xuF (v := (.agg #[(.string aa.1), (.slice dg c0.length dh), (.slice none (([] : List (List ByteArray)).length) 0), (.slice none (([] : List (List Int)).length) 0), (.slice none (([] : List (List ((Bool × (List Int)) × (List Int)))).length) 0)])) rfl rfl (fun _ => r_build (l := [_, _, _, _, _]) (qs := [(0, 1), (1, 1), (2, 1), (3, 1), (4, 1)]) Tryz.underlying28 Tryz.zeroValue28 ⟨rfl, Tryz.sizeOf9, rfl, Tryz.sizeOf23, rfl, Tryz.sizeOf24, rfl, Tryz.sizeOf25, rfl, Tryz.sizeOf26, trivial⟩ rfl) ?_
 refine xaF rfl rfl (free_alloc Tryz.zeroValue28) ?_
 intro aj ff
 refine xeF rfl rfl ?_
 intro d9 ⟨hC0, hZ0⟩
 replace ae := ((((((ae.keep (Stay.start col w0)).gr cz).gr cw).kpp cp).gr hC).gr b9).kpp ck
 replace af := ((((((af.keep (Stay.start col w0)).gr cz).gr cw).kpp cp).gr hC).gr b9).kpp ck
 replace ac := ((((((ac.keep (Stay.start col w0)).gr cz).gr cw).kpp cp).gr hC).gr b9).kpp ck
 replace hst := (((((hst.grow cz).grow cw).kpp cp).grow hC).grow b9).kpp ck
 replace ad := (((ad.kpp cp).gr hC).gr b9).kpp ck
 replace ab := ((ab.gr hC).gr b9).kpp ck
 have hC : Grow (clipC aq az) aq (clipC aq az) d9 := .of_below hC0.below
 obtain ⟨cl, di⟩ := box_float (col := (clipC aq az)) 4 hZ0 ff
 replace di : Box 28 4 (setC aj 4 (clipC aq az)) d9 aj #[(.string (⟨#[]⟩)), (.slice none (([] : List ByteArray).length) 0), (.slice none (([] : List (List ByteArray)).length) 0), (.slice none (([] : List (List Int)).length) 0), (.slice none (([] : List (List ((Bool × (List Int)) × (List Int)))).length) 0)] := di
 refine l_bstore (v := (.agg #[(.string aa.1), (.slice dg c0.length dh), (.slice none (([] : List (List ByteArray)).length) 0), (.slice none (([] : List (List Int)).length) 0), (.slice none (([] : List (List ((Bool × (List Int)) × (List Int)))).length) 0)])) di Tryz.sizeOf28 rfl rfl (by intro u hu; simp only [Value.cells, List.mem_cons, List.not_mem_nil, or_false] at hu; rcases hu with rfl | rfl | rfl | rfl | rfl <;> rfl) rfl rfl ?_
 intro ca cm fg ar
 clear di
 replace ar : Box 28 4 (setC aj 4 (clipC aq az)) ca aj #[(.string aa.1), (.slice dg c0.length dh), (.slice none (([] : List (List ByteArray)).length) 0), (.slice none (([] : List (List Int)).length) 0), (.slice none (([] : List (List ((Bool × (List Int)) × (List Int)))).length) 0)] := ar
 refine lN ⟨fun w' => Grow (clipC ca (setC aj 4 (clipC aq az))) ca (clipC ca (setC aj 4 (clipC aq az))) w', fun g => (clipC ca (setC aj 4 (clipC aq az))) g = 497, Grow.refl _ _, good_clip, fun h => absurd h (by decide), ?_⟩
 have ce := KeepP.clip (fun _ => false) (setC aj 4 (clipC aq az)) ca
 refine xnilF ?_
 replace ag := (((((ag.gr b9).kpp ck).gr hC).kpp cl).kp cm).kpp ce
 replace c5 := ((((c5.kpp ck).gr hC).kpp cl).kp cm).kpp ce
 replace ae := (((ae.gr hC).kpp cl).kp cm).kpp ce
 replace af := (((af.gr hC).kpp cl).kp cm).kpp ce
 replace ac := (((ac.gr hC).kpp cl).kp cm).kpp ce
 replace ab := (((ab.gr hC).kpp cl).kp cm).kpp ce
 replace ad := (((ad.gr hC).kpp cl).kp cm).kpp ce
 replace hst := (((hst.grow hC).kpp cl).kp cm fg).kpp ce
 intro fh hC
 replace hC : Grow (clipC ca (setC aj 4 (clipC aq az))) ca (clipC ca (setC aj 4 (clipC aq az))) fh := .of_below hC.below
 refine wS <| wS <| wR <| lV (.pointer ((some (⟨bs, 0, none⟩ : Addr)).map (·.add 1))) (rF (sz := 1) (off := 1) Tryz.underlying28 rfl Tryz.sizeOf23 (by decide) rfl rfl ⟨_, _, rfl⟩) ?_
 replace ab := ab.gr hC
 refine lV (.slice a8 aa.2.1.length a9) (r_ld Tryz.isAgg23 rfl ((ab.atN).nth (q := 1) (v := (.slice a8 aa.2.1.length a9)) rfl)) <| lV (.int .i64 (aa.2.1.length : Int)) (r_len Tryz.underlying23 rfl) <| lM (.int .i64 0) <| lN <| wB ?_
 replace ar := (ar.kpp ce).gr hC
 replace ag := ag.gr hC
 replace ae := ae.gr hC
 replace af := af.gr hC
 replace ac := ac.gr hC
 replace c5 := c5.gr hC
 replace ad := ad.gr hC
 replace hst := hst.grow hC
 refine wloop (fun n f ba => ∃ (al : Col) (am : Int) (bt : ByteArray) (bh : Option Addr) (bi : Nat) (bb : List ByteArray) (cf : Option Addr) (cg : Nat) (av : List (List ByteArray)) (cb : Option Addr) (cc : Nat) (aw : List (List Int)) (bj : Option Addr) (bk : Nat) (ax : List (List ((Bool × (List Int)) × (List Int)))) (cn : Nat), cn = n ∧ m_learn_copied_L1 N aa cn am bt bb av aw ax = some r ∧ St w0 (col0 col) al ba ∧ Sl Rep.str al ba a8 a9 aa.2.1 ∧ Sl (Rep.slice Rep.str) al ba bq bz aa.2.2.1 ∧ Sl (Rep.slice (Rep.int .i64)) al ba br b0 aa.2.2.2.1 ∧ Sl (Rep.slice (Rep.pair (Rep.pair Rep.bool (Rep.slice (Rep.int .u32))) (Rep.slice (Rep.int .u32)))) al ba a3 bg aa.2.2.2.2 ∧ Box 28 1 al ba bs #[(.string aa.1), (.slice a8 aa.2.1.length a9), (.slice bq aa.2.2.1.length bz), (.slice br aa.2.2.2.1.length b0), (.slice a3 aa.2.2.2.2.length bg)] ∧ Box 28 2 al ba cv #[(.string (⟨#[]⟩)), (.slice none (([] : List ByteArray).length) 0), (.slice none (([] : List (List ByteArray)).length) 0), (.slice none (([] : List (List Int)).length) 0), (.slice none (([] : List (List ((Bool × (List Int)) × (List Int)))).length) 0)] ∧ Own Rep.str 9 3 al ba bh bi bb ∧ Own (Rep.row 9 Rep.str) 23 5 al ba cf cg av ∧ Own (Rep.row 3 (Rep.int .i64)) 33 6 al ba cb cc aw ∧ Own (Rep.row 40 (Rep.pair (Rep.pair Rep.bool (Rep.row 114 (Rep.int .u32))) (Rep.row 114 (Rep.int .u32)))) 51 7 al ba bj bk ax ∧ Box 28 4 al ba aj #[(.string bt), (.slice bh bb.length bi), (.slice cf av.length cg), (.slice cb aw.length cc), (.slice bj ax.length bk)] ∧ f 1 = (.pointer (some ⟨bs, 0, none⟩)) ∧ f 16 = (.int .i64 (aa.2.1.length : Int)) ∧ f 17 = (.int .i64 am) ∧ f 2 = (.pointer (some ⟨cv, 0, none⟩)) ∧ f 3 = (.pointer (some ⟨aj, 0, none⟩)) ∧ f 1000000 = (enc [])) N ⟨(clipC ca (setC aj 4 (clipC aq az))), 0, aa.1, dg, dh, c0, none, 0, ([] : List (List ByteArray)), none, 0, ([] : List (List Int)), none, 0, ([] : List (List ((Bool × (List Int)) × (List Int)))), N, rfl, hm, hst, ag, ae, af, ac, ab, ad, c5, Own.nil, Own.nil, Own.nil, ar, rfl, rfl, rfl, rfl, rfl, rfl⟩ ?_
 clear hm; intro n f ba hI
 obtain ⟨al, am, bt, bh, bi, bb, cf, cg, av, cb, cc, aw, bj, bk, ax, cn, hn, hm, hst, ag, ae, af, ac, ab, ad, ai, b1, an, ah, ar, hs1, hs16, hs17, hs2, hs3, hs1000000⟩ := hI
 subst hn
 refine .lD 1 hs1 <| .lD 16 hs16 <| .lD 17 hs17 <| .lD 2 hs2 <| .lD 3 hs3 <| .lD 1000000 hs1000000 ?_
 clear hs1 hs16 hs17 hs2 hs3 hs1000000
 cases cn with
 | zero => rw [m_learn_copied_L1.eq_1] at hm; cases hm
 | succ cn =>
  rw [m_learn_copied_L1.eq_2] at hm
  refine wS <| wR <| lV (.bool (decide (am < (aa.2.1.length : Int)))) (r_lss am (aa.2.1.length : Int) rfl rfl) <| lN <| wS ?_
  refine wcond (decide (am < (aa.2.1.length : Int))) rfl (fun hb => ?_) (fun hb => ?_)
  ·rw [if_pos hb] at hm
   clear hb
   refine wK <| wS <| wB <| wS <| wR <| lM (.int .i64 am) <| lA (.int .i64 am) <| lN <| wS ?_
   refine wmix (col := al) [(0, 1), (1, 0), (2, 1), (3, 0), (4, 1), (5, 1), (6, 0), (7, 3), (8, 3), (9, 2), (10, 1), (11, 2)] (by kernel_rfl) (by kernel_rfl) ?_
   refine xu (v := (.pointer ((some (⟨aj, 0, none⟩ : Addr)).map (·.add 2)))) rfl rfl (fun _ => rF (sz := 1) (off := 2) Tryz.underlying28 rfl Tryz.sizeOf24 (by decide) rfl rfl ⟨_, _, rfl⟩) ?_
   refine xv (v := (.slice cf av.length cg)) rfl rfl (fun _ hC => r_ld Tryz.isAgg24 rfl (((ar.atN).nth (q := 2) (v := (.slice cf av.length cg)) rfl).gr (Grow.of_below (col := al) hC.below))) ?_
   refine xu (v := (.pointer ((some (⟨bs, 0, none⟩ : Addr)).map (·.add 2)))) rfl rfl (fun _ => rF (sz := 1) (off := 2) Tryz.underlying28 rfl Tryz.sizeOf24 (by decide) rfl rfl ⟨_, _, rfl⟩) ?_
   refine xv (v := (.slice bq aa.2.2.1.length bz)) rfl rfl (fun _ hC => r_ld Tryz.isAgg24 rfl (((ab.atN).nth (q := 2) (v := (.slice bq aa.2.2.1.length bz)) rfl).gr (Grow.of_below (col := al) hC.below))) ?_
   refine xu (v := (.int .i64 am)) rfl rfl (fun _ => r_move rfl) ?_
   obtain ⟨ea, dj, hm⟩ := bS hm
   refine xu (v := (sptr bq (Int.toNat am * 1))) rfl rfl (fun _ => r_idx Tryz.underlying24 Tryz.sizeOf23 rfl rfl (at?_some dj).1 (at?_some dj).2.1 (ae.addr dj)) ?_
   obtain ⟨_, fi, fj⟩ := ae.atN dj
   obtain ⟨⟨eb, ec, rfl, dt⟩, _⟩ := fi
   refine xv (v := (.slice eb ea.length ec)) rfl rfl (fun _ hC => r_ld Tryz.isAgg23 rfl (fj.one.gr (Grow.of_below (col := al) hC.below))) ?_
   refine xe rfl rfl ?_
   intro fk hC0
   have hC : Grow al ba al fk := .of_below hC0.below
   obtain ⟨bu, fl, hm⟩ := bS hm
   replace dt := dt.gr hC
   refine lc rfl rfl (r_call1 Tryz.call77 rfl) (c_slices_Clone_string_string 8 al _ eb ec ea dt bu fl) ?_
   rintro _ ed ⟨c6, ee, ef, rfl, bl, du⟩
   refine ⟨_, rfl, ?_⟩
   refine lN ⟨fun w' => Grow c6 ed c6 w', Grow.refl _ _, fun _ _ h => cls hC0 bl h, ?_⟩
   refine xe rfl rfl ?_
   intro fm hC0
   replace ag := (ag.gr hC).gr bl
   replace ae := (ae.gr hC).gr bl
   replace af := (af.gr hC).gr bl
   replace ac := (ac.gr hC).gr bl
   replace ai := (ai.gr hC).gr bl
   replace b1 := (b1.gr hC).gr bl
   replace an := (an.gr hC).gr bl
   replace ah := (ah.gr hC).gr bl
   replace ab := (ab.gr hC).gr bl
   replace ad := (ad.gr hC).gr bl
   replace ar := (ar.gr hC).gr bl
   replace hst := (hst.grow hC).grow bl
   have hC : Grow c6 ed c6 fm := .of_below hC0.below
   replace du := du.gr hC
   refine l_lit (col := c6) (r := (Rep.row 9 Rep.str)) (xs := [bu]) [(.slice ee bu.length ef)] 8 rfl Tryz.underlying24 el23_25 rfl rfl rfl rfl rfl rfl (by intro v hv; simp only [List.mem_cons, List.not_mem_nil, or_false] at hv; subst hv; rfl) (RowsH.cons1 (cs := [(.slice ee bu.length ef)]) du.has Rows.nil0) ?_
   intro gu eg c7 bm dk
   refine lN ⟨fun w' => Grow c7 eg c7 w', Grow.refl _ _, fun _ _ h => cls hC0 bm h, ?_⟩
   refine xe rfl rfl ?_
   intro eh hC0
   replace ag := (ag.gr hC).gr bm
   replace ae := (ae.gr hC).gr bm
   replace af := (af.gr hC).gr bm
   replace ac := (ac.gr hC).gr bm
   replace ai := (ai.gr hC).gr bm
   replace b1 := (b1.gr hC).gr bm
   replace an := (an.gr hC).gr bm
   replace ah := (ah.gr hC).gr bm
   replace ab := (ab.gr hC).gr bm
   replace ad := (ad.gr hC).gr bm
   replace ar := (ar.gr hC).gr bm
   replace hst := (hst.grow hC).grow bm
   have hC : Grow c7 eg c7 eh := .of_below hC0.below
   obtain ⟨ei, hm⟩ := cS hm
   replace b1 := b1.gr hC
   replace dk := dk.gr hC
   refine l_ext (col := c7) (w := eh) (r := (Rep.row 9 Rep.str)) (c := 5) (c2 := 8) (b1.ex) (dk.srcC (by decide)) rfl Tryz.underlying24 el23_25 rfl rfl rfl ei.1 ei.2 (by decide) ?_
   intro cq cr ej a0 b2 dl
   clear dk
   clear b1
   refine lN ⟨fun w' => Grow a0 ej a0 w', Grow.refl _ _, fun h => absurd h (by decide), ?_⟩
   refine xu (v := (.pointer ((some (⟨aj, 0, none⟩ : Addr)).map (·.add 2)))) rfl rfl (fun _ => rF (sz := 1) (off := 2) Tryz.underlying28 rfl Tryz.sizeOf24 (by decide) rfl rfl ⟨_, _, rfl⟩) ?_
   refine xe rfl rfl ?_
   intro fn hC0
   replace ag := (ag.gr hC).kpp b2
   replace ae := (ae.gr hC).kpp b2
   replace af := (af.gr hC).kpp b2
   replace ac := (ac.gr hC).kpp b2
   replace ai := (ai.gr hC).kpp b2
   replace an := (an.gr hC).kpp b2
   replace ah := (ah.gr hC).kpp b2
   replace ab := (ab.gr hC).kpp b2
   replace ad := (ad.gr hC).kpp b2
   replace ar := (ar.gr hC).kpp b2
   replace hst := (hst.grow hC).kpp b2
   have hC : Grow a0 ej a0 fn := .of_below hC0.below
   replace ar := ar.gr hC
   refine l_bstoreF (off := 2) (v := (.slice cq ((av ++ [bu]).length) cr)) ar Tryz.sizeOf24 rfl rfl (by intro u hu; simp only [Value.cells, List.mem_cons, List.not_mem_nil, or_false] at hu; subst hu; rfl) rfl rfl ?_
   intro dv b3 fo a4
   clear ar
   replace a4 : Box 28 4 a0 dv aj #[(.string bt), (.slice bh bb.length bi), (.slice cq ((av ++ [bu]).length) cr), (.slice cb aw.length cc), (.slice bj ax.length bk)] := a4
   refine lN ⟨fun w' => Grow a0 dv a0 w', Grow.refl _ _, fun h => absurd h (by decide), ?_⟩
   replace dl := (dl.gr hC).kp b3
   have ak := dl.new
   clear dl
   refine xnil ?_
   replace ag := (ag.gr hC).kp b3
   replace ae := (ae.gr hC).kp b3
   replace af := (af.gr hC).kp b3
   replace ac := (ac.gr hC).kp b3
   replace ai := (ai.gr hC).kp b3
   replace an := (an.gr hC).kp b3
   replace ah := (ah.gr hC).kp b3
   replace ab := (ab.gr hC).kp b3
   replace ad := (ad.gr hC).kp b3
   replace hst := (hst.grow hC).kp b3 fo
   intro ek hC
   replace hC : Grow a0 dv a0 ek := .of_below hC.below
   refine wS ?_
   refine wmix (col := a0) [(0, 1), (1, 0), (2, 1), (3, 0), (4, 1), (5, 1), (6, 0), (7, 3), (8, 3), (9, 2), (10, 1), (11, 2)] (by kernel_rfl) (by kernel_rfl) ?_
   refine xu (v := (.pointer ((some (⟨aj, 0, none⟩ : Addr)).map (·.add 3)))) rfl rfl (fun _ => rF (sz := 1) (off := 3) Tryz.underlying28 rfl Tryz.sizeOf25 (by decide) rfl rfl ⟨_, _, rfl⟩) ?_
   replace a4 := a4.gr hC
   refine xv (v := (.slice cb aw.length cc)) rfl rfl (fun _ hC => r_ld Tryz.isAgg25 rfl (((a4.atN).nth (q := 3) (v := (.slice cb aw.length cc)) rfl).gr (Grow.of_below (col := a0) hC.below))) ?_
   refine xu (v := (.pointer ((some (⟨bs, 0, none⟩ : Addr)).map (·.add 3)))) rfl rfl (fun _ => rF (sz := 1) (off := 3) Tryz.underlying28 rfl Tryz.sizeOf25 (by decide) rfl rfl ⟨_, _, rfl⟩) ?_
   replace ab := ab.gr hC
   refine xv (v := (.slice br aa.2.2.2.1.length b0)) rfl rfl (fun _ hC => r_ld Tryz.isAgg25 rfl (((ab.atN).nth (q := 3) (v := (.slice br aa.2.2.2.1.length b0)) rfl).gr (Grow.of_below (col := a0) hC.below))) ?_
   refine xu (v := (.int .i64 am)) rfl rfl (fun _ => r_move rfl) ?_
   obtain ⟨el, dm, hm⟩ := bS hm
   replace af := af.gr hC
   refine xu (v := (sptr br (Int.toNat am * 1))) rfl rfl (fun _ => r_idx Tryz.underlying25 Tryz.sizeOf33 rfl rfl (at?_some dm).1 (at?_some dm).2.1 (af.addr dm)) ?_
   obtain ⟨_, fp, fq⟩ := af.atN dm
   obtain ⟨⟨em, en, rfl, dw⟩, _⟩ := fp
   refine xv (v := (.slice em el.length en)) rfl rfl (fun _ hC => r_ld Tryz.isAgg33 rfl (fq.one.gr (Grow.of_below (col := a0) hC.below))) ?_
   refine xe rfl rfl ?_
   intro fr hC0
   replace ag := ag.gr hC
   replace ae := ae.gr hC
   replace ac := ac.gr hC
   replace ai := ai.gr hC
   replace ak := ak.gr hC
   replace an := an.gr hC
   replace ah := ah.gr hC
   replace ad := ad.gr hC
   replace hst := hst.grow hC
   have hC : Grow a0 ek a0 fr := .of_below hC0.below
   obtain ⟨b4, fs, hm⟩ := bS hm
   replace dw := dw.gr hC
   refine lc rfl rfl (r_call1 Tryz.call78 rfl) (c_slices_Clone_int_int 9 a0 _ em en el dw b4 fs) ?_
   rintro _ eo ⟨c8, ep, eq, rfl, bn, dx⟩
   refine ⟨_, rfl, ?_⟩
   refine lN ⟨fun w' => Grow c8 eo c8 w', Grow.refl _ _, fun _ _ h => cls hC0 bn h, ?_⟩
   refine xe rfl rfl ?_
   intro ft hC0
   replace ag := (ag.gr hC).gr bn
   replace ae := (ae.gr hC).gr bn
   replace af := (af.gr hC).gr bn
   replace ac := (ac.gr hC).gr bn
   replace ai := (ai.gr hC).gr bn
   replace ak := (ak.gr hC).gr bn
   replace an := (an.gr hC).gr bn
   replace ah := (ah.gr hC).gr bn
   replace ab := (ab.gr hC).gr bn
   replace ad := (ad.gr hC).gr bn
   replace a4 := (a4.gr hC).gr bn
   replace hst := (hst.grow hC).grow bn
   have hC : Grow c8 eo c8 ft := .of_below hC0.below
   replace dx := dx.gr hC
   refine l_lit (col := c8) (r := (Rep.row 3 (Rep.int .i64))) (xs := [b4]) [(.slice ep b4.length eq)] 9 rfl Tryz.underlying25 el33_25 rfl rfl rfl rfl rfl rfl (by intro v hv; simp only [List.mem_cons, List.not_mem_nil, or_false] at hv; subst hv; rfl) (RowsH.cons1 (cs := [(.slice ep b4.length eq)]) dx.has Rows.nil0) ?_
   intro gv er c9 bo dn
   refine lN ⟨fun w' => Grow c9 er c9 w', Grow.refl _ _, fun _ _ h => cls hC0 bo h, ?_⟩
   refine xe rfl rfl ?_
   intro es hC0
   replace ag := (ag.gr hC).gr bo
   replace ae := (ae.gr hC).gr bo
   replace af := (af.gr hC).gr bo
   replace ac := (ac.gr hC).gr bo
   replace ai := (ai.gr hC).gr bo
   replace ak := (ak.gr hC).gr bo
   replace an := (an.gr hC).gr bo
   replace ah := (ah.gr hC).gr bo
   replace ab := (ab.gr hC).gr bo
   replace ad := (ad.gr hC).gr bo
   replace a4 := (a4.gr hC).gr bo
   replace hst := (hst.grow hC).grow bo
   have hC : Grow c9 er c9 es := .of_below hC0.below
   obtain ⟨et, hm⟩ := cS hm
   replace an := an.gr hC
   replace dn := dn.gr hC
   refine l_ext (col := c9) (w := es) (r := (Rep.row 3 (Rep.int .i64))) (c := 6) (c2 := 9) (an.ex) (dn.srcC (by decide)) rfl Tryz.underlying25 el33_25 rfl rfl rfl et.1 et.2 (by decide) ?_
   intro cx cy eu cd b5 dp
   clear dn
   clear an
   refine lN ⟨fun w' => Grow cd eu cd w', Grow.refl _ _, fun h => absurd h (by decide), ?_⟩
   refine xu (v := (.pointer ((some (⟨aj, 0, none⟩ : Addr)).map (·.add 3)))) rfl rfl (fun _ => rF (sz := 1) (off := 3) Tryz.underlying28 rfl Tryz.sizeOf25 (by decide) rfl rfl ⟨_, _, rfl⟩) ?_
   refine xe rfl rfl ?_
   intro fu hC0
   replace ag := (ag.gr hC).kpp b5
   replace ae := (ae.gr hC).kpp b5
   replace af := (af.gr hC).kpp b5
   replace ac := (ac.gr hC).kpp b5
   replace ai := (ai.gr hC).kpp b5
   replace ak := (ak.gr hC).kpp b5
   replace ah := (ah.gr hC).kpp b5
   replace ab := (ab.gr hC).kpp b5
   replace ad := (ad.gr hC).kpp b5
   replace a4 := (a4.gr hC).kpp b5
   replace hst := (hst.grow hC).kpp b5
   have hC : Grow cd eu cd fu := .of_below hC0.below
   replace a4 := a4.gr hC
   refine l_bstoreF (off := 3) (v := (.slice cx ((aw ++ [b4]).length) cy)) a4 Tryz.sizeOf25 rfl rfl (by intro u hu; simp only [Value.cells, List.mem_cons, List.not_mem_nil, or_false] at hu; subst hu; rfl) rfl rfl ?_
   intro dy b6 fv au
   clear a4
   replace au : Box 28 4 cd dy aj #[(.string bt), (.slice bh bb.length bi), (.slice cq ((av ++ [bu]).length) cr), (.slice cx ((aw ++ [b4]).length) cy), (.slice bj ax.length bk)] := au
   refine lN ⟨fun w' => Grow cd dy cd w', Grow.refl _ _, fun h => absurd h (by decide), ?_⟩
   replace dp := (dp.gr hC).kp b6
   have bc := dp.new
   clear dp
   refine xnil ?_
   replace ag := (ag.gr hC).kp b6
   replace ae := (ae.gr hC).kp b6
   replace af := (af.gr hC).kp b6
   replace ac := (ac.gr hC).kp b6
   replace ai := (ai.gr hC).kp b6
   replace ak := (ak.gr hC).kp b6
   replace ah := (ah.gr hC).kp b6
   replace ab := (ab.gr hC).kp b6
   replace ad := (ad.gr hC).kp b6
   replace hst := (hst.grow hC).kp b6 fv
   intro ev hC
   replace hC : Grow cd dy cd ev := .of_below hC.below
   refine wS <| wR <| lV (.pointer ((some (⟨bs, 0, none⟩ : Addr)).map (·.add 4))) (rF (sz := 1) (off := 4) Tryz.underlying28 rfl Tryz.sizeOf26 (by decide) rfl rfl ⟨_, _, rfl⟩) ?_
   replace ab := ab.gr hC
   refine lV (.slice a3 aa.2.2.2.2.length bg) (r_ld Tryz.isAgg26 rfl ((ab.atN).nth (q := 4) (v := (.slice a3 aa.2.2.2.2.length bg)) rfl)) <| lM (.int .i64 am) ?_
   obtain ⟨ap, co, hm⟩ := bS hm
   replace ac := ac.gr hC
   refine lV (sptr a3 (Int.toNat am * 1)) (r_idx Tryz.underlying26 Tryz.sizeOf51 rfl rfl (at?_some co).1 (at?_some co).2.1 (ac.addr co)) ?_
   obtain ⟨_, fw, fx⟩ := ac.atN co
   obtain ⟨⟨fy, fz, rfl, gw⟩, _⟩ := fw
   refine lV (.slice fy ap.length fz) (r_ld Tryz.isAgg51 rfl fx.one) <| lV (.int .i64 (ap.length : Int)) (r_len Tryz.underlying51 rfl) ?_
   obtain ⟨ew, hm⟩ := cS hm
   refine l_make0 (col := cd) (w := ev) (r := (Rep.pair (Rep.pair Rep.bool (Rep.row 114 (Rep.int .u32))) (Rep.row 114 (Rep.int .u32)))) (n := ap.length) 10 rfl Tryz.underlying51 el40_25 rfl rfl rfl ew.1 ew.2 ?_
   intro ey gx f0 bv f1
   refine lA (.slice ey (([] : List ((Bool × (List Int)) × (List Int))).length) ap.length) <| lN <| wS <| wS <| wR <| lV (.pointer ((some (⟨bs, 0, none⟩ : Addr)).map (·.add 4))) (rF (sz := 1) (off := 4) Tryz.underlying28 rfl Tryz.sizeOf26 (by decide) rfl rfl ⟨_, _, rfl⟩) ?_
   replace ab := ab.gr bv
   refine lV (.slice a3 aa.2.2.2.2.length bg) (r_ld Tryz.isAgg26 rfl ((ab.atN).nth (q := 4) (v := (.slice a3 aa.2.2.2.2.length bg)) rfl)) <| lM (.int .i64 am) ?_
   replace ac := ac.gr bv
   refine lV (sptr a3 (Int.toNat am * 1)) (r_idx Tryz.underlying26 Tryz.sizeOf51 rfl rfl (at?_some co).1 (at?_some co).2.1 (ac.addr co)) ?_
   obtain ⟨_, f2, f3⟩ := ac.atN co
   obtain ⟨⟨dq, dz, rfl, bw⟩, _⟩ := f2
   refine lV (.slice dq ap.length dz) (r_ld Tryz.isAgg51 rfl f3.one) <| lV (.int .i64 (ap.length : Int)) (r_len Tryz.underlying51 rfl) <| lM (.int .i64 0) <| lN <| wB ?_
   replace ag := (ag.gr hC).gr bv
   replace ae := (ae.gr hC).gr bv
   replace af := (af.gr hC).gr bv
   replace ai := (ai.gr hC).gr bv
   replace ak := (ak.gr hC).gr bv
   replace bc := (bc.gr hC).gr bv
   replace ah := (ah.gr hC).gr bv
   replace ad := (ad.gr hC).gr bv
   replace au := (au.gr hC).gr bv
   replace hst := (hst.grow hC).grow bv
   refine wloop (fun n f a5 => ∃ (ay : Col) (ct : Option Addr) (cu : Nat) (a6 : List ((Bool × (List Int)) × (List Int))) (bd : Nat) (da : List ((Bool × (List Int)) × (List Int))), n = da.length ∧ ap.drop bd = da ∧ m_learn_copied_L2 N am bt bb av aw ax (m_learn_copied_L1 N aa cn) bu b4 da a6 = some r ∧ St w0 (col0 col) ay a5 ∧ Sl Rep.str ay a5 a8 a9 aa.2.1 ∧ Sl (Rep.slice Rep.str) ay a5 bq bz aa.2.2.1 ∧ Sl (Rep.slice (Rep.int .i64)) ay a5 br b0 aa.2.2.2.1 ∧ Sl (Rep.slice (Rep.pair (Rep.pair Rep.bool (Rep.slice (Rep.int .u32))) (Rep.slice (Rep.int .u32)))) ay a5 a3 bg aa.2.2.2.2 ∧ Box 28 1 ay a5 bs #[(.string aa.1), (.slice a8 aa.2.1.length a9), (.slice bq aa.2.2.1.length bz), (.slice br aa.2.2.2.1.length b0), (.slice a3 aa.2.2.2.2.length bg)] ∧ Box 28 2 ay a5 cv #[(.string (⟨#[]⟩)), (.slice none (([] : List ByteArray).length) 0), (.slice none (([] : List (List ByteArray)).length) 0), (.slice none (([] : List (List Int)).length) 0), (.slice none (([] : List (List ((Bool × (List Int)) × (List Int)))).length) 0)] ∧ Own Rep.str 9 3 ay a5 bh bi bb ∧ Own (Rep.row 9 Rep.str) 23 5 ay a5 cq cr (av ++ [bu]) ∧ Own (Rep.row 3 (Rep.int .i64)) 33 6 ay a5 cx cy (aw ++ [b4]) ∧ Own (Rep.row 40 (Rep.pair (Rep.pair Rep.bool (Rep.row 114 (Rep.int .u32))) (Rep.row 114 (Rep.int .u32)))) 51 7 ay a5 bj bk ax ∧ Box 28 4 ay a5 aj #[(.string bt), (.slice bh bb.length bi), (.slice cq ((av ++ [bu]).length) cr), (.slice cx ((aw ++ [b4]).length) cy), (.slice bj ax.length bk)] ∧ Own (Rep.pair (Rep.pair Rep.bool (Rep.row 114 (Rep.int .u32))) (Rep.row 114 (Rep.int .u32))) 40 10 ay a5 ct cu a6 ∧ Sl (Rep.pair (Rep.pair Rep.bool (Rep.slice (Rep.int .u32))) (Rep.slice (Rep.int .u32))) ay a5 dq dz ap ∧ f 55 = (.int .i64 (bd : Int)) ∧ f 1 = (.pointer (some ⟨bs, 0, none⟩)) ∧ f 16 = (.int .i64 (aa.2.1.length : Int)) ∧ f 17 = (.int .i64 am) ∧ f 2 = (.pointer (some ⟨cv, 0, none⟩)) ∧ f 3 = (.pointer (some ⟨aj, 0, none⟩)) ∧ f 5 = (.slice ct a6.length cu) ∧ f 53 = (.slice dq ap.length dz) ∧ f 54 = (.int .i64 (ap.length : Int)) ∧ f 1000000 = (enc [])) ap.length ⟨f0, ey, ap.length, ([] : List ((Bool × (List Int)) × (List Int))), 0, ap, rfl, rfl, hm, hst, ag, ae, af, ac, ab, ad, ai, ak, bc, ah, au, f1, bw, rfl, rfl, rfl, rfl, rfl, rfl, rfl, rfl, rfl, rfl⟩ ?_
   clear hm; intro n f a5 hI
   obtain ⟨ay, ct, cu, a6, bd, da, hn, hl, hm, hst, ag, ae, af, ac, ab, ad, ai, ak, bc, ah, au, ch, bw, hs55, hs1, hs16, hs17, hs2, hs3, hs5, hs53, hs54, hs1000000⟩ := hI
   subst hn
   refine .lD 55 hs55 <| .lD 1 hs1 <| .lD 16 hs16 <| .lD 17 hs17 <| .lD 2 hs2 <| .lD 3 hs3 <| .lD 5 hs5 <| .lD 53 hs53 <| .lD 54 hs54 <| .lD 1000000 hs1000000 ?_
   clear hs55 hs1 hs16 hs17 hs2 hs3 hs5 hs53 hs54 hs1000000
   cases da with
   | nil =>
    have hk : ¬ ((bd : Int) < (ap.length : Int)) := by have := List.drop_eq_nil_iff.1 hl; omega
    have hkb := decide_eq_false hk
    rw [m_learn_copied_L2.eq_1] at hm
    refine wS <| wR <| lV (.bool (decide ((bd : Int) < (ap.length : Int)))) (r_lss (bd : Int) (ap.length : Int) rfl rfl) <| lN <| wS ?_
    refine wcondF (congrArg Value.bool hkb) ?_
    refine wexit (inB_hit ?_)
    refine wR <| lV (.pointer ((some (⟨aj, 0, none⟩ : Addr)).map (·.add 4))) (rF (sz := 1) (off := 4) Tryz.underlying28 rfl Tryz.sizeOf26 (by decide) rfl rfl ⟨_, _, rfl⟩) <| lV (.slice bj ax.length bk) (r_ld Tryz.isAgg26 rfl ((au.atN).nth (q := 4) (v := (.slice bj ax.length bk)) rfl)) <| lM (.slice ct a6.length cu) ?_
    refine l_lit (col := ay) (r := (Rep.row 40 (Rep.pair (Rep.pair Rep.bool (Rep.row 114 (Rep.int .u32))) (Rep.row 114 (Rep.int .u32))))) (xs := [a6]) [(.slice ct a6.length cu)] 10 rfl Tryz.underlying26 el51_25 rfl rfl rfl rfl rfl rfl (by intro v hv; simp only [List.mem_cons, List.not_mem_nil, or_false] at hv; subst hv; rfl) (RowsH.cons1 (cs := [(.slice ct a6.length cu)]) ch.has Rows.nil0) ?_
    intro gy f4 f5 bx ez
    obtain ⟨e0, hm⟩ := cS hm
    replace ah := ah.gr bx
    refine l_ext (col := f5) (w := f4) (r := (Rep.row 40 (Rep.pair (Rep.pair Rep.bool (Rep.row 114 (Rep.int .u32))) (Rep.row 114 (Rep.int .u32))))) (c := 7) (c2 := 10) (ah.ex) (ez.srcC (by decide)) rfl Tryz.underlying26 el51_25 rfl rfl rfl e0.1 e0.2 (by decide) ?_
    intro d0 d1 gz e1 b7 dr
    clear ez
    clear ah
    refine lV (.pointer ((some (⟨aj, 0, none⟩ : Addr)).map (·.add 4))) (rF (sz := 1) (off := 4) Tryz.underlying28 rfl Tryz.sizeOf26 (by decide) rfl rfl ⟨_, _, rfl⟩) ?_
    replace au := (au.gr bx).kpp b7
    refine l_bstoreF (off := 4) (v := (.slice d0 ((ax ++ [a6]).length) d1)) au Tryz.sizeOf26 rfl rfl (by intro u hu; simp only [Value.cells, List.mem_cons, List.not_mem_nil, or_false] at hu; subst hu; rfl) rfl rfl ?_
    intro f6 b8 f7 d2
    clear au
    replace d2 : Box 28 4 e1 f6 aj #[(.string bt), (.slice bh bb.length bi), (.slice cq ((av ++ [bu]).length) cr), (.slice cx ((aw ++ [b4]).length) cy), (.slice d0 ((ax ++ [a6]).length) d1)] := d2
    replace dr := dr.kp b8
    have f8 := dr.new
    clear dr
    refine lN <| wR <| lV (.int .i64 (IntKind.i64.wrap (am + 1))) (r_add am 1 rfl rfl) <| lM (.int .i64 (IntKind.i64.wrap (am + 1))) <| lN ?_
    replace ag := ((ag.gr bx).kpp b7).kp b8
    replace ae := ((ae.gr bx).kpp b7).kp b8
    replace af := ((af.gr bx).kpp b7).kp b8
    replace ac := ((ac.gr bx).kpp b7).kp b8
    replace ai := ((ai.gr bx).kpp b7).kp b8
    replace ak := ((ak.gr bx).kpp b7).kp b8
    replace bc := ((bc.gr bx).kpp b7).kp b8
    replace ab := ((ab.gr bx).kpp b7).kp b8
    replace ad := ((ad.gr bx).kpp b7).kp b8
    replace hst := ((hst.grow bx).kpp b7).kp b8 f7
    exact ⟨cn, by omega, ⟨e1, (IntKind.i64.wrap (am + 1)), bt, bh, bi, bb, cq, cr, (av ++ [bu]), cx, cy, (aw ++ [b4]), d0, d1, (ax ++ [a6]), cn, rfl, hm, hst, ag, ae, af, ac, ab, ad, ai, ak, bc, f8, d2, rfl, rfl, rfl, rfl, rfl, rfl⟩⟩
   | cons a7 e2 =>
    obtain ⟨hat, hl2_L2, hlt_L2⟩ := drop_get hl
    have hk : (bd : Int) < (ap.length : Int) := by omega
    have hkb := decide_eq_true hk
    rw [m_learn_copied_L2.eq_2] at hm
    refine wS <| wR <| lV (.bool (decide ((bd : Int) < (ap.length : Int)))) (r_lss (bd : Int) (ap.length : Int) rfl rfl) <| lN <| wS ?_
    refine wcondT (congrArg Value.bool hkb) ?_
    refine wK <| wS <| wB <| wS <| wR ?_
    refine lV (sptr dq (Int.toNat (bd : Int) * 3)) (r_idx Tryz.underlying51 Tryz.sizeOf40 rfl rfl (at?_some hat).1 (at?_some hat).2.1 (bw.addr hat)) ?_
    obtain ⟨_, f9, ga⟩ := bw.atN hat
    obtain ⟨_, _, rfl, gb, gc⟩ := rd_pair f9
    obtain ⟨_, _, rfl, gd, ge⟩ := rd_pair gb
    obtain ⟨rfl, _⟩ := gd
    obtain ⟨⟨db, dc, rfl, d3⟩, _⟩ := ge
    obtain ⟨⟨dd, de, rfl, d4⟩, _⟩ := gc
    refine lV (.agg #[(.bool a7.1.1), (.slice db a7.1.2.length dc), (.slice dd a7.2.length de)]) (r_ldN Tryz.isAgg40 Tryz.sizeOf40 rfl rfl ga) ?_
    refine l_alloc (col := ay) (v := (.agg #[(.bool false), (.slice none (([] : List Int).length) 0), (.slice none (([] : List Int).length) 0)])) 11 rfl Tryz.zeroValue40 ?_
    intro e3 gf d5 a1 ds
    replace ds : Box 40 11 d5 gf e3 #[(.bool false), (.slice none (([] : List Int).length) 0), (.slice none (([] : List Int).length) 0)] := ds
    refine l_bstore (v := (.agg #[(.bool a7.1.1), (.slice db a7.1.2.length dc), (.slice dd a7.2.length de)])) ds Tryz.sizeOf40 rfl rfl (by intro u hu; simp only [Value.cells, List.mem_cons, List.not_mem_nil, or_false] at hu; rcases hu with rfl | rfl | rfl <;> rfl) rfl rfl ?_
    intro gg a2 gh d6
    clear ds
    replace d6 : Box 40 11 d5 gg e3 #[(.bool a7.1.1), (.slice db a7.1.2.length dc), (.slice dd a7.2.length de)] := d6
    refine lN <| wR <| lM (.slice ct a6.length cu) <| lV (.agg #[(.bool a7.1.1), (.slice db a7.1.2.length dc), (.slice dd a7.2.length de)]) (r_ldN Tryz.isAgg40 Tryz.sizeOf40 rfl rfl d6.atN) <| lV (.agg #[(.bool false), (.slice none (([] : List Int).length) 0), (.slice none (([] : List Int).length) 0)]) (r_build (l := [_, _]) (qs := [(0, 2), (2, 1)]) Tryz.underlying40 Tryz.zeroValue40 ⟨rfl, Tryz.sizeOf38, rfl, Tryz.sizeOf36, trivial⟩ rfl) ?_
    obtain ⟨ao, gi, hm⟩ := bS hm
    replace d3 := (d3.gr a1).kp a2
    replace d4 := (d4.gr a1).kp a2
    refine lc rfl rfl (r_call2 Tryz.call27 rfl rfl) (c_frac_Add N 12 13 d5 _ db dc dd de ((a7.1.1, a7.1.2), a7.2) none 0 none 0 ((false, ([] : List Int)), ([] : List Int)) d3 d4 Sl.nil Sl.nil ao gi) ?_
    rintro _ g0 ⟨gj, e4, e5, e6, e7, rfl, be, gk, gl⟩
    refine ⟨_, rfl, ?_⟩
    have gm := Has.join (Has.joinL (rd_bool ao.1.1) gk.has) gl.has (by decide) (by decide)
    replace ag := ((ag.gr a1).kp a2).gr be
    replace ag := ag.recol 13 12 (by decide)
    replace ae := ((ae.gr a1).kp a2).gr be
    replace ae := ae.recol 13 12 (by decide)
    replace af := ((af.gr a1).kp a2).gr be
    replace af := af.recol 13 12 (by decide)
    replace ac := ((ac.gr a1).kp a2).gr be
    replace ac := ac.recol 13 12 (by decide)
    replace ai := ((ai.gr a1).kp a2).gr be
    replace ai := ai.recol 13 12 (by decide)
    replace ak := ((ak.gr a1).kp a2).gr be
    replace ak := ak.recol 13 12 (by decide)
    replace bc := ((bc.gr a1).kp a2).gr be
    replace bc := bc.recol 13 12 (by decide)
    replace ah := ((ah.gr a1).kp a2).gr be
    replace ah := ah.recol 13 12 (by decide)
    replace bw := ((bw.gr a1).kp a2).gr be
    replace bw := bw.recol 13 12 (by decide)
    replace ch := ((ch.gr a1).kp a2).gr be
    replace ch := ch.recol 13 12 (by decide)
    replace ab := ((ab.gr a1).kp a2).gr be
    replace ab := ab.recol 13 12 (by decide)
    replace ad := ((ad.gr a1).kp a2).gr be
    replace ad := ad.recol 13 12 (by decide)
    replace au := ((au.gr a1).kp a2).gr be
    replace au := au.recol 13 12 (by decide)
    replace hst := ((hst.grow a1).kp a2 gh).grow be
    replace hst := hst.recol 13 12 (by decide) (by decide)
    refine l_lit (col := (rcC 13 12 gj)) (r := (Rep.pair (Rep.pair Rep.bool (Rep.row 114 (Rep.int .u32))) (Rep.row 114 (Rep.int .u32)))) (xs := [((ao.1.1, ao.1.2), ao.2)]) [(.agg #[(.bool ao.1.1), (.slice e4 ao.1.2.length e5), (.slice e6 ao.2.length e7)])] 12 rfl Tryz.underlying51 el40_25 rfl rfl rfl rfl rfl rfl (by intro v hv; simp only [List.mem_cons, List.not_mem_nil, or_false] at hv; subst hv; rfl) (RowsH.cons1 (cs := [(.bool ao.1.1), (.slice e4 ao.1.2.length e5), (.slice e6 ao.2.length e7)]) gm Rows.nil0) ?_
    intro g1 gn go bf e8
    obtain ⟨e9, hm⟩ := cS hm
    replace ch := ch.gr bf
    refine l_appendM (col := go) (w := gn) (r := (Rep.pair (Rep.pair Rep.bool (Rep.row 114 (Rep.int .u32))) (Rep.row 114 (Rep.int .u32)))) (c := 10) (c2 := 12) (xs := a6) (ys := [((ao.1.1, ao.1.2), ao.2)]) ch (e8.srcC (by decide)) rfl Tryz.underlying51 el40_25 rfl rfl rfl e9.1 e9.2 (by decide) ?_
    intro fa fb g2 gp bp gq
    clear e8
    clear ch
    refine lA (.slice fa ((a6 ++ [((ao.1.1, ao.1.2), ao.2)]).length) fb) <| lN <| wR <| lV (.int .i64 (IntKind.i64.wrap ((bd : Int) + 1))) (r_add (bd : Int) 1 rfl rfl) <| lM (.int .i64 (IntKind.i64.wrap ((bd : Int) + 1))) <| lN ?_
    replace ag := (ag.gr bf).kpp bp
    replace ae := (ae.gr bf).kpp bp
    replace af := (af.gr bf).kpp bp
    replace ac := (ac.gr bf).kpp bp
    replace ai := (ai.gr bf).kpp bp
    replace ak := (ak.gr bf).kpp bp
    replace bc := (bc.gr bf).kpp bp
    replace ah := (ah.gr bf).kpp bp
    replace bw := (bw.gr bf).kpp bp
    replace ab := (ab.gr bf).kpp bp
    replace ad := (ad.gr bf).kpp bp
    replace au := (au.gr bf).kpp bp
    replace hst := (hst.grow bf).kpp bp
    exact ⟨e2.length, by simp, ⟨gp, fa, fb, (a6 ++ [((ao.1.1, ao.1.2), ao.2)]), (bd + 1), e2, rfl, hl2_L2, hm, hst, ag, ae, af, ac, ab, ad, ai, ak, bc, ah, au, gq, bw, (congrArg (Value.int .i64) (wrap_succ (Nat.lt_of_lt_of_le hlt_L2 bw.1.1))), rfl, rfl, rfl, rfl, rfl, rfl, rfl, rfl, rfl⟩⟩
  rw [if_neg (by rw [hb]; decide)] at hm
  clear hb
  refine wexit (inB_hit ?_)
  refine wS <| wR <| lV (.agg #[(.string bt), (.slice bh bb.length bi), (.slice cf av.length cg), (.slice cb aw.length cc), (.slice bj ax.length bk)]) (r_ldN Tryz.isAgg28 Tryz.sizeOf28 rfl rfl ar.atN) ?_
  refine l_bstore (v := (.agg #[(.string bt), (.slice bh bb.length bi), (.slice cf av.length cg), (.slice cb aw.length cc), (.slice bj ax.length bk)])) ad Tryz.sizeOf28 rfl rfl (by intro u hu; simp only [Value.cells, List.mem_cons, List.not_mem_nil, or_false] at hu; rcases hu with rfl | rfl | rfl | rfl | rfl <;> rfl) rfl rfl ?_
  intro gs df gt d7
  clear ad
  replace d7 : Box 28 2 al gs cv #[(.string bt), (.slice bh bb.length bi), (.slice cf av.length cg), (.slice cb aw.length cc), (.slice bj ax.length bk)] := d7
  refine lN ?_
  refine wret ?_
  cases hm
  replace ai := ai.kp df
  replace b1 := b1.kp df
  replace an := an.kp df
  replace ah := ah.kp df
  replace hst := hst.kp df gt
  exact ⟨rfl, _, res_a rfl rfl Tryz.isAgg28 Tryz.sizeOf28 rfl rfl d7.atN, colF w0.heap.size col al (fun n => bif Nat.beq n 3 then c1 else bif Nat.beq n 5 then c2 else bif Nat.beq n 6 then c3 else bif Nat.beq n 7 then c4 else 0), bh, bi, cf, cg, cb, cc, bj, bk, rfl, hst.fin (fun n => bif Nat.beq n 3 then c1 else bif Nat.beq n 5 then c2 else bif Nat.beq n 6 then c3 else bif Nat.beq n 7 then c4 else 0), hst.finOwn (g := (fun n => bif Nat.beq n 3 then c1 else bif Nat.beq n 5 then c2 else bif Nat.beq n 6 then c3 else bif Nat.beq n 7 then c4 else 0)) rfl ai (by decide) (by decide) rfl, hst.finOwn (g := (fun n => bif Nat.beq n 3 then c1 else bif Nat.beq n 5 then c2 else bif Nat.beq n 6 then c3 else bif Nat.beq n 7 then c4 else 0)) rfl b1 (by decide) (by decide) rfl, hst.finOwn (g := (fun n => bif Nat.beq n 3 then c1 else bif Nat.beq n 5 then c2 else bif Nat.beq n 6 then c3 else bif Nat.beq n 7 then c4 else 0)) rfl an (by decide) (by decide) rfl, hst.finOwn (g := (fun n => bif Nat.beq n 3 then c1 else bif Nat.beq n 5 then c2 else bif Nat.beq n 6 then c3 else bif Nat.beq n 7 then c4 else 0)) rfl ah (by decide) (by decide) rfl⟩
def m_data_wrong_J1 (aa : Nat) (kk_L2 : (Nat → Option Int)) (ab : Bool) : Option Int :=
  if ab = true then none else (kk_L2 (aa + 1))
def m_data_wrong_L2 (ab : (ByteArray × (List ByteArray) × (List (List ByteArray)) × (List (List Int)) × (List (List ((Bool × (List Int)) × (List Int)))))) (kk_L1 : (Option Int)) : List Int → Nat → Option Int
  | [], aa => kk_L1 
  | ac :: ad, aa => if (decide (ac < (-1))) = true then (m_data_wrong_J1 aa (m_data_wrong_L2 ab kk_L1 ad) true) else ((at? ab.2.2.1 (aa : Int)).bind fun ae => m_data_wrong_J1 aa (m_data_wrong_L2 ab kk_L1 ad) (decide ((ae.length : Int) ≤ ac)))
termination_by structural x => x
def m_data_wrong_L1 (aa : (ByteArray × (List ByteArray) × (List (List ByteArray)) × (List (List Int)) × (List (List ((Bool × (List Int)) × (List Int)))))) : List (List Int) → Option Int
  | [] => some 0
  | ab :: ac => if (!decide ((ab.length : Int) = (aa.2.1.length : Int))) = true then none else (m_data_wrong_L2 aa (m_data_wrong_L1 aa ac) ab 0)
termination_by structural x => x
def m_data_wrong (N : Nat) (aa : (ByteArray × (List ByteArray) × (List (List ByteArray)) × (List (List Int)) × (List (List ((Bool × (List Int)) × (List Int)))))) (ab : (List (List Int))) : Option Int :=
  (m_model_Check N (aa.1, aa.2.1, aa.2.2.1, aa.2.2.2.1, aa.2.2.2.2)).bind fun ac => if (!decide (ac = 0)) = true then none else (m_data_wrong_L1 aa ab)
theorem c_data_wrong (N : Nat) (col : Col) (w0 : World) (ak : Option Addr) (al : Nat) (ag : Option Addr) (am : Nat) (aq : Option Addr) (ar : Nat) (au : Option Addr) (av : Nat) (aa : (ByteArray × (List ByteArray) × (List (List ByteArray)) × (List (List Int)) × (List (List ((Bool × (List Int)) × (List Int)))))) (a1 : Option Addr) (cap1 : Nat) (ac : (List (List Int))) (an : Sl Rep.str col w0 ak al aa.2.1) (ah : Sl (Rep.slice Rep.str) col w0 ag am aa.2.2.1) (ao : Sl (Rep.slice (Rep.int .i64)) col w0 aq ar aa.2.2.2.1) (ap : Sl (Rep.slice (Rep.pair (Rep.pair Rep.bool (Rep.slice (Rep.int .u32))) (Rep.slice (Rep.int .u32)))) col w0 au av aa.2.2.2.2) (h1 : Sl (Rep.slice (Rep.int .i64)) col w0 a1 cap1 ac) (r : Int) (hm : m_data_wrong N aa ac = some r) :
    Calls Tryz.prog 79 #[(.agg #[(.string aa.1), (.slice ak aa.2.1.length al), (.slice ag aa.2.2.1.length am), (.slice aq aa.2.2.2.1.length ar), (.slice au aa.2.2.2.2.length av)]), (.slice a1 ac.length cap1)] w0 (fun e w' => e = .returned ((.int .i64 r)) ∧ Below w0.heap.size w0 w') := by
 refine calls_of1 4 (m := 48) (args := [(.agg #[(.string aa.1), (.slice ak aa.2.1.length al), (.slice ag aa.2.2.1.length am), (.slice aq aa.2.2.2.1.length ar), (.slice au aa.2.2.2.2.length av)]), (.slice a1 ac.length cap1)]) Tryz.func79 rfl rfl rfl rfl rfl ?_
 rw [m_data_wrong.eq_1] at hm
 have hst := St.start col w0
 refine wS <| wR ?_
 refine l_box (col := (col0 col)) (v := (.agg #[(.string aa.1), (.slice ak aa.2.1.length al), (.slice ag aa.2.2.1.length am), (.slice aq aa.2.2.2.1.length ar), (.slice au aa.2.2.2.2.length av)])) 1 rfl rfl ?_
 intro ay bi bb a8 ai
 replace ai : Box 28 1 bb bi ay #[(.string aa.1), (.slice ak aa.2.1.length al), (.slice ag aa.2.2.1.length am), (.slice aq aa.2.2.2.1.length ar), (.slice au aa.2.2.2.2.length av)] := ai
 refine lA (.int .i64 0) <| lN <| wS <| wS <| wR <| lV (.agg #[(.string aa.1), (.slice ak aa.2.1.length al), (.slice ag aa.2.2.1.length am), (.slice aq aa.2.2.2.1.length ar), (.slice au aa.2.2.2.2.length av)]) (r_ldN Tryz.isAgg28 Tryz.sizeOf28 rfl rfl ai.atN) ?_
 obtain ⟨a9, bj, hm⟩ := bS hm
 replace an := (an.keep (Stay.start col w0)).gr a8
 replace ah := (ah.keep (Stay.start col w0)).gr a8
 replace ao := (ao.keep (Stay.start col w0)).gr a8
 replace ap := (ap.keep (Stay.start col w0)).gr a8
 refine lc rfl rfl (r_call1 Tryz.call69 rfl) (c_model_Check N bb _ ak al ag am aq ar au av (aa.1, aa.2.1, aa.2.2.1, aa.2.2.2.1, aa.2.2.2.2) an ah ao ap a9 bj) ?_
 rintro _ bk ⟨rfl, az⟩
 refine ⟨_, rfl, ?_⟩
 replace az : Grow bb bi bb bk := .of_below az
 refine lA (.int .i64 a9) <| lN <| wS <| wR <| lM (.int .i64 a9) <| lV (.bool (!decide (a9 = 0))) (r_neq a9 0 rfl rfl) <| lN ?_
 replace h1 := ((h1.keep (Stay.start col w0)).gr a8).gr az
 replace hst := (hst.grow a8).grow az
 replace an := an.gr az
 replace ah := ah.gr az
 replace ao := ao.gr az
 replace ap := ap.gr az
 replace ai := ai.gr az
 refine wcond (!decide (a9 = 0)) rfl (fun hb => ?_) (fun hb => ?_)
 ·rw [if_pos hb] at hm
  clear hb
  cases hm
 rw [if_neg (by rw [hb]; decide)] at hm
 clear hb
 refine wK <| wS <| wS <| wR <| lM (.slice a1 ac.length cap1) <| lV (.int .i64 (ac.length : Int)) (r_len Tryz.underlying34 rfl) <| lM (.int .i64 0) <| lN <| wB ?_
 refine wloop (fun n f a6 => ∃ (a0 : Col) (aj : Nat) (bc : List (List Int)), n = bc.length ∧ ac.drop aj = bc ∧ m_data_wrong_L1 aa bc  = some r ∧ St w0 (col0 col) a0 a6 ∧ Sl (Rep.slice (Rep.int .i64)) a0 a6 a1 cap1 ac ∧ Sl Rep.str a0 a6 ak al aa.2.1 ∧ Sl (Rep.slice Rep.str) a0 a6 ag am aa.2.2.1 ∧ Sl (Rep.slice (Rep.int .i64)) a0 a6 aq ar aa.2.2.2.1 ∧ Sl (Rep.slice (Rep.pair (Rep.pair Rep.bool (Rep.slice (Rep.int .u32))) (Rep.slice (Rep.int .u32)))) a0 a6 au av aa.2.2.2.2 ∧ Box 28 1 a0 a6 ay #[(.string aa.1), (.slice ak aa.2.1.length al), (.slice ag aa.2.2.1.length am), (.slice aq aa.2.2.2.1.length ar), (.slice au aa.2.2.2.2.length av)] ∧ f 17 = (.int .i64 (aj : Int)) ∧ f 15 = (.slice a1 ac.length cap1) ∧ f 16 = (.int .i64 (ac.length : Int)) ∧ f 2 = (.pointer (some ⟨ay, 0, none⟩)) ∧ f 1000000 = (enc [])) ac.length ⟨bb, 0, ac, rfl, rfl, hm, hst, h1, an, ah, ao, ap, ai, rfl, rfl, rfl, rfl, rfl⟩ ?_
 clear hm; intro n f a6 hI
 obtain ⟨a0, aj, bc, hn, hl, hm, hst, h1, an, ah, ao, ap, ai, hs17, hs15, hs16, hs2, hs1000000⟩ := hI
 subst hn
 refine .lD 17 hs17 <| .lD 15 hs15 <| .lD 16 hs16 <| .lD 2 hs2 <| .lD 1000000 hs1000000 ?_
 clear hs17 hs15 hs16 hs2 hs1000000
 cases bc with
 | nil =>
  have hk : ¬ ((aj : Int) < (ac.length : Int)) := by have := List.drop_eq_nil_iff.1 hl; omega
  have hkb := decide_eq_false hk
  rw [m_data_wrong_L1.eq_1] at hm
  refine wS <| wR <| lV (.bool (decide ((aj : Int) < (ac.length : Int)))) (r_lss (aj : Int) (ac.length : Int) rfl rfl) <| lN <| wS ?_
  refine wcondF (congrArg Value.bool hkb) ?_
  refine wexit (inB_hit ?_)
  refine wS <| wR <| lA (.int .i64 0) <| lN ?_
  refine wret ?_
  cases hm
  exact ⟨rfl, rfl, hst.below⟩
 | cons ad be =>
  obtain ⟨hat, hl2_L1, hlt_L1⟩ := drop_get hl
  have hk : (aj : Int) < (ac.length : Int) := by omega
  have hkb := decide_eq_true hk
  rw [m_data_wrong_L1.eq_2] at hm
  refine wS <| wR <| lV (.bool (decide ((aj : Int) < (ac.length : Int)))) (r_lss (aj : Int) (ac.length : Int) rfl rfl) <| lN <| wS ?_
  refine wcondT (congrArg Value.bool hkb) ?_
  refine wK <| wS <| wB <| wS <| wR ?_
  refine lV (sptr a1 (Int.toNat (aj : Int) * 1)) (r_idx Tryz.underlying34 Tryz.sizeOf33 rfl rfl (at?_some hat).1 (at?_some hat).2.1 (h1.addr hat)) ?_
  obtain ⟨_, bl, bm⟩ := h1.atN hat
  obtain ⟨⟨a2, a7, rfl, a3⟩, _⟩ := bl
  refine lV (.slice a2 ad.length a7) (r_ld Tryz.isAgg33 rfl bm.one) <| lA (.slice a2 ad.length a7) <| lN <| wS <| wS <| wR <| lM (.slice a2 ad.length a7) <| lV (.int .i64 (ad.length : Int)) (r_len Tryz.underlying33 rfl) <| lV (.pointer ((some (⟨ay, 0, none⟩ : Addr)).map (·.add 1))) (rF (sz := 1) (off := 1) Tryz.underlying28 rfl Tryz.sizeOf23 (by decide) rfl rfl ⟨_, _, rfl⟩) <| lV (.slice ak aa.2.1.length al) (r_ld Tryz.isAgg23 rfl ((ai.atN).nth (q := 1) (v := (.slice ak aa.2.1.length al)) rfl)) <| lV (.int .i64 (aa.2.1.length : Int)) (r_len Tryz.underlying23 rfl) <| lV (.bool (!decide ((ad.length : Int) = (aa.2.1.length : Int)))) (r_neq (ad.length : Int) (aa.2.1.length : Int) rfl rfl) <| lN ?_
  refine wcond (!decide ((ad.length : Int) = (aa.2.1.length : Int))) rfl (fun hb => ?_) (fun hb => ?_)
  ·rw [if_pos hb] at hm
   clear hb
   cases hm
  rw [if_neg (by rw [hb]; decide)] at hm
  clear hb
  refine wK <| wS <| wR <| lM (.slice a2 ad.length a7) <| lV (.int .i64 (ad.length : Int)) (r_len Tryz.underlying33 rfl) <| lM (.int .i64 0) <| lN <| wB ?_
  refine wloop (fun n f a4 => ∃ (aw : Col) (af : Nat) (bd : List Int), n = bd.length ∧ ad.drop af = bd ∧ m_data_wrong_L2 aa (m_data_wrong_L1 aa be) bd af = some r ∧ St w0 (col0 col) aw a4 ∧ Sl (Rep.slice (Rep.int .i64)) aw a4 a1 cap1 ac ∧ Sl Rep.str aw a4 ak al aa.2.1 ∧ Sl (Rep.slice Rep.str) aw a4 ag am aa.2.2.1 ∧ Sl (Rep.slice (Rep.int .i64)) aw a4 aq ar aa.2.2.2.1 ∧ Sl (Rep.slice (Rep.pair (Rep.pair Rep.bool (Rep.slice (Rep.int .u32))) (Rep.slice (Rep.int .u32)))) aw a4 au av aa.2.2.2.2 ∧ Box 28 1 aw a4 ay #[(.string aa.1), (.slice ak aa.2.1.length al), (.slice ag aa.2.2.1.length am), (.slice aq aa.2.2.2.1.length ar), (.slice au aa.2.2.2.2.length av)] ∧ Sl (Rep.int .i64) aw a4 a2 a7 ad ∧ f 29 = (.int .i64 (af : Int)) ∧ f 15 = (.slice a1 ac.length cap1) ∧ f 16 = (.int .i64 (ac.length : Int)) ∧ f 17 = (.int .i64 (aj : Int)) ∧ f 2 = (.pointer (some ⟨ay, 0, none⟩)) ∧ f 27 = (.slice a2 ad.length a7) ∧ f 28 = (.int .i64 (ad.length : Int)) ∧ f 1000000 = (enc [])) ad.length ⟨a0, 0, ad, rfl, rfl, hm, hst, h1, an, ah, ao, ap, ai, a3, rfl, rfl, rfl, rfl, rfl, rfl, rfl, rfl⟩ ?_
  clear hm; intro n f a4 hI
  obtain ⟨aw, af, bd, hn, hl, hm, hst, h1, an, ah, ao, ap, ai, a3, hs29, hs15, hs16, hs17, hs2, hs27, hs28, hs1000000⟩ := hI
  subst hn
  refine .lD 29 hs29 <| .lD 15 hs15 <| .lD 16 hs16 <| .lD 17 hs17 <| .lD 2 hs2 <| .lD 27 hs27 <| .lD 28 hs28 <| .lD 1000000 hs1000000 ?_
  clear hs29 hs15 hs16 hs17 hs2 hs27 hs28 hs1000000
  cases bd with
  | nil =>
   have hk : ¬ ((af : Int) < (ad.length : Int)) := by have := List.drop_eq_nil_iff.1 hl; omega
   have hkb := decide_eq_false hk
   rw [m_data_wrong_L2.eq_1] at hm
   refine wS <| wR <| lV (.bool (decide ((af : Int) < (ad.length : Int)))) (r_lss (af : Int) (ad.length : Int) rfl rfl) <| lN <| wS ?_
   refine wcondF (congrArg Value.bool hkb) ?_
   refine wexit (inB_hit ?_)
   refine wR <| lV (.int .i64 (IntKind.i64.wrap ((aj : Int) + 1))) (r_add (aj : Int) 1 rfl rfl) <| lM (.int .i64 (IntKind.i64.wrap ((aj : Int) + 1))) <| lN ?_
   exact ⟨be.length, by simp, ⟨aw, (aj + 1), be, rfl, hl2_L1, hm, hst, h1, an, ah, ao, ap, ai, (congrArg (Value.int .i64) (wrap_succ (Nat.lt_of_lt_of_le hlt_L1 h1.1.1))), rfl, rfl, rfl, rfl⟩⟩
  | cons ab bh =>
   obtain ⟨hat, hl2_L2, hlt_L2⟩ := drop_get hl
   have hk : (af : Int) < (ad.length : Int) := by omega
   have hkb := decide_eq_true hk
   rw [m_data_wrong_L2.eq_2] at hm
   refine wS <| wR <| lV (.bool (decide ((af : Int) < (ad.length : Int)))) (r_lss (af : Int) (ad.length : Int) rfl rfl) <| lN <| wS ?_
   refine wcondT (congrArg Value.bool hkb) ?_
   refine wK <| wS <| wB <| wS <| wR <| lM (.int .i64 (af : Int)) ?_
   refine lV (sptr a2 (Int.toNat (af : Int) * 1)) (r_idx Tryz.underlying33 Tryz.sizeOf3 rfl rfl (at?_some hat).1 (at?_some hat).2.1 (a3.addr hat)) ?_
   refine lV (.int .i64 ab) (r_ld Tryz.isAgg3 rfl (a3.atInt hat)) <| lA (.int .i64 (af : Int)) <| lA (.int .i64 ab) <| lN <| wS ?_
   refine Wp.cut (fun f a5 => ∃ (ax : Col) (bf : Bool), m_data_wrong_J1 af (m_data_wrong_L2 aa (m_data_wrong_L1 aa be) bh) bf = some r ∧ St w0 (col0 col) ax a5 ∧ Sl (Rep.slice (Rep.int .i64)) ax a5 a1 cap1 ac ∧ Sl Rep.str ax a5 ak al aa.2.1 ∧ Sl (Rep.slice Rep.str) ax a5 ag am aa.2.2.1 ∧ Sl (Rep.slice (Rep.int .i64)) ax a5 aq ar aa.2.2.2.1 ∧ Sl (Rep.slice (Rep.pair (Rep.pair Rep.bool (Rep.slice (Rep.int .u32))) (Rep.slice (Rep.int .u32)))) ax a5 au av aa.2.2.2.2 ∧ Box 28 1 ax a5 ay #[(.string aa.1), (.slice ak aa.2.1.length al), (.slice ag aa.2.2.1.length am), (.slice aq aa.2.2.2.1.length ar), (.slice au aa.2.2.2.2.length av)] ∧ Sl (Rep.int .i64) ax a5 a2 a7 ad ∧ f 15 = (.slice a1 ac.length cap1) ∧ f 16 = (.int .i64 (ac.length : Int)) ∧ f 17 = (.int .i64 (aj : Int)) ∧ f 2 = (.pointer (some ⟨ay, 0, none⟩)) ∧ f 27 = (.slice a2 ad.length a7) ∧ f 28 = (.int .i64 (ad.length : Int)) ∧ f 29 = (.int .i64 (af : Int)) ∧ f 45 = (.bool bf) ∧ f 1000000 = (enc [])) ?_ ?_
   ·intro f a5 hJ
    obtain ⟨ax, bf, hm, hst, h1, an, ah, ao, ap, ai, a3, hs15, hs16, hs17, hs2, hs27, hs28, hs29, hs45, hs1000000⟩ := hJ
    rw [m_data_wrong_J1.eq_1] at hm
    refine .lD 15 hs15 <| .lD 16 hs16 <| .lD 17 hs17 <| .lD 2 hs2 <| .lD 27 hs27 <| .lD 28 hs28 <| .lD 29 hs29 <| .lD 45 hs45 <| .lD 1000000 hs1000000 ?_
    clear hs15 hs16 hs17 hs2 hs27 hs28 hs29 hs45 hs1000000
    refine wcond (bf) rfl (fun hb => ?_) (fun hb => ?_)
    ·rw [if_pos hb] at hm
     clear hb
     cases hm
    rw [if_neg (by rw [hb]; decide)] at hm
    clear hb
    refine wK <| wR <| lV (.int .i64 (IntKind.i64.wrap ((af : Int) + 1))) (r_add (af : Int) 1 rfl rfl) <| lM (.int .i64 (IntKind.i64.wrap ((af : Int) + 1))) <| lN ?_
    exact ⟨bh.length, by simp, ⟨ax, (af + 1), bh, rfl, hl2_L2, hm, hst, h1, an, ah, ao, ap, ai, a3, (congrArg (Value.int .i64) (wrap_succ (Nat.lt_of_lt_of_le hlt_L2 a3.1.1))), rfl, rfl, rfl, rfl, rfl, rfl, rfl⟩⟩
   refine wR <| lM (.int .i64 ab) <| lV (.bool (decide (ab < (-1)))) (r_lss ab (-1) rfl rfl) <| lM (.bool (decide (ab < (-1)))) ?_
   by_cases ae : (decide (ab < (-1))) = true
   ·rw [if_pos ae] at hm
    refine lp (b := decide (ab < (-1))) 36 rfl rfl rfl rfl (by rw [ae]; rfl) ?_
    refine lp (b := decide (ab < (-1))) 36 rfl rfl rfl rfl (by rw [ae]; rfl) ?_
    refine lp (b := decide (ab < (-1))) 36 rfl rfl rfl rfl (by rw [ae]; rfl) ?_
    refine lp (b := decide (ab < (-1))) 36 rfl rfl rfl rfl (by rw [ae]; rfl) ?_
    refine lp (b := decide (ab < (-1))) 36 rfl rfl rfl rfl (by rw [ae]; rfl) ?_
    refine lp (b := decide (ab < (-1))) 36 rfl rfl rfl rfl (by rw [ae]; rfl) ?_
    refine lp (b := decide (ab < (-1))) 36 rfl rfl rfl rfl (by rw [ae]; rfl) ?_
    refine lp (b := decide (ab < (-1))) 36 rfl rfl rfl rfl (by rw [ae]; rfl) ?_
    refine lV (.bool true) (r_pickT (congrArg Value.bool ae) rfl) <| lN ?_
    exact ⟨aw, true, hm, hst, h1, an, ah, ao, ap, ai, a3, rfl, rfl, rfl, rfl, rfl, rfl, rfl, rfl, rfl⟩
   rw [if_neg ae] at hm
   replace ae := Bool.eq_false_iff.2 ae
   refine lg (b := decide (ab < (-1))) 36 rfl rfl rfl (by rw [ae]; rfl) ?_
   refine lM (.int .i64 ab) ?_
   refine lg (b := decide (ab < (-1))) 36 rfl rfl rfl (by rw [ae]; rfl) ?_
   refine lV (.pointer ((some (⟨ay, 0, none⟩ : Addr)).map (·.add 2))) (rF (sz := 1) (off := 2) Tryz.underlying28 rfl Tryz.sizeOf24 (by decide) rfl rfl ⟨_, _, rfl⟩) ?_
   refine lg (b := decide (ab < (-1))) 36 rfl rfl rfl (by rw [ae]; rfl) ?_
   refine lV (.slice ag aa.2.2.1.length am) (r_ld Tryz.isAgg24 rfl ((ai.atN).nth (q := 2) (v := (.slice ag aa.2.2.1.length am)) rfl)) ?_
   refine lg (b := decide (ab < (-1))) 36 rfl rfl rfl (by rw [ae]; rfl) ?_
   refine lM (.int .i64 (af : Int)) ?_
   refine lg (b := decide (ab < (-1))) 36 rfl rfl rfl (by rw [ae]; rfl) ?_
   obtain ⟨ba, bg, hm⟩ := bS hm
   refine lV (sptr ag (Int.toNat (af : Int) * 1)) (r_idx Tryz.underlying24 Tryz.sizeOf23 rfl rfl (at?_some bg).1 (at?_some bg).2.1 (ah.addr bg)) ?_
   refine lg (b := decide (ab < (-1))) 36 rfl rfl rfl (by rw [ae]; rfl) ?_
   obtain ⟨_, bn, bo⟩ := ah.atN bg
   obtain ⟨⟨bp, bq, rfl, br⟩, _⟩ := bn
   refine lV (.slice bp ba.length bq) (r_ld Tryz.isAgg23 rfl bo.one) ?_
   refine lg (b := decide (ab < (-1))) 36 rfl rfl rfl (by rw [ae]; rfl) ?_
   refine lV (.int .i64 (ba.length : Int)) (r_len Tryz.underlying23 rfl) ?_
   refine lg (b := decide (ab < (-1))) 36 rfl rfl rfl (by rw [ae]; rfl) ?_
   refine lV (.bool (decide ((ba.length : Int) ≤ ab))) (r_geq ab (ba.length : Int) rfl rfl) <| lV (.bool (decide ((ba.length : Int) ≤ ab))) (r_pickF (congrArg Value.bool ae) rfl) <| lN ?_
   exact ⟨aw, (decide ((ba.length : Int) ≤ ab)), hm, hst, h1, an, ah, ao, ap, ai, a3, rfl, rfl, rfl, rfl, rfl, rfl, rfl, rfl, rfl⟩
theorem el3_26 : ElemOk Tryz.prog 3 1 8 := ⟨Tryz.t3, _, rfl, rfl, rfl, rfl, rfl⟩
def m_data_Count_L2 (ac : (ByteArray × (List ByteArray) × (List (List ByteArray)) × (List (List Int)) × (List (List ((Bool × (List Int)) × (List Int)))))) (ab : List Int) (kk_L1 : ((List Int) → Option ((List Int) × Int))) (ad : (List Int)) : List Int → Int → Option ((List Int) × Int)
  | [], aa => (at? ab aa).bind fun ag => (some (ab.set (Int.toNat aa) (IntKind.i64.wrap (ag + 1)))).bind fun ah => kk_L1 ah
  | ae :: ai, aa => (at? ad ae).bind fun af => if (decide (af < 0)) = true then none else ((at? ac.2.2.1 ae).bind fun aj => (m_data_Count_L2 ac ab kk_L1 ad ai) (IntKind.i64.wrap ((IntKind.i64.wrap (aa * (aj.length : Int))) + af)))
termination_by structural x => x
def m_data_Count_L1 (ab : (ByteArray × (List ByteArray) × (List (List ByteArray)) × (List (List Int)) × (List (List ((Bool × (List Int)) × (List Int)))))) (aa : Int) : List (List Int) → (List Int) → Option ((List Int) × Int)
  | [], ac => some (ac, 0)
  | ae :: af, ac => (at? ab.2.2.2.1 aa).bind fun ag => (m_slices_Clone_int_int ag).bind fun ad => chk ((ad.length + [aa].length) * 8 ≤ 140737488355328 ∧ ad.length + [aa].length ≤ maxLen) (m_data_Count_L2 ab ac (m_data_Count_L1 ab aa af) ae (ad ++ [aa]) 0)
termination_by structural x => x
def m_data_Count_J1 (ab : (ByteArray × (List ByteArray) × (List (List ByteArray)) × (List (List Int)) × (List (List ((Bool × (List Int)) × (List Int)))))) (ad : (List (List Int))) (ac : Int) (ae : Bool) : Option ((List Int) × Int) :=
  if ae = true then none else ((at? ab.2.2.2.2 ac).bind fun aa => chk (aa.length * 8 ≤ 281474976710656 ∧ aa.length ≤ maxLen) (m_data_Count_L1 ab ac ad (List.replicate aa.length (0 : Int))))
def m_data_Count (N : Nat) (aa : (ByteArray × (List ByteArray) × (List (List ByteArray)) × (List (List Int)) × (List (List ((Bool × (List Int)) × (List Int)))))) (ac : (List (List Int))) (ab : Int) : Option ((List Int) × Int) :=
  (m_data_wrong N (aa.1, aa.2.1, aa.2.2.1, aa.2.2.2.1, aa.2.2.2.2) ac).bind fun ad => if (!decide (ad = 0)) = true then none else (if (decide (ab < 0)) = true then (m_data_Count_J1 aa ac ab true) else (m_data_Count_J1 aa ac ab (decide ((aa.2.1.length : Int) ≤ ab))))
theorem c_data_Count (N : Nat) (c1 : Nat) (col : Col) (w0 : World) (an : Option Addr) (ao : Nat) (aj : Option Addr) (ap : Nat) (ak : Option Addr) (aq : Nat) (al : Option Addr) (ar : Nat) (aa : (ByteArray × (List ByteArray) × (List (List ByteArray)) × (List (List Int)) × (List (List ((Bool × (List Int)) × (List Int)))))) (a1 : Option Addr) (cap1 : Nat) (ac : (List (List Int))) (ab : Int) (ah : Sl Rep.str col w0 an ao aa.2.1) (ae : Sl (Rep.slice Rep.str) col w0 aj ap aa.2.2.1) (af : Sl (Rep.slice (Rep.int .i64)) col w0 ak aq aa.2.2.2.1) (ag : Sl (Rep.slice (Rep.pair (Rep.pair Rep.bool (Rep.slice (Rep.int .u32))) (Rep.slice (Rep.int .u32)))) col w0 al ar aa.2.2.2.2) (h1 : Sl (Rep.slice (Rep.int .i64)) col w0 a1 cap1 ac) (r : ((List Int) × Int)) (hm : m_data_Count N aa ac ab = some r) :
    Calls Tryz.prog 26 #[(.agg #[(.string aa.1), (.slice an aa.2.1.length ao), (.slice aj aa.2.2.1.length ap), (.slice ak aa.2.2.2.1.length aq), (.slice al aa.2.2.2.2.length ar)]), (.slice a1 ac.length cap1), (.int .i64 ab)] w0 (fun e w' => ∃ (col' : Col) (ra1 : Option Addr) (rc2 : Nat), e = .returned (.tuple #[(.slice ra1 r.1.length rc2), (.int .i64 r.2)]) ∧ Grow col w0 col' w' ∧ Own (Rep.int .i64) 3 c1 col' w' ra1 rc2 r.1) := by
 refine calls_of2 6 7 (m := 84) (args := [(.agg #[(.string aa.1), (.slice an aa.2.1.length ao), (.slice aj aa.2.2.1.length ap), (.slice ak aa.2.2.2.1.length aq), (.slice al aa.2.2.2.2.length ar)]), (.slice a1 ac.length cap1), (.int .i64 ab)]) Tryz.func26 rfl rfl rfl rfl rfl ?_
 rw [m_data_Count.eq_1] at hm
 have hst := St.start col w0
 refine wS <| wR ?_
 refine l_box (col := (col0 col)) (v := (.agg #[(.string aa.1), (.slice an aa.2.1.length ao), (.slice aj aa.2.2.1.length ap), (.slice ak aa.2.2.2.1.length aq), (.slice al aa.2.2.2.2.length ar)])) 1 rfl rfl ?_
 intro a4 b6 bq br ad
 replace ad : Box 28 1 bq b6 a4 #[(.string aa.1), (.slice an aa.2.1.length ao), (.slice aj aa.2.2.1.length ap), (.slice ak aa.2.2.2.1.length aq), (.slice al aa.2.2.2.2.length ar)] := ad
 refine lA (.slice none (([] : List Int).length) 0) <| lA (.int .i64 0) <| lN ?_
 refine wscope ?_
 refine wS <| wS <| wR <| lV (.agg #[(.string aa.1), (.slice an aa.2.1.length ao), (.slice aj aa.2.2.1.length ap), (.slice ak aa.2.2.2.1.length aq), (.slice al aa.2.2.2.2.length ar)]) (r_ldN Tryz.isAgg28 Tryz.sizeOf28 rfl rfl ad.atN) <| lM (.slice a1 ac.length cap1) ?_
 obtain ⟨bs, cg, hm⟩ := bS hm
 replace ah := (ah.keep (Stay.start col w0)).gr br
 replace ae := (ae.keep (Stay.start col w0)).gr br
 replace af := (af.keep (Stay.start col w0)).gr br
 replace ag := (ag.keep (Stay.start col w0)).gr br
 replace h1 := (h1.keep (Stay.start col w0)).gr br
 refine lc rfl rfl (r_call2 Tryz.call79 rfl rfl) (c_data_wrong N bq _ an ao aj ap ak aq al ar (aa.1, aa.2.1, aa.2.2.1, aa.2.2.2.1, aa.2.2.2.2) a1 cap1 ac ah ae af ag h1 bs cg) ?_
 rintro _ ch ⟨rfl, a8⟩
 refine ⟨_, rfl, ?_⟩
 replace a8 : Grow bq b6 bq ch := .of_below a8
 refine lA (.int .i64 bs) <| lN <| wS <| wR <| lM (.int .i64 bs) <| lV (.bool (!decide (bs = 0))) (r_neq bs 0 rfl rfl) <| lN ?_
 replace hst := (hst.grow br).grow a8
 replace h1 := h1.gr a8
 replace ah := ah.gr a8
 replace ae := ae.gr a8
 replace af := af.gr a8
 replace ag := ag.gr a8
 replace ad := ad.gr a8
 refine wcond (!decide (bs = 0)) rfl (fun hb => ?_) (fun hb => ?_)
 ·rw [if_pos hb] at hm
  clear hb
  cases hm
 rw [if_neg (by rw [hb]; decide)] at hm
 clear hb
 refine wK <| wS <| wS ?_
 refine Wp.cut (fun f a9 => ∃ (ba : Col) (bw : Bool), m_data_Count_J1 aa ac ab bw = some r ∧ St w0 (col0 col) ba a9 ∧ Sl (Rep.slice (Rep.int .i64)) ba a9 a1 cap1 ac ∧ Sl Rep.str ba a9 an ao aa.2.1 ∧ Sl (Rep.slice Rep.str) ba a9 aj ap aa.2.2.1 ∧ Sl (Rep.slice (Rep.int .i64)) ba a9 ak aq aa.2.2.2.1 ∧ Sl (Rep.slice (Rep.pair (Rep.pair Rep.bool (Rep.slice (Rep.int .u32))) (Rep.slice (Rep.int .u32)))) ba a9 al ar aa.2.2.2.2 ∧ Box 28 1 ba a9 a4 #[(.string aa.1), (.slice an aa.2.1.length ao), (.slice aj aa.2.2.1.length ap), (.slice ak aa.2.2.2.1.length aq), (.slice al aa.2.2.2.2.length ar)] ∧ f 1 = (.slice a1 ac.length cap1) ∧ f 2 = (.int .i64 ab) ∧ f 29 = (.bool bw) ∧ f 3 = (.pointer (some ⟨a4, 0, none⟩)) ∧ f 1000000 = (enc [])) ?_ ?_
 ·intro f a9 hJ
  obtain ⟨ba, bw, hm, hst, h1, ah, ae, af, ag, ad, hs1, hs2, hs29, hs3, hs1000000⟩ := hJ
  rw [m_data_Count_J1.eq_1] at hm
  refine .lD 1 hs1 <| .lD 2 hs2 <| .lD 29 hs29 <| .lD 3 hs3 <| .lD 1000000 hs1000000 ?_
  clear hs1 hs2 hs29 hs3 hs1000000
  refine wcond (bw) rfl (fun hb => ?_) (fun hb => ?_)
  ·rw [if_pos hb] at hm
   clear hb
   cases hm
  rw [if_neg (by rw [hb]; decide)] at hm
  clear hb
  refine wK <| wS <| wR <| lV (.pointer ((some (⟨a4, 0, none⟩ : Addr)).map (·.add 4))) (rF (sz := 1) (off := 4) Tryz.underlying28 rfl Tryz.sizeOf26 (by decide) rfl rfl ⟨_, _, rfl⟩) <| lV (.slice al aa.2.2.2.2.length ar) (r_ld Tryz.isAgg26 rfl ((ad.atN).nth (q := 4) (v := (.slice al aa.2.2.2.2.length ar)) rfl)) <| lM (.int .i64 ab) ?_
  obtain ⟨bl, bx, hm⟩ := bS hm
  refine lV (sptr al (Int.toNat ab * 1)) (r_idx Tryz.underlying26 Tryz.sizeOf51 rfl rfl (at?_some bx).1 (at?_some bx).2.1 (ag.addr bx)) ?_
  obtain ⟨_, ci, cj⟩ := ag.atN bx
  obtain ⟨⟨ck, cl, rfl, c8⟩, _⟩ := ci
  refine lV (.slice ck bl.length cl) (r_ld Tryz.isAgg51 rfl cj.one) <| lV (.int .i64 (bl.length : Int)) (r_len Tryz.underlying51 rfl) ?_
  obtain ⟨b7, hm⟩ := cS hm
  refine l_make (col := ba) (w := a9) (r := (Rep.int .i64)) (n := bl.length) (x0 := 0) 2 rfl Tryz.underlying33 Tryz.t3 rfl rfl rfl rfl rfl rfl rfl b7.1 b7.2 (rd_int .i64 0) ?_
  intro b8 c9 cm bm cn
  refine lA (.slice b8 ((List.replicate bl.length (0 : Int)).length) bl.length) <| lN <| wS ?_
  refine wlabel ?_
  refine wS <| wS <| wR <| lM (.slice a1 ac.length cap1) <| lV (.int .i64 (ac.length : Int)) (r_len Tryz.underlying34 rfl) <| lM (.int .i64 0) <| lN <| wB ?_
  replace h1 := h1.gr bm
  replace ah := ah.gr bm
  replace ae := ae.gr bm
  replace af := af.gr bm
  replace ag := ag.gr bm
  replace ad := ad.gr bm
  replace hst := hst.grow bm
  refine wloop (fun n f bb => ∃ (a5 : Col) (au : Nat) (aw : Option Addr) (a0 : Nat) (a2 : List Int) (bu : List (List Int)), n = bu.length ∧ ac.drop au = bu ∧ m_data_Count_L1 aa ab bu a2 = some r ∧ St w0 (col0 col) a5 bb ∧ Sl Rep.str a5 bb an ao aa.2.1 ∧ Sl (Rep.slice Rep.str) a5 bb aj ap aa.2.2.1 ∧ Sl (Rep.slice (Rep.int .i64)) a5 bb ak aq aa.2.2.2.1 ∧ Sl (Rep.slice (Rep.pair (Rep.pair Rep.bool (Rep.slice (Rep.int .u32))) (Rep.slice (Rep.int .u32)))) a5 bb al ar aa.2.2.2.2 ∧ Box 28 1 a5 bb a4 #[(.string aa.1), (.slice an aa.2.1.length ao), (.slice aj aa.2.2.1.length ap), (.slice ak aa.2.2.2.1.length aq), (.slice al aa.2.2.2.2.length ar)] ∧ Sl (Rep.slice (Rep.int .i64)) a5 bb a1 cap1 ac ∧ Own (Rep.int .i64) 3 2 a5 bb aw a0 a2 ∧ f 39 = (.int .i64 (au : Int)) ∧ f 2 = (.int .i64 ab) ∧ f 3 = (.pointer (some ⟨a4, 0, none⟩)) ∧ f 37 = (.slice a1 ac.length cap1) ∧ f 38 = (.int .i64 (ac.length : Int)) ∧ f 9 = (.slice aw a2.length a0) ∧ f 1000000 = (enc [])) ac.length ⟨cm, 0, b8, bl.length, (List.replicate bl.length (0 : Int)), ac, rfl, rfl, hm, hst, ah, ae, af, ag, ad, h1, cn, rfl, rfl, rfl, rfl, rfl, rfl, rfl⟩ ?_
  clear hm; intro n f bb hI
  obtain ⟨a5, au, aw, a0, a2, bu, hn, hl, hm, hst, ah, ae, af, ag, ad, h1, az, hs39, hs2, hs3, hs37, hs38, hs9, hs1000000⟩ := hI
  subst hn
  refine .lD 39 hs39 <| .lD 2 hs2 <| .lD 3 hs3 <| .lD 37 hs37 <| .lD 38 hs38 <| .lD 9 hs9 <| .lD 1000000 hs1000000 ?_
  clear hs39 hs2 hs3 hs37 hs38 hs9 hs1000000
  cases bu with
  | nil =>
   have hk : ¬ ((au : Int) < (ac.length : Int)) := by have := List.drop_eq_nil_iff.1 hl; omega
   have hkb := decide_eq_false hk
   rw [m_data_Count_L1.eq_1] at hm
   refine wS <| wR <| lV (.bool (decide ((au : Int) < (ac.length : Int)))) (r_lss (au : Int) (ac.length : Int) rfl rfl) <| lN <| wS ?_
   refine wcondF (congrArg Value.bool hkb) ?_
   refine wexit (inB_hit ?_)
   refine wS <| wR <| lM (.slice aw a2.length a0) <| lA (.slice aw a2.length a0) <| lA (.int .i64 0) <| lN ?_
   refine wret ?_
   cases hm
   exact ⟨rfl, colF w0.heap.size col a5 (fun n => bif Nat.beq n 2 then c1 else 0), aw, a0, rfl, hst.fin (fun n => bif Nat.beq n 2 then c1 else 0), hst.finOwn (g := (fun n => bif Nat.beq n 2 then c1 else 0)) rfl az (by decide) (by decide) rfl⟩
  | cons bn b4 =>
   obtain ⟨hat, hl2_L1, hlt_L1⟩ := drop_get hl
   have hk : (au : Int) < (ac.length : Int) := by omega
   have hkb := decide_eq_true hk
   rw [m_data_Count_L1.eq_2] at hm
   refine wS <| wR <| lV (.bool (decide ((au : Int) < (ac.length : Int)))) (r_lss (au : Int) (ac.length : Int) rfl rfl) <| lN <| wS ?_
   refine wcondT (congrArg Value.bool hkb) ?_
   refine wK <| wS <| wB <| wS <| wR ?_
   refine lV (sptr a1 (Int.toNat (au : Int) * 1)) (r_idx Tryz.underlying34 Tryz.sizeOf33 rfl rfl (at?_some hat).1 (at?_some hat).2.1 (h1.addr hat)) ?_
   obtain ⟨_, co, cp⟩ := h1.atN hat
   obtain ⟨⟨bf, bt, rfl, a6⟩, _⟩ := co
   refine lV (.slice bf bn.length bt) (r_ld Tryz.isAgg33 rfl cp.one) <| lA (.slice bf bn.length bt) <| lN <| wS <| wR <| lA (.int .i64 0) <| lN <| wS <| wS <| wR <| lV (.pointer ((some (⟨a4, 0, none⟩ : Addr)).map (·.add 3))) (rF (sz := 1) (off := 3) Tryz.underlying28 rfl Tryz.sizeOf25 (by decide) rfl rfl ⟨_, _, rfl⟩) <| lV (.slice ak aa.2.2.2.1.length aq) (r_ld Tryz.isAgg25 rfl ((ad.atN).nth (q := 3) (v := (.slice ak aa.2.2.2.1.length aq)) rfl)) <| lM (.int .i64 ab) ?_
   obtain ⟨b9, bz, hm⟩ := bS hm
   refine lV (sptr ak (Int.toNat ab * 1)) (r_idx Tryz.underlying25 Tryz.sizeOf33 rfl rfl (at?_some bz).1 (at?_some bz).2.1 (af.addr bz)) ?_
   obtain ⟨_, cq, cr⟩ := af.atN bz
   obtain ⟨⟨ca, cb, rfl, ct⟩, _⟩ := cq
   refine lV (.slice ca b9.length cb) (r_ld Tryz.isAgg33 rfl cr.one) ?_
   obtain ⟨av, cu, hm⟩ := bS hm
   refine lc rfl rfl (r_call1 Tryz.call78 rfl) (c_slices_Clone_int_int 3 a5 _ ca cb b9 ct av cu) ?_
   rintro _ da ⟨cv, db, dc, rfl, bc, b0⟩
   refine ⟨_, rfl, ?_⟩
   refine lM (.int .i64 ab) ?_
   refine l_lit (col := cv) (r := (Rep.int .i64)) (xs := [ab]) [(.int .i64 ab)] 4 rfl Tryz.underlying33 el3_26 rfl rfl rfl rfl rfl rfl (by intro v hv; simp only [List.mem_cons, List.not_mem_nil, or_false] at hv; subst hv; rfl) (RowsH.ofF (Rows.consF (r := (Rep.int .i64)) (x := ab) (cs := [(.int .i64 ab)]) (rd_int .i64 ab) Rows.nil0)) ?_
   intro dd cw cx a7 cy
   obtain ⟨cc, hm⟩ := cS hm
   replace b0 := b0.gr a7
   refine l_appendM (col := cx) (w := cw) (r := (Rep.int .i64)) (c := 3) (c2 := 3) (xs := av) (ys := [ab]) b0 (cy.srcN (NB.int (k := .i64))) rfl Tryz.underlying33 el3_26 rfl rfl rfl cc.1 cc.2 (by decide) ?_
   intro b5 cd de cz bd bg
   clear b0
   refine lV (.int .i64 ((av ++ [ab]).length : Int)) (r_len Tryz.underlying33 rfl) <| lM (.int .i64 0) <| lN <| wB ?_
   replace ah := ((ah.gr bc).gr a7).kpp bd
   replace ae := ((ae.gr bc).gr a7).kpp bd
   replace af := ((af.gr bc).gr a7).kpp bd
   replace ag := ((ag.gr bc).gr a7).kpp bd
   replace h1 := ((h1.gr bc).gr a7).kpp bd
   replace az := ((az.gr bc).gr a7).kpp bd
   replace a6 := ((a6.gr bc).gr a7).kpp bd
   replace ad := ((ad.gr bc).gr a7).kpp bd
   replace hst := ((hst.grow bc).grow a7).kpp bd
   refine wloop (fun n f a3 => ∃ (ai : Col) (ax : Int) (ay : Nat) (bv : List Int), n = bv.length ∧ (av ++ [ab]).drop ay = bv ∧ m_data_Count_L2 aa a2 (m_data_Count_L1 aa ab b4) bn bv ax = some r ∧ St w0 (col0 col) ai a3 ∧ Sl (Rep.int .i64) ai a3 bf bt bn ∧ Sl Rep.str ai a3 an ao aa.2.1 ∧ Sl (Rep.slice Rep.str) ai a3 aj ap aa.2.2.1 ∧ Sl (Rep.slice (Rep.int .i64)) ai a3 ak aq aa.2.2.2.1 ∧ Sl (Rep.slice (Rep.pair (Rep.pair Rep.bool (Rep.slice (Rep.int .u32))) (Rep.slice (Rep.int .u32)))) ai a3 al ar aa.2.2.2.2 ∧ Box 28 1 ai a3 a4 #[(.string aa.1), (.slice an aa.2.1.length ao), (.slice aj aa.2.2.1.length ap), (.slice ak aa.2.2.2.1.length aq), (.slice al aa.2.2.2.2.length ar)] ∧ Sl (Rep.slice (Rep.int .i64)) ai a3 a1 cap1 ac ∧ Own (Rep.int .i64) 3 3 ai a3 b5 cd (av ++ [ab]) ∧ Own (Rep.int .i64) 3 2 ai a3 aw a0 a2 ∧ f 53 = (.int .i64 (ay : Int)) ∧ f 11 = (.slice bf bn.length bt) ∧ f 12 = (.int .i64 ax) ∧ f 2 = (.int .i64 ab) ∧ f 3 = (.pointer (some ⟨a4, 0, none⟩)) ∧ f 37 = (.slice a1 ac.length cap1) ∧ f 38 = (.int .i64 (ac.length : Int)) ∧ f 39 = (.int .i64 (au : Int)) ∧ f 51 = (.slice b5 ((av ++ [ab]).length) cd) ∧ f 52 = (.int .i64 ((av ++ [ab]).length : Int)) ∧ f 9 = (.slice aw a2.length a0) ∧ f 1000000 = (enc [])) (av ++ [ab]).length ⟨cz, 0, 0, (av ++ [ab]), rfl, rfl, hm, hst, a6, ah, ae, af, ag, ad, h1, bg, az, rfl, rfl, rfl, rfl, rfl, rfl, rfl, rfl, rfl, rfl, rfl, rfl⟩ ?_
   clear hm; intro n f a3 hI
   obtain ⟨ai, ax, ay, bv, hn, hl, hm, hst, a6, ah, ae, af, ag, ad, h1, bg, az, hs53, hs11, hs12, hs2, hs3, hs37, hs38, hs39, hs51, hs52, hs9, hs1000000⟩ := hI
   subst hn
   refine .lD 53 hs53 <| .lD 11 hs11 <| .lD 12 hs12 <| .lD 2 hs2 <| .lD 3 hs3 <| .lD 37 hs37 <| .lD 38 hs38 <| .lD 39 hs39 <| .lD 51 hs51 <| .lD 52 hs52 <| .lD 9 hs9 <| .lD 1000000 hs1000000 ?_
   clear hs53 hs11 hs12 hs2 hs3 hs37 hs38 hs39 hs51 hs52 hs9 hs1000000
   cases bv with
   | nil =>
    have hk : ¬ ((ay : Int) < ((av ++ [ab]).length : Int)) := by have := List.drop_eq_nil_iff.1 hl; omega
    have hkb := decide_eq_false hk
    rw [m_data_Count_L2.eq_1] at hm
    refine wS <| wR <| lV (.bool (decide ((ay : Int) < ((av ++ [ab]).length : Int)))) (r_lss (ay : Int) ((av ++ [ab]).length : Int) rfl rfl) <| lN <| wS ?_
    refine wcondF (congrArg Value.bool hkb) ?_
    refine wexit (inB_hit ?_)
    refine wR <| lM (.slice aw a2.length a0) <| lM (.int .i64 ax) ?_
    obtain ⟨bo, bh, hm⟩ := bS hm
    refine lV (sptr aw (Int.toNat ax * 1)) (r_idx Tryz.underlying33 Tryz.sizeOf3 rfl rfl (at?_some bh).1 (at?_some bh).2.1 (az.addr bh)) ?_
    refine lV (.int .i64 bo) (r_ld Tryz.isAgg3 rfl (az.atInt bh)) <| lV (.int .i64 (IntKind.i64.wrap (bo + 1))) (r_add bo 1 rfl rfl) ?_
    refine lV (sptr aw (Int.toNat ax * 1)) (r_idx Tryz.underlying33 Tryz.sizeOf3 rfl rfl (at?_some bh).1 (at?_some bh).2.1 (az.addr bh)) ?_
    obtain ⟨b1, b2, hm⟩ := bS hm
    have b2 : b1 = a2.set (Int.toNat ax) (IntKind.i64.wrap (bo + 1)) := (Option.some.inj b2).symm
    refine l_store (x1 := IntKind.i64.wrap (bo + 1)) (v := (.int .i64 (IntKind.i64.wrap (bo + 1)))) az bh rfl Tryz.sizeOf3 (rd_int .i64 (IntKind.i64.wrap (bo + 1))) rfl rfl (by decide) ?_
    intro df bp c0 ce
    rw [← b2] at ce
    refine .ld (d := 9) (v := (.slice aw b1.length a0)) (congrArg (fun n => Value.slice aw n a0) (show a2.length = b1.length by rw [b2, List.length_set])) ?_
    clear az
    refine lN <| wR <| lV (.int .i64 (IntKind.i64.wrap ((au : Int) + 1))) (r_add (au : Int) 1 rfl rfl) <| lM (.int .i64 (IntKind.i64.wrap ((au : Int) + 1))) <| lN ?_
    replace ah := ah.kp bp
    replace ae := ae.kp bp
    replace af := af.kp bp
    replace ag := ag.kp bp
    replace h1 := h1.kp bp
    replace ad := ad.kp bp
    replace hst := hst.kp bp c0
    exact ⟨b4.length, by simp, ⟨ai, (au + 1), aw, a0, b1, b4, rfl, hl2_L1, hm, hst, ah, ae, af, ag, ad, h1, ce, (congrArg (Value.int .i64) (wrap_succ (Nat.lt_of_lt_of_le hlt_L1 h1.1.1))), rfl, rfl, rfl, rfl, rfl, rfl⟩⟩
   | cons bi cf =>
    obtain ⟨hat, hl2_L2, hlt_L2⟩ := drop_get hl
    have hk : (ay : Int) < ((av ++ [ab]).length : Int) := by omega
    have hkb := decide_eq_true hk
    rw [m_data_Count_L2.eq_2] at hm
    refine wS <| wR <| lV (.bool (decide ((ay : Int) < ((av ++ [ab]).length : Int)))) (r_lss (ay : Int) ((av ++ [ab]).length : Int) rfl rfl) <| lN <| wS ?_
    refine wcondT (congrArg Value.bool hkb) ?_
    refine wK <| wS <| wB <| wS <| wR ?_
    refine lV (sptr b5 (Int.toNat (ay : Int) * 1)) (r_idx Tryz.underlying33 Tryz.sizeOf3 rfl rfl (at?_some hat).1 (at?_some hat).2.1 (bg.addr hat)) ?_
    refine lV (.int .i64 bi) (r_ld Tryz.isAgg3 rfl (bg.atInt hat)) <| lA (.int .i64 bi) <| lN <| wS <| wS <| wR <| lM (.slice bf bn.length bt) <| lM (.int .i64 bi) ?_
    obtain ⟨be, bj, hm⟩ := bS hm
    refine lV (sptr bf (Int.toNat bi * 1)) (r_idx Tryz.underlying33 Tryz.sizeOf3 rfl rfl (at?_some bj).1 (at?_some bj).2.1 (a6.addr bj)) ?_
    refine lV (.int .i64 be) (r_ld Tryz.isAgg3 rfl (a6.atInt bj)) <| lV (.bool (decide (be < 0))) (r_lss be 0 rfl rfl) <| lN ?_
    refine wcond (decide (be < 0)) rfl (fun hb => ?_) (fun hb => ?_)
    ·rw [if_pos hb] at hm
     clear hb
     cases hm
    rw [if_neg (by rw [hb]; decide)] at hm
    clear hb
    refine wK ?_
    refine wquiet (col := ai) (by kernel_rfl) (by kernel_rfl) ?_
    refine qv (v := (.int .i64 ax)) rfl (fun _ hC => r_move rfl) ?_
    refine qv (v := (.pointer ((some (⟨a4, 0, none⟩ : Addr)).map (·.add 2)))) rfl (fun _ hC => rF (sz := 1) (off := 2) Tryz.underlying28 rfl Tryz.sizeOf24 (by decide) rfl rfl ⟨_, _, rfl⟩) ?_
    refine qv (v := (.slice aj aa.2.2.1.length ap)) rfl (fun _ hC => r_ld Tryz.isAgg24 rfl (((ad.atN).nth (q := 2) (v := (.slice aj aa.2.2.1.length ap)) rfl).gr (Grow.of_below (col := ai) hC.below))) ?_
    refine qv (v := (.int .i64 bi)) rfl (fun _ hC => r_move rfl) ?_
    obtain ⟨bk, b3, hm⟩ := bS hm
    refine qv (v := (sptr aj (Int.toNat bi * 1))) rfl (fun _ hC => r_idx Tryz.underlying24 Tryz.sizeOf23 rfl rfl (at?_some b3).1 (at?_some b3).2.1 (ae.addr b3)) ?_
    obtain ⟨_, c3, c4⟩ := ae.atN b3
    obtain ⟨⟨c5, c6, rfl, dg⟩, _⟩ := c3
    refine qv (v := (.slice c5 bk.length c6)) rfl (fun _ hC => r_ld Tryz.isAgg23 rfl (c4.one.gr (Grow.of_below (col := ai) hC.below))) ?_
    refine qv (v := (.int .i64 (bk.length : Int))) rfl (fun _ hC => r_len Tryz.underlying23 rfl) ?_
    refine qv (v := (.int .i64 (IntKind.i64.wrap (ax * (bk.length : Int))))) rfl (fun _ hC => r_mul ax (bk.length : Int) rfl rfl) ?_
    refine qv (v := (.slice bf bn.length bt)) rfl (fun _ hC => r_move rfl) ?_
    refine qv (v := (.int .i64 bi)) rfl (fun _ hC => r_move rfl) ?_
    refine qv (v := (sptr bf (Int.toNat bi * 1))) rfl (fun _ hC => r_idx Tryz.underlying33 Tryz.sizeOf3 rfl rfl (at?_some bj).1 (at?_some bj).2.1 (a6.addr bj)) ?_
    refine qv (v := (.int .i64 be)) rfl (fun _ hC => r_ld Tryz.isAgg3 rfl ((a6.gr (Grow.of_below (col := ai) hC.below)).atInt bj)) ?_
    refine qv (v := (.int .i64 (IntKind.i64.wrap ((IntKind.i64.wrap (ax * (bk.length : Int))) + be)))) rfl (fun _ hC => r_add (IntKind.i64.wrap (ax * (bk.length : Int))) be rfl rfl) ?_
    refine qv (v := (.int .i64 (IntKind.i64.wrap ((IntKind.i64.wrap (ax * (bk.length : Int))) + be)))) rfl (fun _ hC => r_assign rfl) ?_
    refine qnil ?_
    intro c7 hC
    replace hC : Grow ai a3 ai c7 := .of_below hC.below
    refine wR <| lV (.int .i64 (IntKind.i64.wrap ((ay : Int) + 1))) (r_add (ay : Int) 1 rfl rfl) <| lM (.int .i64 (IntKind.i64.wrap ((ay : Int) + 1))) <| lN ?_
    replace a6 := a6.gr hC
    replace ah := ah.gr hC
    replace ae := ae.gr hC
    replace af := af.gr hC
    replace ag := ag.gr hC
    replace h1 := h1.gr hC
    replace bg := bg.gr hC
    replace az := az.gr hC
    replace ad := ad.gr hC
    replace hst := hst.grow hC
    exact ⟨cf.length, by simp, ⟨ai, (IntKind.i64.wrap ((IntKind.i64.wrap (ax * (bk.length : Int))) + be)), (ay + 1), cf, rfl, hl2_L2, hm, hst, a6, ah, ae, af, ag, ad, h1, bg, az, (congrArg (Value.int .i64) (wrap_succ (Nat.lt_of_lt_of_le hlt_L2 bg.len))), rfl, rfl, rfl, rfl, rfl, rfl, rfl, rfl, rfl, rfl, rfl⟩⟩
 refine wR <| lM (.int .i64 ab) <| lV (.bool (decide (ab < 0))) (r_lss ab 0 rfl rfl) <| lM (.bool (decide (ab < 0))) ?_
 by_cases am : (decide (ab < 0)) = true
 ·rw [if_pos am] at hm
  refine lp (b := decide (ab < 0)) 23 rfl rfl rfl rfl (by rw [am]; rfl) ?_
  refine lp (b := decide (ab < 0)) 23 rfl rfl rfl rfl (by rw [am]; rfl) ?_
  refine lp (b := decide (ab < 0)) 23 rfl rfl rfl rfl (by rw [am]; rfl) ?_
  refine lp (b := decide (ab < 0)) 23 rfl rfl rfl rfl (by rw [am]; rfl) ?_
  refine lp (b := decide (ab < 0)) 23 rfl rfl rfl rfl (by rw [am]; rfl) ?_
  refine lV (.bool true) (r_pickT (congrArg Value.bool am) rfl) <| lN ?_
  exact ⟨bq, true, hm, hst, h1, ah, ae, af, ag, ad, rfl, rfl, rfl, rfl, rfl⟩
 rw [if_neg am] at hm
 replace am := Bool.eq_false_iff.2 am
 refine lg (b := decide (ab < 0)) 23 rfl rfl rfl (by rw [am]; rfl) ?_
 refine lM (.int .i64 ab) ?_
 refine lg (b := decide (ab < 0)) 23 rfl rfl rfl (by rw [am]; rfl) ?_
 refine lV (.pointer ((some (⟨a4, 0, none⟩ : Addr)).map (·.add 1))) (rF (sz := 1) (off := 1) Tryz.underlying28 rfl Tryz.sizeOf23 (by decide) rfl rfl ⟨_, _, rfl⟩) ?_
 refine lg (b := decide (ab < 0)) 23 rfl rfl rfl (by rw [am]; rfl) ?_
 refine lV (.slice an aa.2.1.length ao) (r_ld Tryz.isAgg23 rfl ((ad.atN).nth (q := 1) (v := (.slice an aa.2.1.length ao)) rfl)) ?_
 refine lg (b := decide (ab < 0)) 23 rfl rfl rfl (by rw [am]; rfl) ?_
 refine lV (.int .i64 (aa.2.1.length : Int)) (r_len Tryz.underlying23 rfl) ?_
 refine lg (b := decide (ab < 0)) 23 rfl rfl rfl (by rw [am]; rfl) ?_
 refine lV (.bool (decide ((aa.2.1.length : Int) ≤ ab))) (r_geq ab (aa.2.1.length : Int) rfl rfl) <| lV (.bool (decide ((aa.2.1.length : Int) ≤ ab))) (r_pickF (congrArg Value.bool am) rfl) <| lN ?_
 exact ⟨bq, (decide ((aa.2.1.length : Int) ≤ ab)), hm, hst, h1, ah, ae, af, ag, ad, rfl, rfl, rfl, rfl, rfl⟩
def m_frac_Div (N : Nat) (ab : ((Bool × (List Int)) × (List Int))) (aa : ((Bool × (List Int)) × (List Int))) : Option (((Bool × (List Int)) × (List Int)) × Int) :=
  (m_frac_Sign N ((aa.1.1, aa.1.2), aa.2)).bind fun ad => if (decide (ad = 0)) = true then none else ((m_frac_under N ((aa.1.1, aa.1.2), aa.2)).bind fun ae => (m_nat_Mul N ab.1.2 ae).bind fun af => (m_frac_under N ((ab.1.1, ab.1.2), ab.2)).bind fun ag => (m_nat_Mul N ag aa.1.2).bind fun ah => (m_frac_lowest N (!decide (ab.1.1 = aa.1.1)) af ah).bind fun ac => some (((ac.1.1, ac.1.2), ac.2), 0))
theorem c_frac_Div (N : Nat) (c1 : Nat) (c2 : Nat) (col : Col) (w0 : World) (ah : Option Addr) (ai : Nat) (ay : Option Addr) (az : Nat) (ab : ((Bool × (List Int)) × (List Int))) (af : Option Addr) (ag : Nat) (an : Option Addr) (ao : Nat) (aa : ((Bool × (List Int)) × (List Int))) (aj : Sl (Rep.int .u32) col w0 ah ai ab.1.2) (ap : Sl (Rep.int .u32) col w0 ay az ab.2) (ad : Sl (Rep.int .u32) col w0 af ag aa.1.2) (av : Sl (Rep.int .u32) col w0 an ao aa.2) (r : (((Bool × (List Int)) × (List Int)) × Int)) (hm : m_frac_Div N ab aa = some r) :
    Calls Tryz.prog 36 #[(.agg #[(.bool ab.1.1), (.slice ah ab.1.2.length ai), (.slice ay ab.2.length az)]), (.agg #[(.bool aa.1.1), (.slice af aa.1.2.length ag), (.slice an aa.2.length ao)])] w0 (fun e w' => ∃ (col' : Col) (ra1 : Option Addr) (rc2 : Nat) (ra4 : Option Addr) (rc5 : Nat), e = .returned (.tuple #[(.agg #[(.bool r.1.1.1), (.slice ra1 r.1.1.2.length rc2), (.slice ra4 r.1.2.length rc5)]), (.int .i64 r.2)]) ∧ Grow col w0 col' w' ∧ Own (Rep.int .u32) 114 c1 col' w' ra1 rc2 r.1.1.2 ∧ Own (Rep.int .u32) 114 c2 col' w' ra4 rc5 r.1.2) := by
 refine calls_ofR (m := 30) (args := [(.agg #[(.bool ab.1.1), (.slice ah ab.1.2.length ai), (.slice ay ab.2.length az)]), (.agg #[(.bool aa.1.1), (.slice af aa.1.2.length ag), (.slice an aa.2.length ao)])]) Tryz.func36 rfl rfl rfl ?_
 rw [m_frac_Div.eq_1] at hm
 have hst := St.start col w0
 refine wS <| wR ?_
 refine l_box (col := (col0 col)) (v := (.agg #[(.bool ab.1.1), (.slice ah ab.1.2.length ai), (.slice ay ab.2.length az)])) 1 rfl rfl ?_
 intro a9 b7 bp ba a0
 replace a0 : Box 40 1 bp b7 a9 #[(.bool ab.1.1), (.slice ah ab.1.2.length ai), (.slice ay ab.2.length az)] := a0
 refine l_box (col := bp) (v := (.agg #[(.bool aa.1.1), (.slice af aa.1.2.length ag), (.slice an aa.2.length ao)])) 2 rfl rfl ?_
 intro bb b8 bq a7 ak
 replace ak : Box 40 2 bq b8 bb #[(.bool aa.1.1), (.slice af aa.1.2.length ag), (.slice an aa.2.length ao)] := ak
 refine l_alloc (col := bq) (v := (.agg #[(.bool false), (.slice none (([] : List Int).length) 0), (.slice none (([] : List Int).length) 0)])) 3 rfl Tryz.zeroValue40 ?_
 intro br bs ae a1 ac
 replace ac : Box 40 3 ae bs br #[(.bool false), (.slice none (([] : List Int).length) 0), (.slice none (([] : List Int).length) 0)] := ac
 refine lA (.int .i64 0) <| lN <| wS <| wS <| wR ?_
 replace ak := ak.gr a1
 refine lV (.agg #[(.bool aa.1.1), (.slice af aa.1.2.length ag), (.slice an aa.2.length ao)]) (r_ldN Tryz.isAgg40 Tryz.sizeOf40 rfl rfl ak.atN) ?_
 obtain ⟨bg, b9, hm⟩ := bS hm
 replace ad := (((ad.keep (Stay.start col w0)).gr ba).gr a7).gr a1
 replace av := (((av.keep (Stay.start col w0)).gr ba).gr a7).gr a1
 refine lc rfl rfl (r_call1 Tryz.call24 rfl) (c_frac_Sign N ae _ af ag an ao ((aa.1.1, aa.1.2), aa.2) ad av bg b9) ?_
 rintro _ bt ⟨rfl, al⟩
 refine ⟨_, rfl, ?_⟩
 replace al : Grow ae bs ae bt := .of_below al
 refine lV (.bool (decide (bg = 0))) (r_eql bg 0 rfl rfl) <| lN ?_
 replace aj := ((((aj.keep (Stay.start col w0)).gr ba).gr a7).gr a1).gr al
 replace ap := ((((ap.keep (Stay.start col w0)).gr ba).gr a7).gr a1).gr al
 replace hst := (((hst.grow ba).grow a7).grow a1).grow al
 replace a0 := ((a0.gr a7).gr a1).gr al
 replace ad := ad.gr al
 replace av := av.gr al
 replace ak := ak.gr al
 replace ac := ac.gr al
 refine wcond (decide (bg = 0)) rfl (fun hb => ?_) (fun hb => ?_)
 ·rw [if_pos hb] at hm
  clear hb
  cases hm
 rw [if_neg (by rw [hb]; decide)] at hm
 clear hb
 refine wK <| wS ?_
 refine wmix (col := ae) [(0, 1), (1, 1), (2, 0), (3, 1), (4, 1), (5, 0), (6, 1), (7, 1), (8, 1), (9, 0), (10, 0), (13, 0), (15, 1), (16, 1), (17, 0), (11, 3), (12, 3), (14, 3), (18, 3), (19, 3), (20, 2), (21, 1)] (by kernel_rfl) (by kernel_rfl) ?_
 refine xu (v := (.pointer ((some (⟨a9, 0, none⟩ : Addr)).map (·.add 0)))) rfl rfl (fun _ => rF (sz := 2) (off := 0) Tryz.underlying40 rfl Tryz.sizeOf38 (by decide) rfl rfl ⟨_, _, rfl⟩) ?_
 refine xu (v := (.pointer (((some (⟨a9, 0, none⟩ : Addr)).map (·.add 0)).map (·.add 0)))) rfl rfl (fun _ => rF (sz := 1) (off := 0) Tryz.underlying38 rfl Tryz.sizeOf4 (by decide) rfl rfl (sptr_addr ⟨_, _, rfl⟩)) ?_
 refine xv (v := (.bool ab.1.1)) rfl rfl (fun _ hC => r_ld Tryz.isAgg4 rfl (((((a0.atN).part 0 2 _ rfl)).nth (q := 0) (v := (.bool ab.1.1)) rfl).gr (Grow.of_below (col := ae) hC.below))) ?_
 refine xu (v := (.pointer ((some (⟨bb, 0, none⟩ : Addr)).map (·.add 0)))) rfl rfl (fun _ => rF (sz := 2) (off := 0) Tryz.underlying40 rfl Tryz.sizeOf38 (by decide) rfl rfl ⟨_, _, rfl⟩) ?_
 refine xu (v := (.pointer (((some (⟨bb, 0, none⟩ : Addr)).map (·.add 0)).map (·.add 0)))) rfl rfl (fun _ => rF (sz := 1) (off := 0) Tryz.underlying38 rfl Tryz.sizeOf4 (by decide) rfl rfl (sptr_addr ⟨_, _, rfl⟩)) ?_
 refine xv (v := (.bool aa.1.1)) rfl rfl (fun _ hC => r_ld Tryz.isAgg4 rfl (((((ak.atN).part 0 2 _ rfl)).nth (q := 0) (v := (.bool aa.1.1)) rfl).gr (Grow.of_below (col := ae) hC.below))) ?_
 refine xu (v := (.bool (!decide (ab.1.1 = aa.1.1)))) rfl rfl (fun _ => r_neqB ab.1.1 aa.1.1 Tryz.underlying4 rfl rfl) ?_
 refine xu (v := (.pointer ((some (⟨a9, 0, none⟩ : Addr)).map (·.add 0)))) rfl rfl (fun _ => rF (sz := 2) (off := 0) Tryz.underlying40 rfl Tryz.sizeOf38 (by decide) rfl rfl ⟨_, _, rfl⟩) ?_
 refine xu (v := (.pointer (((some (⟨a9, 0, none⟩ : Addr)).map (·.add 0)).map (·.add 1)))) rfl rfl (fun _ => rF (sz := 1) (off := 1) Tryz.underlying38 rfl Tryz.sizeOf36 (by decide) rfl rfl (sptr_addr ⟨_, _, rfl⟩)) ?_
 refine xv (v := (.slice ah ab.1.2.length ai)) rfl rfl (fun _ hC => r_ld Tryz.isAgg36 rfl (((((a0.atN).part 0 2 _ rfl)).nth (q := 1) (v := (.slice ah ab.1.2.length ai)) rfl).gr (Grow.of_below (col := ae) hC.below))) ?_
 refine xv (v := (.agg #[(.bool aa.1.1), (.slice af aa.1.2.length ag), (.slice an aa.2.length ao)])) rfl rfl (fun _ hC => r_ldN Tryz.isAgg40 Tryz.sizeOf40 rfl rfl (ak.atN.gr (Grow.of_below (col := ae) hC.below))) ?_
 refine xv (v := (.agg #[(.bool ab.1.1), (.slice ah ab.1.2.length ai), (.slice ay ab.2.length az)])) rfl rfl (fun _ hC => r_ldN Tryz.isAgg40 Tryz.sizeOf40 rfl rfl (a0.atN.gr (Grow.of_below (col := ae) hC.below))) ?_
 refine xu (v := (.pointer ((some (⟨bb, 0, none⟩ : Addr)).map (·.add 0)))) rfl rfl (fun _ => rF (sz := 2) (off := 0) Tryz.underlying40 rfl Tryz.sizeOf38 (by decide) rfl rfl ⟨_, _, rfl⟩) ?_
 refine xu (v := (.pointer (((some (⟨bb, 0, none⟩ : Addr)).map (·.add 0)).map (·.add 1)))) rfl rfl (fun _ => rF (sz := 1) (off := 1) Tryz.underlying38 rfl Tryz.sizeOf36 (by decide) rfl rfl (sptr_addr ⟨_, _, rfl⟩)) ?_
 refine xv (v := (.slice af aa.1.2.length ag)) rfl rfl (fun _ hC => r_ld Tryz.isAgg36 rfl (((((ak.atN).part 0 2 _ rfl)).nth (q := 1) (v := (.slice af aa.1.2.length ag)) rfl).gr (Grow.of_below (col := ae) hC.below))) ?_
 refine xe rfl rfl ?_
 intro ca hC0
 have hC : Grow ae bt ae ca := .of_below hC0.below
 obtain ⟨bu, cb, hm⟩ := bS hm
 replace ad := ad.gr hC
 replace av := av.gr hC
 refine lc rfl rfl (r_call1 Tryz.call56 rfl) (c_frac_under N 4 ae _ af ag an ao ((aa.1.1, aa.1.2), aa.2) ad av bu cb) ?_
 rintro _ bv ⟨aw, cc, cd, rfl, a8, bh⟩
 refine ⟨_, rfl, ?_⟩
 refine lN ⟨fun w' => Grow aw bv aw w', Grow.refl _ _, fun _ _ h => cls hC0 a8 h, ?_⟩
 refine xe rfl rfl ?_
 intro bw hC0
 replace aj := (aj.gr hC).gr a8
 replace ap := (ap.gr hC).gr a8
 replace ac := (ac.gr hC).gr a8
 replace hst := (hst.grow hC).grow a8
 have hC : Grow aw bv aw bw := .of_below hC0.below
 obtain ⟨bx, ce, hm⟩ := bS hm
 replace aj := aj.gr hC
 replace bh := bh.gr hC
 refine lc rfl rfl (r_call2 Tryz.call40 rfl rfl) (c_nat_Mul N 5 (frC 4 aw) _ ah ai ab.1.2 cc cd bu (aj.froz 4) (bh.toSlF (Froz.int .u32)) bx ce) ?_
 rintro _ bz ⟨cf, cg, ch, rfl, aq, ar⟩
 refine ⟨_, rfl, ?_⟩
 replace ar := ar.thaw (flat_int .u32) aq ((Fz.refl (col := aw)).froz 4) (by decide)
 replace aq := aq.thawR (col := aw)
 generalize colR bw.heap.size aw cf = bc at *
 refine lN ⟨fun w' => Grow bc bz bc w', Grow.refl _ _, fun _ _ h => cls hC0 aq h, ?_⟩
 refine xe rfl rfl ?_
 intro ci hC0
 replace ad := ((ad.gr a8).gr hC).gr aq
 replace ap := (ap.gr hC).gr aq
 replace ac := (ac.gr hC).gr aq
 replace hst := (hst.grow hC).grow aq
 have hC : Grow bc bz bc ci := .of_below hC0.below
 obtain ⟨b0, cj, hm⟩ := bS hm
 replace aj := (aj.gr aq).gr hC
 replace ap := ap.gr hC
 refine lc rfl rfl (r_call1 Tryz.call56 rfl) (c_frac_under N 6 bc _ ah ai ay az ((ab.1.1, ab.1.2), ab.2) aj ap b0 cj) ?_
 rintro _ b1 ⟨ax, ck, cl, rfl, bd, bi⟩
 refine ⟨_, rfl, ?_⟩
 refine lN ⟨fun w' => Grow ax b1 ax w', Grow.refl _ _, fun _ _ h => cls hC0 bd h, ?_⟩
 refine xe rfl rfl ?_
 intro b2 hC0
 replace ad := (ad.gr hC).gr bd
 replace ar := (ar.gr hC).gr bd
 replace ac := (ac.gr hC).gr bd
 replace hst := (hst.grow hC).grow bd
 have hC : Grow ax b1 ax b2 := .of_below hC0.below
 obtain ⟨b3, cm, hm⟩ := bS hm
 replace ad := ad.gr hC
 replace bi := bi.gr hC
 refine lc rfl rfl (r_call2 Tryz.call40 rfl rfl) (c_nat_Mul N 7 (frC 6 ax) _ ck cl b0 af ag aa.1.2 (bi.toSlF (Froz.int .u32)) (ad.froz 6) b3 cm) ?_
 rintro _ b4 ⟨cn, co, cp, rfl, a2, be⟩
 refine ⟨_, rfl, ?_⟩
 replace be := be.thaw (flat_int .u32) a2 ((Fz.refl (col := ax)).froz 6) (by decide)
 replace a2 := a2.thawR (col := ax)
 generalize colR b2.heap.size ax cn = au at *
 refine lN ⟨fun w' => Grow au b4 au w', Grow.refl _ _, fun _ _ h => cls hC0 a2 h, ?_⟩
 refine xe rfl rfl ?_
 intro b5 hC0
 replace ar := (ar.gr hC).gr a2
 replace ac := (ac.gr hC).gr a2
 replace hst := (hst.grow hC).grow a2
 have hC : Grow au b4 au b5 := .of_below hC0.below
 obtain ⟨a3, cq, hm⟩ := bS hm
 replace ar := ar.gr hC
 replace be := be.gr hC
 refine lc rfl rfl (r_call3 Tryz.call55 rfl rfl rfl) (c_frac_lowest N 8 9 (frC 7 (frC 5 au)) _ (!decide (ab.1.1 = aa.1.1)) cg ch bx co cp b3 ((ar.toSlF (Froz.int .u32)).froz 7) ((be.froz 5 (by decide)).toSlF (Froz.int .u32)) a3 cq) ?_
 rintro _ b6 ⟨cr, bj, bk, bl, bm, rfl, a4, a5, a6⟩
 refine ⟨_, rfl, ?_⟩
 replace a5 := a5.thaw (flat_int .u32) a4 (((Fz.refl (col := au)).froz 5).froz 7) (by decide)
 replace a6 := a6.thaw (flat_int .u32) a4 (((Fz.refl (col := au)).froz 5).froz 7) (by decide)
 replace a4 := a4.thawR (col := au)
 generalize colR b5.heap.size au cr = am at *
 refine lN ⟨fun w' => Grow am b6 am w', Grow.refl _ _, fun _ _ h => cls hC0 a4 h, ?_⟩
 refine xe rfl rfl ?_
 intro cs hC0
 replace ac := (ac.gr hC).gr a4
 replace hst := (hst.grow hC).grow a4
 have hC : Grow am b6 am cs := .of_below hC0.below
 replace ac := ac.gr hC
 refine l_bstore (v := (.agg #[(.bool a3.1.1), (.slice bj a3.1.2.length bk), (.slice bl a3.2.length bm)])) ac Tryz.sizeOf40 rfl rfl (by intro u hu; simp only [Value.cells, List.mem_cons, List.not_mem_nil, or_false] at hu; rcases hu with rfl | rfl | rfl <;> rfl) rfl rfl ?_
 intro bn bo ct bf
 clear ac
 replace bf : Box 40 3 am bn br #[(.bool a3.1.1), (.slice bj a3.1.2.length bk), (.slice bl a3.2.length bm)] := bf
 refine lN ⟨fun w' => Grow am bn am w', Grow.refl _ _, fun h => absurd h (by decide), ?_⟩
 refine xu (v := (.int .i64 0)) rfl rfl (fun _ => r_assign rfl) ?_
 refine xnil ?_
 replace a5 := (a5.gr hC).kp bo
 replace a6 := (a6.gr hC).kp bo
 replace hst := (hst.grow hC).kp bo ct
 intro cu hC
 replace hC : Grow am bn am cu := .of_below hC.below
 refine wret ?_
 cases hm
 replace a5 := a5.gr hC
 replace a6 := a6.gr hC
 replace bf := bf.gr hC
 replace hst := hst.grow hC
 exact ⟨rfl, _, res_at rfl rfl Tryz.isAgg40 Tryz.sizeOf40 rfl rfl bf.atN rfl rfl, colF w0.heap.size col am (fun n => bif Nat.beq n 8 then c1 else bif Nat.beq n 9 then c2 else 0), bj, bk, bl, bm, rfl, hst.fin (fun n => bif Nat.beq n 8 then c1 else bif Nat.beq n 9 then c2 else 0), hst.finOwn (g := (fun n => bif Nat.beq n 8 then c1 else bif Nat.beq n 9 then c2 else 0)) rfl a5 (by decide) (by decide) rfl, hst.finOwn (g := (fun n => bif Nat.beq n 8 then c1 else bif Nat.beq n 9 then c2 else 0)) rfl a6 (by decide) (by decide) rfl⟩
def m_learn_shares_J1 (aa : Int) (ab : Int) (kk_L1 : ((List ((Bool × (List Int)) × (List Int))) → Int → Option (List ((Bool × (List Int)) × (List Int))))) (ac : List ((Bool × (List Int)) × (List Int))) : Option (List ((Bool × (List Int)) × (List Int))) :=
  kk_L1 ac (IntKind.i64.wrap (ab + aa))
def m_learn_shares_L2 (N : Nat) (ah : (List ((Bool × (List Int)) × (List Int)))) (ac : Int) (ad : Int) (kk_L1 : ((List ((Bool × (List Int)) × (List Int))) → Int → Option (List ((Bool × (List Int)) × (List Int))))) (ab : ((Bool × (List Int)) × (List Int))) : Nat → (List ((Bool × (List Int)) × (List Int))) → Int → Option (List ((Bool × (List Int)) × (List Int)))
  | 0, _, _ => none
  | ai + 1, ae, aa => if (decide (aa < (IntKind.i64.wrap (ad + ac)))) = true then ((at? ah aa).bind fun af => (m_frac_Div N ((af.1.1, af.1.2), af.2) ((ab.1.1, ab.1.2), ab.2)).bind fun ag => (at? ae aa).bind fun ak => (some (ae.set (Int.toNat aa) ((ag.1.1.1, ag.1.1.2), ag.1.2))).bind fun aj => (m_learn_shares_L2 N ah ac ad kk_L1 ab ai) aj (IntKind.i64.wrap (aa + 1))) else (m_learn_shares_J1 ac ad kk_L1 ae)
termination_by structural x => x
def m_learn_shares_L1 (N : Nat) (ac : (List ((Bool × (List Int)) × (List Int)))) (ab : Int) : Nat → (List ((Bool × (List Int)) × (List Int))) → Int → Option (List ((Bool × (List Int)) × (List Int)))
  | 0, _, _ => none
  | af + 1, ae, aa => if (decide (aa < (ae.length : Int))) = true then (chk ((0 : Int) ≤ aa ∧ aa ≤ (IntKind.i64.wrap (aa + ab)) ∧ (IntKind.i64.wrap (aa + ab)) ≤ (ac.length : Int)) ((m_frac_Sum N ((ac.take (Int.toNat (IntKind.i64.wrap (aa + ab)))).drop (Int.toNat aa))).bind fun ad => (m_frac_Sign N ((ad.1.1, ad.1.2), ad.2)).bind fun ag => if (decide (ag = 0)) = true then none else (m_learn_shares_L2 N ac ab aa (m_learn_shares_L1 N ac ab af) ad N ae aa))) else (some ae)
termination_by structural x => x
def m_learn_shares (N : Nat) (aa : (List ((Bool × (List Int)) × (List Int)))) (ab : (List ((Bool × (List Int)) × (List Int)))) (ac : Int) : Option (List ((Bool × (List Int)) × (List Int))) :=
  m_learn_shares_L1 N ab ac N aa 0
theorem c_learn_shares (N : Nat) (col : Col) (w0 : World) (qc0 : Nat) (hd : dstB [qc0] = true) (a0 : Option Addr) (cap0 : Nat) (ak : (List ((Bool × (List Int)) × (List Int)))) (a1 : Option Addr) (cap1 : Nat) (ad : (List ((Bool × (List Int)) × (List Int)))) (ab : Int) (h0 : Own (Rep.pair (Rep.pair Rep.bool (Rep.row 114 (Rep.int .u32))) (Rep.row 114 (Rep.int .u32))) 40 qc0 col w0 a0 cap0 ak) (h1 : Sl (Rep.pair (Rep.pair Rep.bool (Rep.slice (Rep.int .u32))) (Rep.slice (Rep.int .u32))) col w0 a1 cap1 ad) (r : (List ((Bool × (List Int)) × (List Int)))) (hm : m_learn_shares N ak ad ab = some r) :
    Calls Tryz.prog 29 #[(.slice a0 ak.length cap0), (.slice a1 ad.length cap1), (.int .i64 ab)] w0 (fun e w' => ∃ (col' : Col), e = .returned (.tuple #[]) ∧ KeepP (pS [qc0]) col w0 col' w' ∧ Own (Rep.pair (Rep.pair Rep.bool (Rep.row 114 (Rep.int .u32))) (Rep.row 114 (Rep.int .u32))) 40 qc0 col' w' a0 cap0 r ∧ r.length = ak.length) := by
 refine calls_of0  (m := 46) (args := [(.slice a0 ak.length cap0), (.slice a1 ad.length cap1), (.int .i64 ab)]) Tryz.func29 rfl rfl rfl rfl ?_
 rw [m_learn_shares.eq_1] at hm
 have hst := St.startL (l := [qc0]) rfl col w0
 replace h0 := h0.startL (dst_nz hd 0 rfl) (dst_ix hd 0 rfl)
 refine wS <| wR <| lA (.int .i64 0) <| lN <| wB ?_
 replace h1 := h1.keep (Stay.startL [qc0] col w0)
 refine wloop (fun n f be => ∃ (a2 : Col) (al : List ((Bool × (List Int)) × (List Int))) (aa : Int) (ap : Nat), ap = n ∧ m_learn_shares_L1 N ad ab ap al aa = some r ∧ St w0 (colL [qc0] col) a2 be ∧ Own (Rep.pair (Rep.pair Rep.bool (Rep.row 114 (Rep.int .u32))) (Rep.row 114 (Rep.int .u32))) 40 440 a2 be a0 cap0 al ∧ al.length = ak.length ∧ Sl (Rep.pair (Rep.pair Rep.bool (Rep.slice (Rep.int .u32))) (Rep.slice (Rep.int .u32))) a2 be a1 cap1 ad ∧ al.length = ak.length ∧ f 0 = (.slice a0 al.length cap0) ∧ f 1 = (.slice a1 ad.length cap1) ∧ f 2 = (.int .i64 ab) ∧ f 6 = (.int .i64 aa) ∧ f 1000000 = (enc [])) N ⟨(colL [qc0] col), ak, 0, N, rfl, hm, hst, h0, rfl, h1, rfl, rfl, rfl, rfl, rfl, rfl⟩ ?_
 clear hm; intro n f be hI
 obtain ⟨a2, al, aa, ap, hn, hm, hst, bf, b9, h1, bx, hs0, hs1, hs2, hs6, hs1000000⟩ := hI
 subst hn
 refine .lD 0 hs0 <| .lD 1 hs1 <| .lD 2 hs2 <| .lD 6 hs6 <| .lD 1000000 hs1000000 ?_
 clear hs0 hs1 hs2 hs6 hs1000000
 cases ap with
 | zero => rw [m_learn_shares_L1.eq_1] at hm; cases hm
 | succ ap =>
  rw [m_learn_shares_L1.eq_2] at hm
  refine wS <| wS <| wR <| lM (.int .i64 aa) <| lM (.slice a0 al.length cap0) <| lV (.int .i64 (al.length : Int)) (r_len Tryz.underlying51 rfl) <| lV (.bool (decide (aa < (al.length : Int)))) (r_lss aa (al.length : Int) rfl rfl) <| lN ?_
  refine wcond (decide (aa < (al.length : Int))) rfl (fun hb => ?_) (fun hb => ?_)
  ·rw [if_pos hb] at hm
   clear hb
   refine wK <| wS ?_
   refine Wp.cut (fun f bg => ∃ (a8 : Col) (ay : List ((Bool × (List Int)) × (List Int))), m_learn_shares_J1 ab aa (m_learn_shares_L1 N ad ab ap) ay = some r ∧ St w0 (colL [qc0] col) a8 bg ∧ Own (Rep.pair (Rep.pair Rep.bool (Rep.row 114 (Rep.int .u32))) (Rep.row 114 (Rep.int .u32))) 40 440 a8 bg a0 cap0 ay ∧ ay.length = ak.length ∧ Sl (Rep.pair (Rep.pair Rep.bool (Rep.slice (Rep.int .u32))) (Rep.slice (Rep.int .u32))) a8 bg a1 cap1 ad ∧ ay.length = ak.length ∧ f 0 = (.slice a0 ay.length cap0) ∧ f 1 = (.slice a1 ad.length cap1) ∧ f 2 = (.int .i64 ab) ∧ f 6 = (.int .i64 aa) ∧ f 1000000 = (enc [])) ?_ ?_
   ·intro f bg hJ
    obtain ⟨a8, ay, hm, hst, ca, cb, h1, cc, hs0, hs1, hs2, hs6, hs1000000⟩ := hJ
    rw [m_learn_shares_J1.eq_1] at hm
    refine .lD 0 hs0 <| .lD 1 hs1 <| .lD 2 hs2 <| .lD 6 hs6 <| .lD 1000000 hs1000000 ?_
    clear hs0 hs1 hs2 hs6 hs1000000
    refine wR <| lM (.int .i64 aa) <| lM (.int .i64 ab) <| lV (.int .i64 (IntKind.i64.wrap (aa + ab))) (r_add aa ab rfl rfl) <| lA (.int .i64 (IntKind.i64.wrap (aa + ab))) <| lN ?_
    exact ⟨ap, by omega, ⟨a8, ay, (IntKind.i64.wrap (aa + ab)), ap, rfl, hm, hst, ca, cb, h1, cc, rfl, rfl, rfl, rfl, rfl⟩⟩
   refine wB <| wS <| wR <| lM (.slice a1 ad.length cap1) <| lM (.int .i64 aa) <| lM (.int .i64 aa) <| lM (.int .i64 ab) <| lV (.int .i64 (IntKind.i64.wrap (aa + ab))) (r_add aa ab rfl rfl) ?_
   obtain ⟨bh, hm⟩ := cS hm
   have cd := (h1.take (Int.toNat (IntKind.i64.wrap (aa + ab)))).drop (sz := 3) rfl (Int.toNat aa)
   refine lv (v := .slice (if cap1 = (Int.toNat aa) then a1 else a1.map (·.add ((Int.toNat aa) * 3))) ((Int.toNat (IntKind.i64.wrap (aa + ab))) - (Int.toNat aa)) (cap1 - (Int.toNat aa))) rfl rfl (r_sliceLH Tryz.underlying51 Tryz.sizeOf40 rfl rfl rfl bh.1 bh.2.1 (by have := h1.1.2; have := bh.2.2; omega)) ?_
   generalize (if cap1 = (Int.toNat aa) then a1 else a1.map (·.add ((Int.toNat aa) * 3))) = bp at *
   refine .ld (d := 21) (v := (.slice bp (((ad.take (Int.toNat (IntKind.i64.wrap (aa + ab)))).drop (Int.toNat aa)).length) (cap1 - (Int.toNat aa)))) (congrArg (fun n => Value.slice bp n (cap1 - (Int.toNat aa))) (show (Int.toNat (IntKind.i64.wrap (aa + ab))) - (Int.toNat aa) = ((ad.take (Int.toNat (IntKind.i64.wrap (aa + ab)))).drop (Int.toNat aa)).length by rw [List.length_drop, List.length_take]; have := bh.2; omega)) ?_
   obtain ⟨ac, ce, hm⟩ := bS hm
   refine lc rfl rfl (r_call1 Tryz.call51 rfl) (c_frac_Sum N 1 2 a2 _ bp (cap1 - (Int.toNat aa)) ((ad.take (Int.toNat (IntKind.i64.wrap (aa + ab)))).drop (Int.toNat aa)) cd ac ce) ?_
   rintro _ cw ⟨cf, aq, ar, au, av, rfl, bq, ag, ah⟩
   refine ⟨_, rfl, ?_⟩
   refine l_alloc (col := cf) (v := (.agg #[(.bool false), (.slice none (([] : List Int).length) 0), (.slice none (([] : List Int).length) 0)])) 3 rfl Tryz.zeroValue40 ?_
   intro bi cg a3 a9 bj
   replace bj : Box 40 3 a3 cg bi #[(.bool false), (.slice none (([] : List Int).length) 0), (.slice none (([] : List Int).length) 0)] := bj
   refine l_bstore (v := (.agg #[(.bool ac.1.1), (.slice aq ac.1.2.length ar), (.slice au ac.2.length av)])) bj Tryz.sizeOf40 rfl rfl (by intro u hu; simp only [Value.cells, List.mem_cons, List.not_mem_nil, or_false] at hu; rcases hu with rfl | rfl | rfl <;> rfl) rfl rfl ?_
   intro bz ba ch ai
   clear bj
   replace ai : Box 40 3 a3 bz bi #[(.bool ac.1.1), (.slice aq ac.1.2.length ar), (.slice au ac.2.length av)] := ai
   refine lN <| wS <| wS <| wR <| lV (.agg #[(.bool ac.1.1), (.slice aq ac.1.2.length ar), (.slice au ac.2.length av)]) (r_ldN Tryz.isAgg40 Tryz.sizeOf40 rfl rfl ai.atN) ?_
   obtain ⟨bk, ci, hm⟩ := bS hm
   replace ag := (ag.gr a9).kp ba
   replace ah := (ah.gr a9).kp ba
   refine lc rfl rfl (r_call1 Tryz.call24 rfl) (c_frac_Sign N (frC 2 (frC 1 a3)) _ aq ar au av ((ac.1.1, ac.1.2), ac.2) ((ag.toSlF (Froz.int .u32)).froz 2) ((ah.froz 1 (by decide)).toSlF (Froz.int .u32)) bk ci) ?_
   rintro _ cj ⟨rfl, aw⟩
   refine ⟨_, rfl, ?_⟩
   replace aw : Grow a3 bz a3 cj := .of_below aw
   refine lV (.bool (decide (bk = 0))) (r_eql bk 0 rfl rfl) <| lN ?_
   replace bf := (((bf.gr bq).gr a9).kp ba).gr aw
   replace h1 := (((h1.gr bq).gr a9).kp ba).gr aw
   replace hst := (((hst.grow bq).grow a9).kp ba ch).grow aw
   replace ag := ag.gr aw
   replace ah := ah.gr aw
   replace ai := ai.gr aw
   refine wcond (decide (bk = 0)) rfl (fun hb => ?_) (fun hb => ?_)
   ·rw [if_pos hb] at hm
    clear hb
    cases hm
   rw [if_neg (by rw [hb]; decide)] at hm
   clear hb
   refine wK <| wS <| wR <| lM (.int .i64 aa) <| lA (.int .i64 aa) <| lN <| wB ?_
   refine wloop (fun n f ax => ∃ (af : Col) (am : List ((Bool × (List Int)) × (List Int))) (aj : Int) (az : Nat), az = n ∧ m_learn_shares_L2 N ad ab aa (m_learn_shares_L1 N ad ab ap) ac az am aj = some r ∧ St w0 (colL [qc0] col) af ax ∧ Own (Rep.pair (Rep.pair Rep.bool (Rep.row 114 (Rep.int .u32))) (Rep.row 114 (Rep.int .u32))) 40 440 af ax a0 cap0 am ∧ am.length = ak.length ∧ Sl (Rep.pair (Rep.pair Rep.bool (Rep.slice (Rep.int .u32))) (Rep.slice (Rep.int .u32))) af ax a1 cap1 ad ∧ Own (Rep.int .u32) 114 1 af ax aq ar ac.1.2 ∧ Own (Rep.int .u32) 114 2 af ax au av ac.2 ∧ Box 40 3 af ax bi #[(.bool ac.1.1), (.slice aq ac.1.2.length ar), (.slice au ac.2.length av)] ∧ am.length = ak.length ∧ f 0 = (.slice a0 am.length cap0) ∧ f 1 = (.slice a1 ad.length cap1) ∧ f 2 = (.int .i64 ab) ∧ f 6 = (.int .i64 aa) ∧ f 7 = (.pointer (some ⟨bi, 0, none⟩)) ∧ f 8 = (.int .i64 aj) ∧ f 1000000 = (enc [])) N ⟨a3, al, aa, N, rfl, hm, hst, bf, b9, h1, ag, ah, ai, bx, rfl, rfl, rfl, rfl, rfl, rfl, rfl⟩ ?_
   clear hm; intro n f ax hI
   obtain ⟨af, am, aj, az, hn, hm, hst, ao, b0, h1, ag, ah, ai, ck, hs0, hs1, hs2, hs6, hs7, hs8, hs1000000⟩ := hI
   subst hn
   refine .lD 0 hs0 <| .lD 1 hs1 <| .lD 2 hs2 <| .lD 6 hs6 <| .lD 7 hs7 <| .lD 8 hs8 <| .lD 1000000 hs1000000 ?_
   clear hs0 hs1 hs2 hs6 hs7 hs8 hs1000000
   cases az with
   | zero => rw [m_learn_shares_L2.eq_1] at hm; cases hm
   | succ az =>
    rw [m_learn_shares_L2.eq_2] at hm
    refine wS <| wS <| wR <| lM (.int .i64 aj) <| lM (.int .i64 aa) <| lM (.int .i64 ab) <| lV (.int .i64 (IntKind.i64.wrap (aa + ab))) (r_add aa ab rfl rfl) <| lV (.bool (decide (aj < (IntKind.i64.wrap (aa + ab))))) (r_lss aj (IntKind.i64.wrap (aa + ab)) rfl rfl) <| lN ?_
    refine wcond (decide (aj < (IntKind.i64.wrap (aa + ab)))) rfl (fun hb => ?_) (fun hb => ?_)
    ·rw [if_pos hb] at hm
     clear hb
     refine wK <| wS <| wB ?_
     refine wmix (col := af) [(0, 1), (1, 1), (2, 1), (3, 1), (4, 1), (5, 0), (6, 0), (7, 3), (8, 1), (9, 1), (10, 1), (11, 1), (12, 2)] (by kernel_rfl) (by kernel_rfl) ?_
     refine xu (v := (.slice a0 am.length cap0)) rfl rfl (fun _ => r_move rfl) ?_
     refine xu (v := (.int .i64 aj)) rfl rfl (fun _ => r_move rfl) ?_
     refine xu (v := (.slice a1 ad.length cap1)) rfl rfl (fun _ => r_move rfl) ?_
     refine xu (v := (.int .i64 aj)) rfl rfl (fun _ => r_move rfl) ?_
     obtain ⟨a4, bl, hm⟩ := bS hm
     refine xu (v := (sptr a1 (Int.toNat aj * 3))) rfl rfl (fun _ => r_idx Tryz.underlying51 Tryz.sizeOf40 rfl rfl (at?_some bl).1 (at?_some bl).2.1 (h1.addr bl)) ?_
     obtain ⟨_, cl, cm⟩ := h1.atN bl
     obtain ⟨_, _, rfl, cn, co⟩ := rd_pair cl
     obtain ⟨_, _, rfl, cp, cq⟩ := rd_pair cn
     obtain ⟨rfl, _⟩ := cp
     obtain ⟨⟨b1, b2, rfl, br⟩, _⟩ := cq
     obtain ⟨⟨b3, b4, rfl, bs⟩, _⟩ := co
     refine xv (v := (.agg #[(.bool a4.1.1), (.slice b1 a4.1.2.length b2), (.slice b3 a4.2.length b4)])) rfl rfl (fun _ hC => r_ldN Tryz.isAgg40 Tryz.sizeOf40 rfl rfl (cm.gr (Grow.of_below (col := af) hC.below))) ?_
     refine xv (v := (.agg #[(.bool ac.1.1), (.slice aq ac.1.2.length ar), (.slice au ac.2.length av)])) rfl rfl (fun _ hC => r_ldN Tryz.isAgg40 Tryz.sizeOf40 rfl rfl (ai.atN.gr (Grow.of_below (col := af) hC.below))) ?_
     refine xe rfl rfl ?_
     intro b5 hC0
     have hC : Grow af ax af b5 := .of_below hC0.below
     obtain ⟨ae, cr, hm⟩ := bS hm
     replace ag := ag.gr hC
     replace ah := ah.gr hC
     replace br := br.gr hC
     replace bs := bs.gr hC
     refine lc rfl rfl (r_call2 Tryz.call36 rfl rfl) (c_frac_Div N 4 5 (frC 2 (frC 1 af)) _ b1 b2 b3 b4 ((a4.1.1, a4.1.2), a4.2) aq ar au av ((ac.1.1, ac.1.2), ac.2) ((br.froz 1).froz 2) ((bs.froz 1).froz 2) ((ag.toSlF (Froz.int .u32)).froz 2) ((ah.froz 1 (by decide)).toSlF (Froz.int .u32)) ae cr) ?_
     rintro _ b6 ⟨cs, bt, bu, bv, bw, rfl, an, a5, a6⟩
     refine ⟨_, rfl, ?_⟩
     replace a5 := a5.thaw (flat_int .u32) an (((Fz.refl (col := af)).froz 1).froz 2) (by decide)
     replace a6 := a6.thaw (flat_int .u32) an (((Fz.refl (col := af)).froz 1).froz 2) (by decide)
     replace an := an.thawR (col := af)
     generalize colR b5.heap.size af cs = bm at *
     refine lN ⟨fun w' => Grow bm b6 bm w', Grow.refl _ _, fun _ _ h => cls hC0 an h, ?_⟩
     refine xu (v := (.tuple #[(.agg #[(.bool ae.1.1.1), (.slice bt ae.1.1.2.length bu), (.slice bv ae.1.2.length bw)]), (.int .i64 ae.2)])) rfl rfl (fun _ => r_move rfl) ?_
     refine xu (v := (.agg #[(.bool ae.1.1.1), (.slice bt ae.1.1.2.length bu), (.slice bv ae.1.2.length bw)])) rfl rfl (fun _ => r_extract rfl rfl) ?_
     refine xu (v := (.int .i64 ae.2)) rfl rfl (fun _ => r_extract rfl rfl) ?_
     obtain ⟨cx, bn, hm⟩ := bS hm
     replace ao := (ao.gr hC).gr an
     refine xu (v := (sptr a0 (Int.toNat aj * 3))) rfl rfl (fun _ => r_idx Tryz.underlying51 Tryz.sizeOf40 rfl rfl (at?_some bn).1 (at?_some bn).2.1 (ao.addr bn)) ?_
     refine xe rfl rfl ?_
     intro ct hC0
     replace h1 := (h1.gr hC).gr an
     replace ai := (ai.gr hC).gr an
     replace hst := (hst.grow hC).grow an
     have hC : Grow bm b6 bm ct := .of_below hC0.below
     replace a5 := a5.gr hC
     replace a6 := a6.gr hC
     have cu := Has.join (Has.joinL (rd_bool ae.1.1.1) a5.has) a6.has (by decide) (by decide)
     replace ao := ao.gr hC
     replace ao := ao.recol 5 4 (by decide)
     replace h1 := h1.gr hC
     replace h1 := h1.recol 5 4 (by decide)
     replace ag := (ag.gr an).gr hC
     replace ag := ag.recol 5 4 (by decide)
     replace ah := (ah.gr an).gr hC
     replace ah := ah.recol 5 4 (by decide)
     replace ai := ai.gr hC
     replace ai := ai.recol 5 4 (by decide)
     replace hst := hst.grow hC
     replace hst := hst.recol 5 4 (by decide) (by decide)
     obtain ⟨a7, bb, hm⟩ := bS hm
     have bb : a7 = am.set (Int.toNat aj) ((ae.1.1.1, ae.1.1.2), ae.1.2) := (Option.some.inj bb).symm
     refine l_storeM (x1 := ((ae.1.1.1, ae.1.1.2), ae.1.2)) (v := (.agg #[(.bool ae.1.1.1), (.slice bt ae.1.1.2.length bu), (.slice bv ae.1.2.length bw)])) ao bn rfl Tryz.sizeOf40 cu rfl rfl (by decide) ?_
     intro b7 bc bd bo
     rw [← bb] at bo
     clear a5
     clear a6
     have b8 : a7.length = ak.length := (show am.length = a7.length by rw [bb, List.length_set]).symm.trans b0
     refine .ld (d := 0) (v := (.slice a0 a7.length cap0)) (congrArg (fun n => Value.slice a0 n cap0) (show am.length = a7.length by rw [bb, List.length_set])) ?_
     clear ao
     refine lN ⟨fun w' => Grow bc b7 bc w', Grow.refl _ _, fun h => absurd h (by decide), ?_⟩
     refine xnil ?_
     intro cv hC
     replace hC : Grow bc b7 bc cv := .of_below hC.below
     refine wR <| lM (.int .i64 aj) <| lV (.int .i64 (IntKind.i64.wrap (aj + 1))) (r_add aj 1 rfl rfl) <| lA (.int .i64 (IntKind.i64.wrap (aj + 1))) <| lN ?_
     replace h1 := (h1.kpp bd).gr hC
     replace ag := (ag.kpp bd).gr hC
     replace ah := (ah.kpp bd).gr hC
     replace ai := (ai.kpp bd).gr hC
     replace hst := (hst.kpp bd).grow hC
     replace bo := bo.gr hC
     exact ⟨az, by omega, ⟨bc, a7, (IntKind.i64.wrap (aj + 1)), az, rfl, hm, hst, bo, b8, h1, ag, ah, ai, b8, rfl, rfl, rfl, rfl, rfl, rfl, rfl⟩⟩
    rw [if_neg (by rw [hb]; decide)] at hm
    clear hb
    refine wexit (inB_hit ?_)
    exact ⟨af, am, hm, hst, ao, b0, h1, ck, rfl, rfl, rfl, rfl, rfl⟩
  rw [if_neg (by rw [hb]; decide)] at hm
  clear hb
  refine wexit (inB_hit ?_)
  cases hm
  exact ⟨rfl, colFL w0.heap.size [qc0] col a2 (fun n => bif Nat.beq n 440 then qc0 else 0), rfl, hst.finL rfl (fun n => bif Nat.beq n 440 then qc0 else 0), hst.finOwnL (g := (fun n => bif Nat.beq n 440 then qc0 else 0)) rfl bf (by decide) (by decide) rfl, bx⟩

end Go.Proofs.YtonkjfnjadofpaaGreat
