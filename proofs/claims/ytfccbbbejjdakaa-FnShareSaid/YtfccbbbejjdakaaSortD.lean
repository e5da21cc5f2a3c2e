/- slices.stableCmpFunc and slices.SortStableFunc at 60 elements of one cell or fewer: they are sorted, of equals the earlier first. Printed by wip/gen/gen_SortD.py. -/
import Derived.Test.YtfccbbbejjdakaaSortC
import Derived.Test.YtfccbbbejjdakaaShelf
import Derived.LoopN
namespace Go.Proofs.Ytfccbbbejjdakaa
open Go.Shelf Go.RowKit Go.Lib Go.Sort Go.Proofs
variable {α : Type} [Inhabited α]

def Seg (B : α → α → Prop) (a b : Nat) (d d' : Array α) : Prop := Srt B a b d' ∧ ∀ i, a ≤ i → i < b → ∃ j, a ≤ j ∧ j < b ∧ d'[i]! = d[j]!
def Raw (a : Nat) (d d' : Array α) : Prop := d'.size = d.size ∧ ∀ i, a ≤ i → i < d.size → d'[i]! = d[i]!
variable {B V : α → α → Prop}

theorem Raw.refl (d : Array α) : Raw 0 d d := ⟨rfl, fun _ _ _ => rfl⟩
theorem Raw.ins {a b : Nat} {d dk d' : Array α} (R : Raw a d dk) (hab : a ≤ b) (h : Within a b dk d') : Raw b d d' :=
  ⟨h.1.trans R.1, fun i x1 x2 => (h.2.1 i (by rw [R.1]; exact x2) (Or.inr x1)).trans (R.2 i (by omega) x2)⟩
theorem Seg.ins {a b : Nat} {d dk d' : Array α} (R : Raw a d dk) (hb : b ≤ d.size) (h : Srt B a b d' ∧ Within a b dk d') : Seg B a b d d' := by
  refine ⟨h.1, fun i x1 x2 => ?_⟩
  obtain ⟨j, j1, j2, e⟩ := h.2.2.2 i x1 x2
  exact ⟨j, j1, j2, e.trans (R.2 j j1 (by omega))⟩
theorem Seg.keep {a b x y : Nat} {d dk d' : Array α} (S : Seg B x y d dk) (h : Within a b dk d') (hy : y ≤ dk.size) (ho : y ≤ a ∨ b ≤ x) : Seg B x y d d' := by
  have e : ∀ i, x ≤ i → i < y → d'[i]! = dk[i]! := fun i x1 x2 => h.2.1 i (by omega) (by omega)
  refine ⟨S.1.of_eq e, fun i x1 x2 => ?_⟩
  obtain ⟨j, j1, j2, q⟩ := S.2 i x1 x2
  exact ⟨j, j1, j2, (e i x1 x2).trans q⟩
theorem Seg.merge {a m b : Nat} {d dk d' : Array α} (S1 : Seg B a m d dk) (S2 : Seg B m b d dk) (ham : a ≤ m) (hmb : m ≤ b) (h : Srt B a b d' ∧ Within a b dk d') : Seg B a b d d' := by
  refine ⟨h.1, fun i x1 x2 => ?_⟩
  obtain ⟨j, j1, j2, e⟩ := h.2.2.2 i x1 x2
  by_cases c : j < m
  · obtain ⟨k, k1, k2, e'⟩ := S1.2 j j1 c
    exact ⟨k, k1, by omega, e.trans e'⟩
  · obtain ⟨k, k1, k2, e'⟩ := S2.2 j (by omega) j2
    exact ⟨k, by omega, k2, e.trans e'⟩
theorem Seg.ahead {a m b : Nat} {d dk : Array α} (S1 : Seg B a m d dk) (S2 : Seg B m b d dk) (hV : ∀ i j, i < j → j < d.size → V d[i]! d[j]!) (hb : b ≤ d.size) : Ahead V a m b dk := by
  intro i j x1 x2 x3 x4
  obtain ⟨i', i1, i2, e1⟩ := S1.2 i x1 x2
  obtain ⟨j', j1, j2, e2⟩ := S2.2 j x3 x4
  rw [e1, e2]; exact hV i' j' (by omega) (by omega)

theorem ins_s (enc : α → Value) (cf : α → α → Int) (g : Nat) (cb : Array Value) (B V : α → α → Prop) (O : Ord B V (ltOf cf)) (blk off cap : Nat) (d0 : Array α) (w0 : World) (eg : ∀ args w, (callFunc g args).run Try.prog w = .ok (.enter g args) w) (hcmp : CmpLays1 Try.prog g cb enc cf blk off d0.size w0) (R : Row1 enc w0 blk off d0) (hsz : d0.size < 2305843009213693952) (hV : ∀ i j, i < j → j < d0.size → V d0[i]! d0[j]!) (d : Array α) (w : World) (ia ib : Int) (a b : Nat) (ha : ia = (a : Int)) (hb0 : ib = (b : Int)) (S : SW enc w0 blk off d w) (hR : Raw a d0 d) (hab : a ≤ b) (hb : b ≤ d0.size) :
    Calls Try.prog 33 #[.slice (some ⟨blk, off, none⟩) d0.size cap, .int .i64 ia, .int .i64 ib, .func (.func g) #[] cb] w fun e w' => e = .returned (.tuple #[]) ∧ ∃ d', (Srt B a b d' ∧ Within a b d d') ∧ SW enc w0 blk off d' w' := by
  subst ha hb0
  have h := Try.insertionSortCmpFunc_s enc cf g cb blk off cap a b d0 d w0 w eg hcmp R hR.1.symm S hab (by rw [hR.1]; exact hb) (by rw [hR.1]; omega)
  rw [hR.1] at h
  refine h.mono ?_
  rintro e w' ⟨rfl, h'⟩
  exact ⟨rfl, _, insertion_ok O hab (by rw [hR.1]; exact hb) (fun i j x1 x2 x3 => by rw [hR.2 i x1 (by omega), hR.2 j (by omega) (by omega)]; exact hV i j x2 (by omega)), h'⟩

theorem mrg_s (enc : α → Value) (cf : α → α → Int) (g : Nat) (cb : Array Value) (B V : α → α → Prop) (O : Ord B V (ltOf cf)) (blk off cap : Nat) (d0 : Array α) (w0 : World) (eg : ∀ args w, (callFunc g args).run Try.prog w = .ok (.enter g args) w) (hcmp : CmpLays1 Try.prog g cb enc cf blk off d0.size w0) (R : Row1 enc w0 blk off d0) (hsz : d0.size < 2305843009213693952) (hV : ∀ i j, i < j → j < d0.size → V d0[i]! d0[j]!) (d : Array α) (w : World) (ia im ib : Int) (a m b : Nat) (ha : ia = (a : Int)) (hm0 : im = (m : Int)) (hb0 : ib = (b : Int)) (S : SW enc w0 blk off d w) (hs : d.size = d0.size) (ham : a < m) (hmb : m < b) (hb : b ≤ d0.size) (S1 : Seg B a m d0 d) (S2 : Seg B m b d0 d) :
    Calls Try.prog 34 #[.slice (some ⟨blk, off, none⟩) d0.size cap, .int .i64 ia, .int .i64 im, .int .i64 ib, .func (.func g) #[] cb] w fun e w' => e = .returned (.tuple #[]) ∧ ∃ d', (Srt B a b d' ∧ Within a b d d') ∧ SW enc w0 blk off d' w' := by
  subst ha hm0 hb0
  refine (symMerge_s enc cf g cb B V O blk off cap d0 w0 eg hcmp R hsz (b - a) a m b d w rfl S hs ham hmb hb S1.1 S2.1 (S1.ahead S2 hV hb)).mono ?_
  rintro e w' ⟨rfl, d', h1, h2, h3⟩
  exact ⟨rfl, d', ⟨h1, h2⟩, h3⟩

set_option maxHeartbeats 16000000 in
set_option maxRecDepth 1000000 in
theorem stable_A (enc : α → Value) (cf : α → α → Int) (g : Nat) (cb : Array Value) (B V : α → α → Prop) (O : Ord B V (ltOf cf)) (blk off cap : Nat) (d0 : Array α) (w0 : World) (eg : ∀ args w, (callFunc g args).run Try.prog w = .ok (.enter g args) w) (hcmp : CmpLays1 Try.prog g cb enc cf blk off d0.size w0) (R : Row1 enc w0 blk off d0) (hsz : d0.size < 2305843009213693952) (hV : ∀ i j, i < j → j < d0.size → V d0[i]! d0[j]!) (w : World) (S : SW enc w0 blk off d0 w) (hn : d0.size < 20) :
    Calls Try.prog 30 #[.slice (some ⟨blk, off, none⟩) d0.size cap, .int .i64 d0.size, .func (.func g) #[] cb] w fun e w' => e = .returned (.tuple #[]) ∧ ∃ d', Srt B 0 d0.size d' ∧ d'.size = d0.size ∧ SW enc w0 blk off d' w' := by
  have mixed : Try.prog.follows .mixedOrders = true := by kernel_rfl
  have HV : Aside _ := hV
  have HC : Aside _ := hcmp
  have l20 : ¬ (20 : Int) ≤ (d0.size : Int) := by omega
  have s20 : ¬ (20 : Int) < (d0.size : Int) := by omega
  have l40 : ¬ (40 : Int) ≤ (d0.size : Int) := by omega
  have s40 : ¬ (40 : Int) < (d0.size : Int) := by omega
  have l60 : ¬ (60 : Int) ≤ (d0.size : Int) := by omega
  have s60 : ¬ (60 : Int) < (d0.size : Int) := by omega
  have l80 : ¬ (80 : Int) ≤ (d0.size : Int) := by omega
  have s80 : ¬ (80 : Int) < (d0.size : Int) := by omega
  have z1 : d0.size ≤ 60 := by omega
  have z2 : 0 ≤ d0.size := by omega
  have z3 : d0.size ≤ 19 := by omega
  clear hn
  have HR0 : Aside (Raw 0 d0 d0) := Raw.refl d0
  have S0 : Aside (SW enc w0 blk off d0 w) := S
  clear S hV hcmp
  go_enter Try.func30, Try.ntmps30
  go_wp2
  refine wp_loop_rounds 5 ?_
  rw [rounds_succ]
  go_wp2_with fail
  refine (ins_s enc cf g cb B V O blk off cap d0 w0 eg HC.out R hsz HV.out d0 w _ _ 0 d0.size (by omega) (by omega) S0.out HR0.out (by omega) (by omega)).mono ?_
  rintro e_ w1_ ⟨rfl, d1_, hd_, hS_⟩
  have S1 : Aside (SW enc w0 blk off d1_ w1_) := hS_
  have hz1 : d1_.size = d0.size := by have := hd_.2.1; first | exact this.trans HR0.out.1 | exact this.trans hz0 | exact this
  have G1_0_n : Aside (Seg B 0 d0.size d0 d1_) := Seg.ins HR0.out (by omega) hd_
  have HR1 : Aside (Raw d0.size d0 d1_) := HR0.out.ins (by omega) hd_.2
  clear hd_ hS_ S0
  go_wp2
  refine wp_loop_rounds 4 ?_
  rw [rounds_succ]
  go_wp2
  go_end0
  exact ⟨rfl, d1_, G1_0_n.out.1, hz1, S1.out⟩

set_option maxHeartbeats 16000000 in
set_option maxRecDepth 1000000 in
theorem stable_B (enc : α → Value) (cf : α → α → Int) (g : Nat) (cb : Array Value) (B V : α → α → Prop) (O : Ord B V (ltOf cf)) (blk off cap : Nat) (d0 : Array α) (w0 : World) (eg : ∀ args w, (callFunc g args).run Try.prog w = .ok (.enter g args) w) (hcmp : CmpLays1 Try.prog g cb enc cf blk off d0.size w0) (R : Row1 enc w0 blk off d0) (hsz : d0.size < 2305843009213693952) (hV : ∀ i j, i < j → j < d0.size → V d0[i]! d0[j]!) (w : World) (S : SW enc w0 blk off d0 w) (hn : d0.size = 20) :
    Calls Try.prog 30 #[.slice (some ⟨blk, off, none⟩) d0.size cap, .int .i64 d0.size, .func (.func g) #[] cb] w fun e w' => e = .returned (.tuple #[]) ∧ ∃ d', Srt B 0 d0.size d' ∧ d'.size = d0.size ∧ SW enc w0 blk off d' w' := by
  have mixed : Try.prog.follows .mixedOrders = true := by kernel_rfl
  have HV : Aside _ := hV
  have HC : Aside _ := hcmp
  have l20 : (20 : Int) ≤ (d0.size : Int) := by omega
  have s20 : ¬ (20 : Int) < (d0.size : Int) := by omega
  have l40 : ¬ (40 : Int) ≤ (d0.size : Int) := by omega
  have s40 : ¬ (40 : Int) < (d0.size : Int) := by omega
  have l60 : ¬ (60 : Int) ≤ (d0.size : Int) := by omega
  have s60 : ¬ (60 : Int) < (d0.size : Int) := by omega
  have l80 : ¬ (80 : Int) ≤ (d0.size : Int) := by omega
  have s80 : ¬ (80 : Int) < (d0.size : Int) := by omega
  have z1 : d0.size ≤ 60 := by omega
  have z2 : 20 ≤ d0.size := by omega
  have z3 : d0.size ≤ 20 := by omega
  have HN : Aside (d0.size = 20) := hn
  clear hn
  have HR0 : Aside (Raw 0 d0 d0) := Raw.refl d0
  have S0 : Aside (SW enc w0 blk off d0 w) := S
  clear S hV hcmp
  go_enter Try.func30, Try.ntmps30
  go_wp2
  refine wp_loop_rounds 5 ?_
  rw [rounds_succ]
  go_wp2_with fail
  refine (ins_s enc cf g cb B V O blk off cap d0 w0 eg HC.out R hsz HV.out d0 w _ _ 0 20 (by omega) (by omega) S0.out HR0.out (by omega) (by omega)).mono ?_
  rintro e_ w1_ ⟨rfl, d1_, hd_, hS_⟩
  have S1 : Aside (SW enc w0 blk off d1_ w1_) := hS_
  have hz1 : d1_.size = d0.size := by have := hd_.2.1; first | exact this.trans HR0.out.1 | exact this.trans hz0 | exact this
  have G1_0_20 : Aside (Seg B 0 20 d0 d1_) := Seg.ins HR0.out (by omega) hd_
  have HR1 : Aside (Raw 20 d0 d1_) := HR0.out.ins (by omega) hd_.2
  clear hd_ hS_ S0
  go_wp2
  rw [rounds_succ]
  go_wp2_with fail
  refine (ins_s enc cf g cb B V O blk off cap d0 w0 eg HC.out R hsz HV.out d1_ w1_ _ _ 20 d0.size (by omega) (by omega) S1.out HR1.out (by omega) (by omega)).mono ?_
  rintro e_ w2_ ⟨rfl, d2_, hd_, hS_⟩
  have S2 : Aside (SW enc w0 blk off d2_ w2_) := hS_
  have hz2 : d2_.size = d0.size := by have := hd_.2.1; first | exact this.trans HR1.out.1 | exact this.trans hz1 | exact this
  have G2_0_20 : Aside (Seg B 0 20 d0 d2_) := G1_0_20.out.keep hd_.2 (by omega) (by omega)
  have G2_20_n : Aside (Seg B 20 d0.size d0 d2_) := Seg.ins HR1.out (by omega) hd_
  have HR2 : Aside (Raw d0.size d0 d2_) := HR1.out.ins (by omega) hd_.2
  clear hd_ hS_ S1
  go_wp2
  refine wp_loop_rounds 4 ?_
  rw [rounds_succ]
  go_wp2
  go_end0
  exact ⟨rfl, d2_, by first | exact G2_0_20.out.1 | (have q := G2_0_20.out.1; rw [HN.out]; exact q), hz2, S2.out⟩

set_option maxHeartbeats 16000000 in
set_option maxRecDepth 1000000 in
theorem stable_C (enc : α → Value) (cf : α → α → Int) (g : Nat) (cb : Array Value) (B V : α → α → Prop) (O : Ord B V (ltOf cf)) (blk off cap : Nat) (d0 : Array α) (w0 : World) (eg : ∀ args w, (callFunc g args).run Try.prog w = .ok (.enter g args) w) (hcmp : CmpLays1 Try.prog g cb enc cf blk off d0.size w0) (R : Row1 enc w0 blk off d0) (hsz : d0.size < 2305843009213693952) (hV : ∀ i j, i < j → j < d0.size → V d0[i]! d0[j]!) (w : World) (S : SW enc w0 blk off d0 w) (hn : 20 < d0.size ∧ d0.size < 40) :
    Calls Try.prog 30 #[.slice (some ⟨blk, off, none⟩) d0.size cap, .int .i64 d0.size, .func (.func g) #[] cb] w fun e w' => e = .returned (.tuple #[]) ∧ ∃ d', Srt B 0 d0.size d' ∧ d'.size = d0.size ∧ SW enc w0 blk off d' w' := by
  have mixed : Try.prog.follows .mixedOrders = true := by kernel_rfl
  have HV : Aside _ := hV
  have HC : Aside _ := hcmp
  have l20 : (20 : Int) ≤ (d0.size : Int) := by omega
  have s20 : (20 : Int) < (d0.size : Int) := by omega
  have l40 : ¬ (40 : Int) ≤ (d0.size : Int) := by omega
  have s40 : ¬ (40 : Int) < (d0.size : Int) := by omega
  have l60 : ¬ (60 : Int) ≤ (d0.size : Int) := by omega
  have s60 : ¬ (60 : Int) < (d0.size : Int) := by omega
  have l80 : ¬ (80 : Int) ≤ (d0.size : Int) := by omega
  have s80 : ¬ (80 : Int) < (d0.size : Int) := by omega
  have z1 : d0.size ≤ 60 := by omega
  have z2 : 20 ≤ d0.size := by omega
  have z3 : d0.size ≤ 39 := by omega
  clear hn
  have HR0 : Aside (Raw 0 d0 d0) := Raw.refl d0
  have S0 : Aside (SW enc w0 blk off d0 w) := S
  clear S hV hcmp
  go_enter Try.func30, Try.ntmps30
  go_wp2
  refine wp_loop_rounds 5 ?_
  rw [rounds_succ]
  go_wp2_with fail
  refine (ins_s enc cf g cb B V O blk off cap d0 w0 eg HC.out R hsz HV.out d0 w _ _ 0 20 (by omega) (by omega) S0.out HR0.out (by omega) (by omega)).mono ?_
  rintro e_ w1_ ⟨rfl, d1_, hd_, hS_⟩
  have S1 : Aside (SW enc w0 blk off d1_ w1_) := hS_
  have hz1 : d1_.size = d0.size := by have := hd_.2.1; first | exact this.trans HR0.out.1 | exact this.trans hz0 | exact this
  have G1_0_20 : Aside (Seg B 0 20 d0 d1_) := Seg.ins HR0.out (by omega) hd_
  have HR1 : Aside (Raw 20 d0 d1_) := HR0.out.ins (by omega) hd_.2
  clear hd_ hS_ S0
  go_wp2
  rw [rounds_succ]
  go_wp2_with fail
  refine (ins_s enc cf g cb B V O blk off cap d0 w0 eg HC.out R hsz HV.out d1_ w1_ _ _ 20 d0.size (by omega) (by omega) S1.out HR1.out (by omega) (by omega)).mono ?_
  rintro e_ w2_ ⟨rfl, d2_, hd_, hS_⟩
  have S2 : Aside (SW enc w0 blk off d2_ w2_) := hS_
  have hz2 : d2_.size = d0.size := by have := hd_.2.1; first | exact this.trans HR1.out.1 | exact this.trans hz1 | exact this
  have G2_0_20 : Aside (Seg B 0 20 d0 d2_) := G1_0_20.out.keep hd_.2 (by omega) (by omega)
  have G2_20_n : Aside (Seg B 20 d0.size d0 d2_) := Seg.ins HR1.out (by omega) hd_
  have HR2 : Aside (Raw d0.size d0 d2_) := HR1.out.ins (by omega) hd_.2
  clear hd_ hS_ S1
  go_wp2
  refine wp_loop_rounds 4 ?_
  rw [rounds_succ]
  go_wp2
  refine wp_loop_rounds 3 ?_
  rw [rounds_succ]
  go_wp2_with fail
  refine (mrg_s enc cf g cb B V O blk off cap d0 w0 eg HC.out R hsz HV.out d2_ w2_ _ _ _ 0 20 d0.size (by omega) (by omega) (by omega) S2.out hz2 (by omega) (by omega) (by omega) G2_0_20.out G2_20_n.out).mono ?_
  rintro e_ w3_ ⟨rfl, d3_, hd_, hS_⟩
  have S3 : Aside (SW enc w0 blk off d3_ w3_) := hS_
  have hz3 : d3_.size = d0.size := by have := hd_.2.1; first | exact this.trans HR2.out.1 | exact this.trans hz2 | exact this
  have G3_0_n : Aside (Seg B 0 d0.size d0 d3_) := Seg.merge G2_0_20.out G2_20_n.out (by omega) (by omega) hd_
  clear hd_ hS_ S2
  go_wp2
  rw [rounds_succ]
  go_wp2
  go_end0
  exact ⟨rfl, d3_, G3_0_n.out.1, hz3, S3.out⟩

set_option maxHeartbeats 16000000 in
set_option maxRecDepth 1000000 in
theorem stable_D (enc : α → Value) (cf : α → α → Int) (g : Nat) (cb : Array Value) (B V : α → α → Prop) (O : Ord B V (ltOf cf)) (blk off cap : Nat) (d0 : Array α) (w0 : World) (eg : ∀ args w, (callFunc g args).run Try.prog w = .ok (.enter g args) w) (hcmp : CmpLays1 Try.prog g cb enc cf blk off d0.size w0) (R : Row1 enc w0 blk off d0) (hsz : d0.size < 2305843009213693952) (hV : ∀ i j, i < j → j < d0.size → V d0[i]! d0[j]!) (w : World) (S : SW enc w0 blk off d0 w) (hn : d0.size = 40) :
    Calls Try.prog 30 #[.slice (some ⟨blk, off, none⟩) d0.size cap, .int .i64 d0.size, .func (.func g) #[] cb] w fun e w' => e = .returned (.tuple #[]) ∧ ∃ d', Srt B 0 d0.size d' ∧ d'.size = d0.size ∧ SW enc w0 blk off d' w' := by
  have mixed : Try.prog.follows .mixedOrders = true := by kernel_rfl
  have HV : Aside _ := hV
  have HC : Aside _ := hcmp
  have l20 : (20 : Int) ≤ (d0.size : Int) := by omega
  have s20 : (20 : Int) < (d0.size : Int) := by omega
  have l40 : (40 : Int) ≤ (d0.size : Int) := by omega
  have s40 : ¬ (40 : Int) < (d0.size : Int) := by omega
  have l60 : ¬ (60 : Int) ≤ (d0.size : Int) := by omega
  have s60 : ¬ (60 : Int) < (d0.size : Int) := by omega
  have l80 : ¬ (80 : Int) ≤ (d0.size : Int) := by omega
  have s80 : ¬ (80 : Int) < (d0.size : Int) := by omega
  have z1 : d0.size ≤ 60 := by omega
  have z2 : 40 ≤ d0.size := by omega
  have z3 : d0.size ≤ 40 := by omega
  have HN : Aside (d0.size = 40) := hn
  clear hn
  have HR0 : Aside (Raw 0 d0 d0) := Raw.refl d0
  have S0 : Aside (SW enc w0 blk off d0 w) := S
  clear S hV hcmp
  go_enter Try.func30, Try.ntmps30
  go_wp2
  refine wp_loop_rounds 5 ?_
  rw [rounds_succ]
  go_wp2_with fail
  refine (ins_s enc cf g cb B V O blk off cap d0 w0 eg HC.out R hsz HV.out d0 w _ _ 0 20 (by omega) (by omega) S0.out HR0.out (by omega) (by omega)).mono ?_
  rintro e_ w1_ ⟨rfl, d1_, hd_, hS_⟩
  have S1 : Aside (SW enc w0 blk off d1_ w1_) := hS_
  have hz1 : d1_.size = d0.size := by have := hd_.2.1; first | exact this.trans HR0.out.1 | exact this.trans hz0 | exact this
  have G1_0_20 : Aside (Seg B 0 20 d0 d1_) := Seg.ins HR0.out (by omega) hd_
  have HR1 : Aside (Raw 20 d0 d1_) := HR0.out.ins (by omega) hd_.2
  clear hd_ hS_ S0
  go_wp2
  rw [rounds_succ]
  go_wp2_with fail
  refine (ins_s enc cf g cb B V O blk off cap d0 w0 eg HC.out R hsz HV.out d1_ w1_ _ _ 20 40 (by omega) (by omega) S1.out HR1.out (by omega) (by omega)).mono ?_
  rintro e_ w2_ ⟨rfl, d2_, hd_, hS_⟩
  have S2 : Aside (SW enc w0 blk off d2_ w2_) := hS_
  have hz2 : d2_.size = d0.size := by have := hd_.2.1; first | exact this.trans HR1.out.1 | exact this.trans hz1 | exact this
  have G2_0_20 : Aside (Seg B 0 20 d0 d2_) := G1_0_20.out.keep hd_.2 (by omega) (by omega)
  have G2_20_40 : Aside (Seg B 20 40 d0 d2_) := Seg.ins HR1.out (by omega) hd_
  have HR2 : Aside (Raw 40 d0 d2_) := HR1.out.ins (by omega) hd_.2
  clear hd_ hS_ S1
  go_wp2
  rw [rounds_succ]
  go_wp2_with fail
  refine (ins_s enc cf g cb B V O blk off cap d0 w0 eg HC.out R hsz HV.out d2_ w2_ _ _ 40 d0.size (by omega) (by omega) S2.out HR2.out (by omega) (by omega)).mono ?_
  rintro e_ w3_ ⟨rfl, d3_, hd_, hS_⟩
  have S3 : Aside (SW enc w0 blk off d3_ w3_) := hS_
  have hz3 : d3_.size = d0.size := by have := hd_.2.1; first | exact this.trans HR2.out.1 | exact this.trans hz2 | exact this
  have G3_0_20 : Aside (Seg B 0 20 d0 d3_) := G2_0_20.out.keep hd_.2 (by omega) (by omega)
  have G3_20_40 : Aside (Seg B 20 40 d0 d3_) := G2_20_40.out.keep hd_.2 (by omega) (by omega)
  have G3_40_n : Aside (Seg B 40 d0.size d0 d3_) := Seg.ins HR2.out (by omega) hd_
  have HR3 : Aside (Raw d0.size d0 d3_) := HR2.out.ins (by omega) hd_.2
  clear hd_ hS_ S2
  go_wp2
  refine wp_loop_rounds 4 ?_
  rw [rounds_succ]
  go_wp2
  refine wp_loop_rounds 3 ?_
  rw [rounds_succ]
  go_wp2_with fail
  refine (mrg_s enc cf g cb B V O blk off cap d0 w0 eg HC.out R hsz HV.out d3_ w3_ _ _ _ 0 20 40 (by omega) (by omega) (by omega) S3.out hz3 (by omega) (by omega) (by omega) G3_0_20.out G3_20_40.out).mono ?_
  rintro e_ w4_ ⟨rfl, d4_, hd_, hS_⟩
  have S4 : Aside (SW enc w0 blk off d4_ w4_) := hS_
  have hz4 : d4_.size = d0.size := by have := hd_.2.1; first | exact this.trans HR3.out.1 | exact this.trans hz3 | exact this
  have G4_40_n : Aside (Seg B 40 d0.size d0 d4_) := G3_40_n.out.keep hd_.2 (by omega) (by omega)
  have G4_0_40 : Aside (Seg B 0 40 d0 d4_) := Seg.merge G3_0_20.out G3_20_40.out (by omega) (by omega) hd_
  clear hd_ hS_ S3
  go_wp2
  rw [rounds_succ]
  go_wp2
  rw [rounds_succ]
  go_wp2
  go_end0
  exact ⟨rfl, d4_, by first | exact G4_0_40.out.1 | (have q := G4_0_40.out.1; rw [HN.out]; exact q), hz4, S4.out⟩

set_option maxHeartbeats 16000000 in
set_option maxRecDepth 1000000 in
theorem stable_E (enc : α → Value) (cf : α → α → Int) (g : Nat) (cb : Array Value) (B V : α → α → Prop) (O : Ord B V (ltOf cf)) (blk off cap : Nat) (d0 : Array α) (w0 : World) (eg : ∀ args w, (callFunc g args).run Try.prog w = .ok (.enter g args) w) (hcmp : CmpLays1 Try.prog g cb enc cf blk off d0.size w0) (R : Row1 enc w0 blk off d0) (hsz : d0.size < 2305843009213693952) (hV : ∀ i j, i < j → j < d0.size → V d0[i]! d0[j]!) (w : World) (S : SW enc w0 blk off d0 w) (hn : 40 < d0.size ∧ d0.size < 60) :
    Calls Try.prog 30 #[.slice (some ⟨blk, off, none⟩) d0.size cap, .int .i64 d0.size, .func (.func g) #[] cb] w fun e w' => e = .returned (.tuple #[]) ∧ ∃ d', Srt B 0 d0.size d' ∧ d'.size = d0.size ∧ SW enc w0 blk off d' w' := by
  have mixed : Try.prog.follows .mixedOrders = true := by kernel_rfl
  have HV : Aside _ := hV
  have HC : Aside _ := hcmp
  have l20 : (20 : Int) ≤ (d0.size : Int) := by omega
  have s20 : (20 : Int) < (d0.size : Int) := by omega
  have l40 : (40 : Int) ≤ (d0.size : Int) := by omega
  have s40 : (40 : Int) < (d0.size : Int) := by omega
  have l60 : ¬ (60 : Int) ≤ (d0.size : Int) := by omega
  have s60 : ¬ (60 : Int) < (d0.size : Int) := by omega
  have l80 : ¬ (80 : Int) ≤ (d0.size : Int) := by omega
  have s80 : ¬ (80 : Int) < (d0.size : Int) := by omega
  have z1 : d0.size ≤ 60 := by omega
  have z2 : 40 ≤ d0.size := by omega
  have z3 : d0.size ≤ 59 := by omega
  clear hn
  have HR0 : Aside (Raw 0 d0 d0) := Raw.refl d0
  have S0 : Aside (SW enc w0 blk off d0 w) := S
  clear S hV hcmp
  go_enter Try.func30, Try.ntmps30
  go_wp2
  refine wp_loop_rounds 5 ?_
  rw [rounds_succ]
  go_wp2_with fail
  refine (ins_s enc cf g cb B V O blk off cap d0 w0 eg HC.out R hsz HV.out d0 w _ _ 0 20 (by omega) (by omega) S0.out HR0.out (by omega) (by omega)).mono ?_
  rintro e_ w1_ ⟨rfl, d1_, hd_, hS_⟩
  have S1 : Aside (SW enc w0 blk off d1_ w1_) := hS_
  have hz1 : d1_.size = d0.size := by have := hd_.2.1; first | exact this.trans HR0.out.1 | exact this.trans hz0 | exact this
  have G1_0_20 : Aside (Seg B 0 20 d0 d1_) := Seg.ins HR0.out (by omega) hd_
  have HR1 : Aside (Raw 20 d0 d1_) := HR0.out.ins (by omega) hd_.2
  clear hd_ hS_ S0
  go_wp2
  rw [rounds_succ]
  go_wp2_with fail
  refine (ins_s enc cf g cb B V O blk off cap d0 w0 eg HC.out R hsz HV.out d1_ w1_ _ _ 20 40 (by omega) (by omega) S1.out HR1.out (by omega) (by omega)).mono ?_
  rintro e_ w2_ ⟨rfl, d2_, hd_, hS_⟩
  have S2 : Aside (SW enc w0 blk off d2_ w2_) := hS_
  have hz2 : d2_.size = d0.size := by have := hd_.2.1; first | exact this.trans HR1.out.1 | exact this.trans hz1 | exact this
  have G2_0_20 : Aside (Seg B 0 20 d0 d2_) := G1_0_20.out.keep hd_.2 (by omega) (by omega)
  have G2_20_40 : Aside (Seg B 20 40 d0 d2_) := Seg.ins HR1.out (by omega) hd_
  have HR2 : Aside (Raw 40 d0 d2_) := HR1.out.ins (by omega) hd_.2
  clear hd_ hS_ S1
  go_wp2
  rw [rounds_succ]
  go_wp2_with fail
  refine (ins_s enc cf g cb B V O blk off cap d0 w0 eg HC.out R hsz HV.out d2_ w2_ _ _ 40 d0.size (by omega) (by omega) S2.out HR2.out (by omega) (by omega)).mono ?_
  rintro e_ w3_ ⟨rfl, d3_, hd_, hS_⟩
  have S3 : Aside (SW enc w0 blk off d3_ w3_) := hS_
  have hz3 : d3_.size = d0.size := by have := hd_.2.1; first | exact this.trans HR2.out.1 | exact this.trans hz2 | exact this
  have G3_0_20 : Aside (Seg B 0 20 d0 d3_) := G2_0_20.out.keep hd_.2 (by omega) (by omega)
  have G3_20_40 : Aside (Seg B 20 40 d0 d3_) := G2_20_40.out.keep hd_.2 (by omega) (by omega)
  have G3_40_n : Aside (Seg B 40 d0.size d0 d3_) := Seg.ins HR2.out (by omega) hd_
  have HR3 : Aside (Raw d0.size d0 d3_) := HR2.out.ins (by omega) hd_.2
  clear hd_ hS_ S2
  go_wp2
  refine wp_loop_rounds 4 ?_
  rw [rounds_succ]
  go_wp2
  refine wp_loop_rounds 3 ?_
  rw [rounds_succ]
  go_wp2_with fail
  refine (mrg_s enc cf g cb B V O blk off cap d0 w0 eg HC.out R hsz HV.out d3_ w3_ _ _ _ 0 20 40 (by omega) (by omega) (by omega) S3.out hz3 (by omega) (by omega) (by omega) G3_0_20.out G3_20_40.out).mono ?_
  rintro e_ w4_ ⟨rfl, d4_, hd_, hS_⟩
  have S4 : Aside (SW enc w0 blk off d4_ w4_) := hS_
  have hz4 : d4_.size = d0.size := by have := hd_.2.1; first | exact this.trans HR3.out.1 | exact this.trans hz3 | exact this
  have G4_40_n : Aside (Seg B 40 d0.size d0 d4_) := G3_40_n.out.keep hd_.2 (by omega) (by omega)
  have G4_0_40 : Aside (Seg B 0 40 d0 d4_) := Seg.merge G3_0_20.out G3_20_40.out (by omega) (by omega) hd_
  clear hd_ hS_ S3
  go_wp2
  rw [rounds_succ]
  go_wp2
  rw [rounds_succ]
  go_wp2
  refine wp_loop_rounds 3 ?_
  rw [rounds_succ]
  go_wp2_with fail
  refine (mrg_s enc cf g cb B V O blk off cap d0 w0 eg HC.out R hsz HV.out d4_ w4_ _ _ _ 0 40 d0.size (by omega) (by omega) (by omega) S4.out hz4 (by omega) (by omega) (by omega) G4_0_40.out G4_40_n.out).mono ?_
  rintro e_ w5_ ⟨rfl, d5_, hd_, hS_⟩
  have S5 : Aside (SW enc w0 blk off d5_ w5_) := hS_
  have hz5 : d5_.size = d0.size := by have := hd_.2.1; first | exact this.trans HR4.out.1 | exact this.trans hz4 | exact this
  have G5_0_n : Aside (Seg B 0 d0.size d0 d5_) := Seg.merge G4_0_40.out G4_40_n.out (by omega) (by omega) hd_
  clear hd_ hS_ S4
  go_wp2
  rw [rounds_succ]
  go_wp2
  go_end0
  exact ⟨rfl, d5_, G5_0_n.out.1, hz5, S5.out⟩

set_option maxHeartbeats 16000000 in
set_option maxRecDepth 1000000 in
theorem stable_F (enc : α → Value) (cf : α → α → Int) (g : Nat) (cb : Array Value) (B V : α → α → Prop) (O : Ord B V (ltOf cf)) (blk off cap : Nat) (d0 : Array α) (w0 : World) (eg : ∀ args w, (callFunc g args).run Try.prog w = .ok (.enter g args) w) (hcmp : CmpLays1 Try.prog g cb enc cf blk off d0.size w0) (R : Row1 enc w0 blk off d0) (hsz : d0.size < 2305843009213693952) (hV : ∀ i j, i < j → j < d0.size → V d0[i]! d0[j]!) (w : World) (S : SW enc w0 blk off d0 w) (hn : d0.size = 60) :
    Calls Try.prog 30 #[.slice (some ⟨blk, off, none⟩) d0.size cap, .int .i64 d0.size, .func (.func g) #[] cb] w fun e w' => e = .returned (.tuple #[]) ∧ ∃ d', Srt B 0 d0.size d' ∧ d'.size = d0.size ∧ SW enc w0 blk off d' w' := by
  have mixed : Try.prog.follows .mixedOrders = true := by kernel_rfl
  have HV : Aside _ := hV
  have HC : Aside _ := hcmp
  have l20 : (20 : Int) ≤ (d0.size : Int) := by omega
  have s20 : (20 : Int) < (d0.size : Int) := by omega
  have l40 : (40 : Int) ≤ (d0.size : Int) := by omega
  have s40 : (40 : Int) < (d0.size : Int) := by omega
  have l60 : (60 : Int) ≤ (d0.size : Int) := by omega
  have s60 : ¬ (60 : Int) < (d0.size : Int) := by omega
  have l80 : ¬ (80 : Int) ≤ (d0.size : Int) := by omega
  have s80 : ¬ (80 : Int) < (d0.size : Int) := by omega
  have z1 : d0.size ≤ 60 := by omega
  have z2 : 60 ≤ d0.size := by omega
  have z3 : d0.size ≤ 60 := by omega
  have HN : Aside (d0.size = 60) := hn
  clear hn
  have HR0 : Aside (Raw 0 d0 d0) := Raw.refl d0
  have S0 : Aside (SW enc w0 blk off d0 w) := S
  clear S hV hcmp
  go_enter Try.func30, Try.ntmps30
  go_wp2
  refine wp_loop_rounds 5 ?_
  rw [rounds_succ]
  go_wp2_with fail
  refine (ins_s enc cf g cb B V O blk off cap d0 w0 eg HC.out R hsz HV.out d0 w _ _ 0 20 (by omega) (by omega) S0.out HR0.out (by omega) (by omega)).mono ?_
  rintro e_ w1_ ⟨rfl, d1_, hd_, hS_⟩
  have S1 : Aside (SW enc w0 blk off d1_ w1_) := hS_
  have hz1 : d1_.size = d0.size := by have := hd_.2.1; first | exact this.trans HR0.out.1 | exact this.trans hz0 | exact this
  have G1_0_20 : Aside (Seg B 0 20 d0 d1_) := Seg.ins HR0.out (by omega) hd_
  have HR1 : Aside (Raw 20 d0 d1_) := HR0.out.ins (by omega) hd_.2
  clear hd_ hS_ S0
  go_wp2
  rw [rounds_succ]
  go_wp2_with fail
  refine (ins_s enc cf g cb B V O blk off cap d0 w0 eg HC.out R hsz HV.out d1_ w1_ _ _ 20 40 (by omega) (by omega) S1.out HR1.out (by omega) (by omega)).mono ?_
  rintro e_ w2_ ⟨rfl, d2_, hd_, hS_⟩
  have S2 : Aside (SW enc w0 blk off d2_ w2_) := hS_
  have hz2 : d2_.size = d0.size := by have := hd_.2.1; first | exact this.trans HR1.out.1 | exact this.trans hz1 | exact this
  have G2_0_20 : Aside (Seg B 0 20 d0 d2_) := G1_0_20.out.keep hd_.2 (by omega) (by omega)
  have G2_20_40 : Aside (Seg B 20 40 d0 d2_) := Seg.ins HR1.out (by omega) hd_
  have HR2 : Aside (Raw 40 d0 d2_) := HR1.out.ins (by omega) hd_.2
  clear hd_ hS_ S1
  go_wp2
  rw [rounds_succ]
  go_wp2_with fail
  refine (ins_s enc cf g cb B V O blk off cap d0 w0 eg HC.out R hsz HV.out d2_ w2_ _ _ 40 60 (by omega) (by omega) S2.out HR2.out (by omega) (by omega)).mono ?_
  rintro e_ w3_ ⟨rfl, d3_, hd_, hS_⟩
  have S3 : Aside (SW enc w0 blk off d3_ w3_) := hS_
  have hz3 : d3_.size = d0.size := by have := hd_.2.1; first | exact this.trans HR2.out.1 | exact this.trans hz2 | exact this
  have G3_0_20 : Aside (Seg B 0 20 d0 d3_) := G2_0_20.out.keep hd_.2 (by omega) (by omega)
  have G3_20_40 : Aside (Seg B 20 40 d0 d3_) := G2_20_40.out.keep hd_.2 (by omega) (by omega)
  have G3_40_60 : Aside (Seg B 40 60 d0 d3_) := Seg.ins HR2.out (by omega) hd_
  have HR3 : Aside (Raw 60 d0 d3_) := HR2.out.ins (by omega) hd_.2
  clear hd_ hS_ S2
  go_wp2
  rw [rounds_succ]
  go_wp2_with fail
  refine (ins_s enc cf g cb B V O blk off cap d0 w0 eg HC.out R hsz HV.out d3_ w3_ _ _ 60 d0.size (by omega) (by omega) S3.out HR3.out (by omega) (by omega)).mono ?_
  rintro e_ w4_ ⟨rfl, d4_, hd_, hS_⟩
  have S4 : Aside (SW enc w0 blk off d4_ w4_) := hS_
  have hz4 : d4_.size = d0.size := by have := hd_.2.1; first | exact this.trans HR3.out.1 | exact this.trans hz3 | exact this
  have G4_0_20 : Aside (Seg B 0 20 d0 d4_) := G3_0_20.out.keep hd_.2 (by omega) (by omega)
  have G4_20_40 : Aside (Seg B 20 40 d0 d4_) := G3_20_40.out.keep hd_.2 (by omega) (by omega)
  have G4_40_60 : Aside (Seg B 40 60 d0 d4_) := G3_40_60.out.keep hd_.2 (by omega) (by omega)
  have G4_60_n : Aside (Seg B 60 d0.size d0 d4_) := Seg.ins HR3.out (by omega) hd_
  have HR4 : Aside (Raw d0.size d0 d4_) := HR3.out.ins (by omega) hd_.2
  clear hd_ hS_ S3
  go_wp2
  refine wp_loop_rounds 4 ?_
  rw [rounds_succ]
  go_wp2
  refine wp_loop_rounds 3 ?_
  rw [rounds_succ]
  go_wp2_with fail
  refine (mrg_s enc cf g cb B V O blk off cap d0 w0 eg HC.out R hsz HV.out d4_ w4_ _ _ _ 0 20 40 (by omega) (by omega) (by omega) S4.out hz4 (by omega) (by omega) (by omega) G4_0_20.out G4_20_40.out).mono ?_
  rintro e_ w5_ ⟨rfl, d5_, hd_, hS_⟩
  have S5 : Aside (SW enc w0 blk off d5_ w5_) := hS_
  have hz5 : d5_.size = d0.size := by have := hd_.2.1; first | exact this.trans HR4.out.1 | exact this.trans hz4 | exact this
  have G5_40_60 : Aside (Seg B 40 60 d0 d5_) := G4_40_60.out.keep hd_.2 (by omega) (by omega)
  have G5_60_n : Aside (Seg B 60 d0.size d0 d5_) := G4_60_n.out.keep hd_.2 (by omega) (by omega)
  have G5_0_40 : Aside (Seg B 0 40 d0 d5_) := Seg.merge G4_0_20.out G4_20_40.out (by omega) (by omega) hd_
  clear hd_ hS_ S4
  go_wp2
  rw [rounds_succ]
  go_wp2
  rw [rounds_succ]
  go_wp2
  refine wp_loop_rounds 3 ?_
  rw [rounds_succ]
  have G5_40_n : Aside (Seg B 40 d0.size d0 d5_) := (show Seg B 40 d0.size d0 d5_ by rw [HN.out]; exact G5_40_60.out)
  go_wp2_with fail
  refine (mrg_s enc cf g cb B V O blk off cap d0 w0 eg HC.out R hsz HV.out d5_ w5_ _ _ _ 0 40 d0.size (by omega) (by omega) (by omega) S5.out hz5 (by omega) (by omega) (by omega) G5_0_40.out G5_40_n.out).mono ?_
  rintro e_ w6_ ⟨rfl, d6_, hd_, hS_⟩
  have S6 : Aside (SW enc w0 blk off d6_ w6_) := hS_
  have hz6 : d6_.size = d0.size := by have := hd_.2.1; first | exact this.trans HR5.out.1 | exact this.trans hz5 | exact this
  have G6_0_n : Aside (Seg B 0 d0.size d0 d6_) := Seg.merge G5_0_40.out G5_40_n.out (by omega) (by omega) hd_
  clear hd_ hS_ S5
  go_wp2
  rw [rounds_succ]
  go_wp2
  go_end0
  exact ⟨rfl, d6_, G6_0_n.out.1, hz6, S6.out⟩

theorem stable_s (enc : α → Value) (cf : α → α → Int) (g : Nat) (cb : Array Value) (B V : α → α → Prop) (O : Ord B V (ltOf cf)) (blk off cap : Nat) (d0 : Array α) (w0 : World) (eg : ∀ args w, (callFunc g args).run Try.prog w = .ok (.enter g args) w) (hcmp : CmpLays1 Try.prog g cb enc cf blk off d0.size w0) (R : Row1 enc w0 blk off d0) (hsz : d0.size < 2305843009213693952) (hV : ∀ i j, i < j → j < d0.size → V d0[i]! d0[j]!) (w : World) (S : SW enc w0 blk off d0 w) (hn : d0.size ≤ 60) :
    Calls Try.prog 30 #[.slice (some ⟨blk, off, none⟩) d0.size cap, .int .i64 d0.size, .func (.func g) #[] cb] w fun e w' => e = .returned (.tuple #[]) ∧ ∃ d', Srt B 0 d0.size d' ∧ d'.size = d0.size ∧ SW enc w0 blk off d' w' := by
  by_cases hA : d0.size < 20
  · exact stable_A enc cf g cb B V O blk off cap d0 w0 eg hcmp R hsz hV w S hA
  by_cases hB : d0.size = 20
  · exact stable_B enc cf g cb B V O blk off cap d0 w0 eg hcmp R hsz hV w S hB
  by_cases hC : 20 < d0.size ∧ d0.size < 40
  · exact stable_C enc cf g cb B V O blk off cap d0 w0 eg hcmp R hsz hV w S hC
  by_cases hD : d0.size = 40
  · exact stable_D enc cf g cb B V O blk off cap d0 w0 eg hcmp R hsz hV w S hD
  by_cases hE : 40 < d0.size ∧ d0.size < 60
  · exact stable_E enc cf g cb B V O blk off cap d0 w0 eg hcmp R hsz hV w S hE
  exact stable_F enc cf g cb B V O blk off cap d0 w0 eg hcmp R hsz hV w S (by omega)

set_option maxHeartbeats 16000000 in
set_option maxRecDepth 1000000 in
theorem sortStable_s (enc : α → Value) (cf : α → α → Int) (g : Nat) (cb : Array Value) (B V : α → α → Prop) (O : Ord B V (ltOf cf)) (blk off cap : Nat) (d0 : Array α) (w0 : World) (eg : ∀ args w, (callFunc g args).run Try.prog w = .ok (.enter g args) w) (hcmp : CmpLays1 Try.prog g cb enc cf blk off d0.size w0) (R : Row1 enc w0 blk off d0) (hsz : d0.size < 2305843009213693952) (hV : ∀ i j, i < j → j < d0.size → V d0[i]! d0[j]!) (w : World) (S : SW enc w0 blk off d0 w) (hn : d0.size ≤ 60) :
    Calls Try.prog 23 #[.slice (some ⟨blk, off, none⟩) d0.size cap, .func (.func g) #[] cb] w fun e w' => e = .returned (.tuple #[]) ∧ ∃ d', Srt B 0 d0.size d' ∧ d'.size = d0.size ∧ SW enc w0 blk off d' w' := by
  have mixed : Try.prog.follows .mixedOrders = true := by kernel_rfl
  have HC := stable_s enc cf g cb B V O blk off cap d0 w0 eg hcmp R hsz hV w S hn
  clear hV S hcmp
  go_enter Try.func23, Try.ntmps23
  go_wp2_with fail
  refine HC.mono ?_
  rintro e w1 ⟨rfl, d', h1, h2, h3⟩
  go_wp2
  go_end0
  exact ⟨rfl, d', h1, h2, h3⟩

end Go.Proofs.Ytfccbbbejjdakaa
