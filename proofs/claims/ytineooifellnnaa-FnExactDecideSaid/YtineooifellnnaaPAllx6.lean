-- Written by wip/tools/hp.py over the kit's print (not by hand): functions and walks of All.
import Derived.Test.YtineooifellnnaaPAllx0
import Derived.Test.YtineooifellnnaaPAllx3
import Derived.Test.YtineooifellnnaaPAllx4
import Derived.Test.YtineooifellnnaaPAllx5
namespace Go.Proofs.Ytineooifellnnaa.PAll
open Go.RowKit Go.Proofs.YtineooifellnnaaW.PrintWords Go.Proofs.YtineooifellnnaaW.PrintLast Go.Proofs.YtineooifellnnaaW.PrintMore
attribute [local go_sem] max2_int min2_int max_two min_two max_three min_three max_four min_four   -- for this text's walks alone
set_option linter.unusedVariables false
set_option linter.unusedSimpArgs false

/-! ### impl_isIn: function 35, by hand -/
def impl_isIn.go (b : Nat → Int) : List Int → Nat → Option Bool
 | [], _ => some true
 | n :: ns, i => (impl_within.f n (b (2 * i)) (b (2 * i + 1))).bind fun t => if t = true then impl_isIn.go b ns (i + 1) else some false
def impl_isIn.f (a0 a1 a2 a3 a4 : Int) (b : Nat → Int) : Option Bool := impl_isIn.go b [0, a0, a1, a2, a3, a4] 0
set_option maxHeartbeats 8000000 in
set_option maxRecDepth 100000 in
theorem impl_isIn.calls (a0 a1 a2 a3 a4 : Int) (b : Nat → Int) (r : Bool) (w : World) (h : impl_isIn.f a0 a1 a2 a3 a4 b = some r) :
  Calls Try.prog 35 #[.agg #[.int .i64 a0, .int .i64 a1, .int .i64 a2, .int .i64 a3, .int .i64 a4], .agg #[.int .i64 (b 0), .int .i64 (b 1), .int .i64 (b 2), .int .i64 (b 3), .int .i64 (b 4), .int .i64 (b 5), .int .i64 (b 6), .int .i64 (b 7), .int .i64 (b 8), .int .i64 (b 9), .int .i64 (b 10), .int .i64 (b 11)]] w fun e w' => e = .returned (.bool r) ∧ Below w.heap.size w w' := by
 have H := Aside0.mk h
 clear h
 have B2 : Aside0 (Below w.heap.size w ((w.alloc (.cells #[.int .i64 a0, .int .i64 a1, .int .i64 a2, .int .i64 a3, .int .i64 a4] 27)).alloc (.cells #[.int .i64 (b 0), .int .i64 (b 1), .int .i64 (b 2), .int .i64 (b 3), .int .i64 (b 4), .int .i64 (b 5), .int .i64 (b 6), .int .i64 (b 7), .int .i64 (b 8), .int .i64 (b 9), .int .i64 (b 10), .int .i64 (b 11)] 54))) := Aside0.mk (((Below.refl _ w).alloc (Nat.le_refl _) _).alloc (by simp) _)
 have D1 : Aside0 (((w.alloc (.cells #[.int .i64 a0, .int .i64 a1, .int .i64 a2, .int .i64 a3, .int .i64 a4] 27)).alloc (.cells #[.int .i64 (b 0), .int .i64 (b 1), .int .i64 (b 2), .int .i64 (b 3), .int .i64 (b 4), .int .i64 (b 5), .int .i64 (b 6), .int .i64 (b 7), .int .i64 (b 8), .int .i64 (b 9), .int .i64 (b 10), .int .i64 (b 11)] 54)).heap[w.heap.size]? = some (.cells #[.int .i64 a0, .int .i64 a1, .int .i64 a2, .int .i64 a3, .int .i64 a4] 27 (0, 0))) := Aside0.mk (blk_alloc (blk_new w _) _)
 have D2 : Aside0 (((w.alloc (.cells #[.int .i64 a0, .int .i64 a1, .int .i64 a2, .int .i64 a3, .int .i64 a4] 27)).alloc (.cells #[.int .i64 (b 0), .int .i64 (b 1), .int .i64 (b 2), .int .i64 (b 3), .int .i64 (b 4), .int .i64 (b 5), .int .i64 (b 6), .int .i64 (b 7), .int .i64 (b 8), .int .i64 (b 9), .int .i64 (b 10), .int .i64 (b 11)] 54)).heap[w.heap.size + 1]? = some (.cells #[.int .i64 (b 0), .int .i64 (b 1), .int .i64 (b 2), .int .i64 (b 3), .int .i64 (b 4), .int .i64 (b 5), .int .i64 (b 6), .int .i64 (b 7), .int .i64 (b 8), .int .i64 (b 9), .int .i64 (b 10), .int .i64 (b 11)] 54 (0, 0))) := Aside0.mk (by simpa using blk_new (w.alloc (.cells #[.int .i64 a0, .int .i64 a1, .int .i64 a2, .int .i64 a3, .int .i64 a4] 27)) (.cells #[.int .i64 (b 0), .int .i64 (b 1), .int .i64 (b 2), .int .i64 (b 3), .int .i64 (b 4), .int .i64 (b 5), .int .i64 (b 6), .int .i64 (b 7), .int .i64 (b 8), .int .i64 (b 9), .int .i64 (b 10), .int .i64 (b 11)] 54))
 have C1 := impl_Facts_numbers.calls a0 a1 a2 a3 a4 [0, a0, a1, a2, a3, a4] ((w.alloc (.cells #[.int .i64 a0, .int .i64 a1, .int .i64 a2, .int .i64 a3, .int .i64 a4] 27)).alloc (.cells #[.int .i64 (b 0), .int .i64 (b 1), .int .i64 (b 2), .int .i64 (b 3), .int .i64 (b 4), .int .i64 (b 5), .int .i64 (b 6), .int .i64 (b 7), .int .i64 (b 8), .int .i64 (b 9), .int .i64 (b 10), .int .i64 (b 11)] 54)) rfl
 have HC1 := Aside0.mk C1
 clear C1
 go_enter Try.func35, Try.ntmps35
 go_wp2_with fail
 refine HC1.out.mono ?_
 rintro e w3 ⟨v, rfl, ho, hb3⟩
 obtain ⟨A0, c0, rfl⟩ := Kd.R_slice ho
 have HO := Aside0.mk (Kd.R_reads' ho).2.2
 have B3 := Aside0.mk hb3
 have hn6 : (([0, a0, a1, a2, a3, a4] : List Int)).length = 6 := rfl
 clear ho hb3 HC1
 generalize (w.alloc (.cells #[.int .i64 a0, .int .i64 a1, .int .i64 a2, .int .i64 a3, .int .i64 a4] 27)).alloc (.cells #[.int .i64 (b 0), .int .i64 (b 1), .int .i64 (b 2), .int .i64 (b 3), .int .i64 (b 4), .int .i64 (b 5), .int .i64 (b 6), .int .i64 (b 7), .int .i64 (b 8), .int .i64 (b 9), .int .i64 (b 10), .int .i64 (b 11)] 54) = w2 at *
 obtain ⟨ad, rfl⟩ : ∃ ad, A0 = some ad := by
  obtain ⟨ad, e, _⟩ := Kd.at_int HO.out 0 (by omega) (by show (0 : Int) < ((6 : Nat) : Int); omega)
  exact ⟨ad, e⟩
 go_wp2
 go_loopg [5, 6, 10] 6 (fun gg _ _ s10 wr => ∃ kk : Nat, kk ≤ 6 ∧ 6 - kk ≤ gg ∧ s10 = .int .i64 kk ∧ Aside0 (Below w3.heap.size w3 wr) ∧ Aside0 (impl_isIn.go b (([0, a0, a1, a2, a3, a4] : List Int).drop kk) kk = some r))
 case atStart => exact ⟨0, by omega, by omega, rfl, ⟨Below.refl _ _⟩, ⟨H.out⟩⟩
 case round =>
  obtain ⟨kk, hkk, hg, rfl, BW, HF⟩ := hrel
  by_cases hlt : kk < 6
  ·have hk6 : kk = 0 ∨ kk = 1 ∨ kk = 2 ∨ kk = 3 ∨ kk = 4 ∨ kk = 5 := by omega
   rcases hk6 with rfl | rfl | rfl | rfl | rfl | rfl
   ·obtain ⟨t, ht, h2⟩ := Option.bind_eq_some_iff.mp (show (impl_within.f 0 (b 0) (b 1)).bind (fun t => if t = true then impl_isIn.go b ([a0, a1, a2, a3, a4] : List Int) 1 else some false) = some r from HF.out)
    have HTT := Aside0.mk ht
    clear ht
    obtain ⟨ad_, ea_, hx_⟩ := Kd.at_int (Kd.C_below HO.out BW.out) (0 : Int) (by omega) (by show (0 : Int) < ((6 : Nat) : Int); omega)
    injection ea_ with ea_
    subst ea_
    have hx : wr.cell? ad = some (.int .i64 0) := hx_
    clear hx_
    have y0 : wr.cell? ⟨w.heap.size + 1, 0, none⟩ = some (.int .i64 (b 0)) := (blk_cell (blk_below D2.out (B3.out.trans (BW.out.mono B3.out.size))) 0).trans rfl
    have y1 : wr.cell? ⟨w.heap.size + 1, 1, none⟩ = some (.int .i64 (b 1)) := (blk_cell (blk_below D2.out (B3.out.trans (BW.out.mono B3.out.size))) 1).trans rfl
    cases t
    ·obtain rfl := Option.some.inj h2
     clear h2
     go_wp2
     go_quiet (first | (go_at_call 54; (with_reducible refine (impl_within.calls (0) (b 0) (b 1) false _ HTT.out).mono ?_); rintro e w' ⟨rfl, ⟨nd, rfl⟩⟩; (try first | exact ⟨rfl, _, World.drewN_drewN _ _ _⟩ | exact ⟨rfl, _, Eq.trans (World.drewN_drewN _ _ _) (congrArg (World.drewN _) (Nat.add_assoc _ _ _))⟩)))
     go_wp2
     go_ret
     exact ⟨rfl, pw_below_drewN (B2.out.trans ((B3.out.trans (BW.out.mono B3.out.size)).mono B2.out.size)) _⟩
    ·have H2 := Aside0.mk h2
     clear h2
     go_wp2
     go_quiet (first | (go_at_call 54; (with_reducible refine (impl_within.calls (0) (b 0) (b 1) true _ HTT.out).mono ?_); rintro e w' ⟨rfl, ⟨nd, rfl⟩⟩; (try first | exact ⟨rfl, _, World.drewN_drewN _ _ _⟩ | exact ⟨rfl, _, Eq.trans (World.drewN_drewN _ _ _) (congrArg (World.drewN _) (Nat.add_assoc _ _ _))⟩)))
     go_wp2
     go_roundg 5
     case measure => omega
     case rel => exact ⟨1, by omega, by omega, by go_num, ⟨pw_below_drewN BW.out _⟩, ⟨H2.out⟩⟩
   ·obtain ⟨t, ht, h2⟩ := Option.bind_eq_some_iff.mp (show (impl_within.f a0 (b 2) (b 3)).bind (fun t => if t = true then impl_isIn.go b ([a1, a2, a3, a4] : List Int) 2 else some false) = some r from HF.out)
    have HTT := Aside0.mk ht
    clear ht
    obtain ⟨ad_, ea_, hx_⟩ := Kd.at_int (Kd.C_below HO.out BW.out) (1 : Int) (by omega) (by show (1 : Int) < ((6 : Nat) : Int); omega)
    injection ea_ with ea_
    subst ea_
    have hx : wr.cell? ⟨ad.block, ad.off + 1, _⟩ = some (.int .i64 a0) := hx_
    clear hx_
    have y0 : wr.cell? ⟨w.heap.size + 1, 2, none⟩ = some (.int .i64 (b 2)) := (blk_cell (blk_below D2.out (B3.out.trans (BW.out.mono B3.out.size))) 2).trans rfl
    have y1 : wr.cell? ⟨w.heap.size + 1, 3, none⟩ = some (.int .i64 (b 3)) := (blk_cell (blk_below D2.out (B3.out.trans (BW.out.mono B3.out.size))) 3).trans rfl
    cases t
    ·obtain rfl := Option.some.inj h2
     clear h2
     go_wp2
     go_quiet (first | (go_at_call 54; (with_reducible refine (impl_within.calls (a0) (b 2) (b 3) false _ HTT.out).mono ?_); rintro e w' ⟨rfl, ⟨nd, rfl⟩⟩; (try first | exact ⟨rfl, _, World.drewN_drewN _ _ _⟩ | exact ⟨rfl, _, Eq.trans (World.drewN_drewN _ _ _) (congrArg (World.drewN _) (Nat.add_assoc _ _ _))⟩)))
     go_wp2
     go_ret
     exact ⟨rfl, pw_below_drewN (B2.out.trans ((B3.out.trans (BW.out.mono B3.out.size)).mono B2.out.size)) _⟩
    ·have H2 := Aside0.mk h2
     clear h2
     go_wp2
     go_quiet (first | (go_at_call 54; (with_reducible refine (impl_within.calls (a0) (b 2) (b 3) true _ HTT.out).mono ?_); rintro e w' ⟨rfl, ⟨nd, rfl⟩⟩; (try first | exact ⟨rfl, _, World.drewN_drewN _ _ _⟩ | exact ⟨rfl, _, Eq.trans (World.drewN_drewN _ _ _) (congrArg (World.drewN _) (Nat.add_assoc _ _ _))⟩)))
     go_wp2
     go_roundg 4
     case measure => omega
     case rel => exact ⟨2, by omega, by omega, by go_num, ⟨pw_below_drewN BW.out _⟩, ⟨H2.out⟩⟩
   ·obtain ⟨t, ht, h2⟩ := Option.bind_eq_some_iff.mp (show (impl_within.f a1 (b 4) (b 5)).bind (fun t => if t = true then impl_isIn.go b ([a2, a3, a4] : List Int) 3 else some false) = some r from HF.out)
    have HTT := Aside0.mk ht
    clear ht
    obtain ⟨ad_, ea_, hx_⟩ := Kd.at_int (Kd.C_below HO.out BW.out) (2 : Int) (by omega) (by show (2 : Int) < ((6 : Nat) : Int); omega)
    injection ea_ with ea_
    subst ea_
    have hx : wr.cell? ⟨ad.block, ad.off + 2, _⟩ = some (.int .i64 a1) := hx_
    clear hx_
    have y0 : wr.cell? ⟨w.heap.size + 1, 4, none⟩ = some (.int .i64 (b 4)) := (blk_cell (blk_below D2.out (B3.out.trans (BW.out.mono B3.out.size))) 4).trans rfl
    have y1 : wr.cell? ⟨w.heap.size + 1, 5, none⟩ = some (.int .i64 (b 5)) := (blk_cell (blk_below D2.out (B3.out.trans (BW.out.mono B3.out.size))) 5).trans rfl
    cases t
    ·obtain rfl := Option.some.inj h2
     clear h2
     go_wp2
     go_quiet (first | (go_at_call 54; (with_reducible refine (impl_within.calls (a1) (b 4) (b 5) false _ HTT.out).mono ?_); rintro e w' ⟨rfl, ⟨nd, rfl⟩⟩; (try first | exact ⟨rfl, _, World.drewN_drewN _ _ _⟩ | exact ⟨rfl, _, Eq.trans (World.drewN_drewN _ _ _) (congrArg (World.drewN _) (Nat.add_assoc _ _ _))⟩)))
     go_wp2
     go_ret
     exact ⟨rfl, pw_below_drewN (B2.out.trans ((B3.out.trans (BW.out.mono B3.out.size)).mono B2.out.size)) _⟩
    ·have H2 := Aside0.mk h2
     clear h2
     go_wp2
     go_quiet (first | (go_at_call 54; (with_reducible refine (impl_within.calls (a1) (b 4) (b 5) true _ HTT.out).mono ?_); rintro e w' ⟨rfl, ⟨nd, rfl⟩⟩; (try first | exact ⟨rfl, _, World.drewN_drewN _ _ _⟩ | exact ⟨rfl, _, Eq.trans (World.drewN_drewN _ _ _) (congrArg (World.drewN _) (Nat.add_assoc _ _ _))⟩)))
     go_wp2
     go_roundg 3
     case measure => omega
     case rel => exact ⟨3, by omega, by omega, by go_num, ⟨pw_below_drewN BW.out _⟩, ⟨H2.out⟩⟩
   ·obtain ⟨t, ht, h2⟩ := Option.bind_eq_some_iff.mp (show (impl_within.f a2 (b 6) (b 7)).bind (fun t => if t = true then impl_isIn.go b ([a3, a4] : List Int) 4 else some false) = some r from HF.out)
    have HTT := Aside0.mk ht
    clear ht
    obtain ⟨ad_, ea_, hx_⟩ := Kd.at_int (Kd.C_below HO.out BW.out) (3 : Int) (by omega) (by show (3 : Int) < ((6 : Nat) : Int); omega)
    injection ea_ with ea_
    subst ea_
    have hx : wr.cell? ⟨ad.block, ad.off + 3, _⟩ = some (.int .i64 a2) := hx_
    clear hx_
    have y0 : wr.cell? ⟨w.heap.size + 1, 6, none⟩ = some (.int .i64 (b 6)) := (blk_cell (blk_below D2.out (B3.out.trans (BW.out.mono B3.out.size))) 6).trans rfl
    have y1 : wr.cell? ⟨w.heap.size + 1, 7, none⟩ = some (.int .i64 (b 7)) := (blk_cell (blk_below D2.out (B3.out.trans (BW.out.mono B3.out.size))) 7).trans rfl
    cases t
    ·obtain rfl := Option.some.inj h2
     clear h2
     go_wp2
     go_quiet (first | (go_at_call 54; (with_reducible refine (impl_within.calls (a2) (b 6) (b 7) false _ HTT.out).mono ?_); rintro e w' ⟨rfl, ⟨nd, rfl⟩⟩; (try first | exact ⟨rfl, _, World.drewN_drewN _ _ _⟩ | exact ⟨rfl, _, Eq.trans (World.drewN_drewN _ _ _) (congrArg (World.drewN _) (Nat.add_assoc _ _ _))⟩)))
     go_wp2
     go_ret
     exact ⟨rfl, pw_below_drewN (B2.out.trans ((B3.out.trans (BW.out.mono B3.out.size)).mono B2.out.size)) _⟩
    ·have H2 := Aside0.mk h2
     clear h2
     go_wp2
     go_quiet (first | (go_at_call 54; (with_reducible refine (impl_within.calls (a2) (b 6) (b 7) true _ HTT.out).mono ?_); rintro e w' ⟨rfl, ⟨nd, rfl⟩⟩; (try first | exact ⟨rfl, _, World.drewN_drewN _ _ _⟩ | exact ⟨rfl, _, Eq.trans (World.drewN_drewN _ _ _) (congrArg (World.drewN _) (Nat.add_assoc _ _ _))⟩)))
     go_wp2
     go_roundg 2
     case measure => omega
     case rel => exact ⟨4, by omega, by omega, by go_num, ⟨pw_below_drewN BW.out _⟩, ⟨H2.out⟩⟩
   ·obtain ⟨t, ht, h2⟩ := Option.bind_eq_some_iff.mp (show (impl_within.f a3 (b 8) (b 9)).bind (fun t => if t = true then impl_isIn.go b ([a4] : List Int) 5 else some false) = some r from HF.out)
    have HTT := Aside0.mk ht
    clear ht
    obtain ⟨ad_, ea_, hx_⟩ := Kd.at_int (Kd.C_below HO.out BW.out) (4 : Int) (by omega) (by show (4 : Int) < ((6 : Nat) : Int); omega)
    injection ea_ with ea_
    subst ea_
    have hx : wr.cell? ⟨ad.block, ad.off + 4, _⟩ = some (.int .i64 a3) := hx_
    clear hx_
    have y0 : wr.cell? ⟨w.heap.size + 1, 8, none⟩ = some (.int .i64 (b 8)) := (blk_cell (blk_below D2.out (B3.out.trans (BW.out.mono B3.out.size))) 8).trans rfl
    have y1 : wr.cell? ⟨w.heap.size + 1, 9, none⟩ = some (.int .i64 (b 9)) := (blk_cell (blk_below D2.out (B3.out.trans (BW.out.mono B3.out.size))) 9).trans rfl
    cases t
    ·obtain rfl := Option.some.inj h2
     clear h2
     go_wp2
     go_quiet (first | (go_at_call 54; (with_reducible refine (impl_within.calls (a3) (b 8) (b 9) false _ HTT.out).mono ?_); rintro e w' ⟨rfl, ⟨nd, rfl⟩⟩; (try first | exact ⟨rfl, _, World.drewN_drewN _ _ _⟩ | exact ⟨rfl, _, Eq.trans (World.drewN_drewN _ _ _) (congrArg (World.drewN _) (Nat.add_assoc _ _ _))⟩)))
     go_wp2
     go_ret
     exact ⟨rfl, pw_below_drewN (B2.out.trans ((B3.out.trans (BW.out.mono B3.out.size)).mono B2.out.size)) _⟩
    ·have H2 := Aside0.mk h2
     clear h2
     go_wp2
     go_quiet (first | (go_at_call 54; (with_reducible refine (impl_within.calls (a3) (b 8) (b 9) true _ HTT.out).mono ?_); rintro e w' ⟨rfl, ⟨nd, rfl⟩⟩; (try first | exact ⟨rfl, _, World.drewN_drewN _ _ _⟩ | exact ⟨rfl, _, Eq.trans (World.drewN_drewN _ _ _) (congrArg (World.drewN _) (Nat.add_assoc _ _ _))⟩)))
     go_wp2
     go_roundg 1
     case measure => omega
     case rel => exact ⟨5, by omega, by omega, by go_num, ⟨pw_below_drewN BW.out _⟩, ⟨H2.out⟩⟩
   ·obtain ⟨t, ht, h2⟩ := Option.bind_eq_some_iff.mp (show (impl_within.f a4 (b 10) (b 11)).bind (fun t => if t = true then impl_isIn.go b ([] : List Int) 6 else some false) = some r from HF.out)
    have HTT := Aside0.mk ht
    clear ht
    obtain ⟨ad_, ea_, hx_⟩ := Kd.at_int (Kd.C_below HO.out BW.out) (5 : Int) (by omega) (by show (5 : Int) < ((6 : Nat) : Int); omega)
    injection ea_ with ea_
    subst ea_
    have hx : wr.cell? ⟨ad.block, ad.off + 5, _⟩ = some (.int .i64 a4) := hx_
    clear hx_
    have y0 : wr.cell? ⟨w.heap.size + 1, 10, none⟩ = some (.int .i64 (b 10)) := (blk_cell (blk_below D2.out (B3.out.trans (BW.out.mono B3.out.size))) 10).trans rfl
    have y1 : wr.cell? ⟨w.heap.size + 1, 11, none⟩ = some (.int .i64 (b 11)) := (blk_cell (blk_below D2.out (B3.out.trans (BW.out.mono B3.out.size))) 11).trans rfl
    cases t
    ·obtain rfl := Option.some.inj h2
     clear h2
     go_wp2
     go_quiet (first | (go_at_call 54; (with_reducible refine (impl_within.calls (a4) (b 10) (b 11) false _ HTT.out).mono ?_); rintro e w' ⟨rfl, ⟨nd, rfl⟩⟩; (try first | exact ⟨rfl, _, World.drewN_drewN _ _ _⟩ | exact ⟨rfl, _, Eq.trans (World.drewN_drewN _ _ _) (congrArg (World.drewN _) (Nat.add_assoc _ _ _))⟩)))
     go_wp2
     go_ret
     exact ⟨rfl, pw_below_drewN (B2.out.trans ((B3.out.trans (BW.out.mono B3.out.size)).mono B2.out.size)) _⟩
    ·have H2 := Aside0.mk h2
     clear h2
     go_wp2
     go_quiet (first | (go_at_call 54; (with_reducible refine (impl_within.calls (a4) (b 10) (b 11) true _ HTT.out).mono ?_); rintro e w' ⟨rfl, ⟨nd, rfl⟩⟩; (try first | exact ⟨rfl, _, World.drewN_drewN _ _ _⟩ | exact ⟨rfl, _, Eq.trans (World.drewN_drewN _ _ _) (congrArg (World.drewN _) (Nat.add_assoc _ _ _))⟩)))
     go_wp2
     go_roundg 0
     case measure => omega
     case rel => exact ⟨6, by omega, by omega, by go_num, ⟨pw_below_drewN BW.out _⟩, ⟨H2.out⟩⟩
  ·have : kk = 6 := by omega
   subst this
   obtain rfl := Option.some.inj (show some true = some r from HF.out)
   go_wp2
   go_ret
   exact ⟨rfl, B2.out.trans ((B3.out.trans (BW.out.mono B3.out.size)).mono B2.out.size)⟩

/-! ### impl_narrowed: function 23, by hand -/
/-- Bounds with one term more: the lower and the upper number of field f stand at 2 f and 2 f + 1. -/
def impl_narrowed.one (b : Nat → Int) (x : S69) : Nat → Int := fun i =>
 if i = 2 * x.f0.toNat ∧ x.f1 ≠ 2 then mx (b i) x.f2 else if i = 2 * x.f0.toNat + 1 ∧ x.f1 ≠ 1 then mn (b i) x.f2 else b i
def impl_narrowed.nC (b : Nat → Int) : Array Value := #[.int .i64 (b 0), .int .i64 (b 1), .int .i64 (b 2), .int .i64 (b 3), .int .i64 (b 4), .int .i64 (b 5), .int .i64 (b 6), .int .i64 (b 7), .int .i64 (b 8), .int .i64 (b 9), .int .i64 (b 10), .int .i64 (b 11)]
def impl_narrowed.go (b : Nat → Int) : List S69 → Nat → Int
 | [] => b
 | x :: xs => impl_narrowed.go (impl_narrowed.one b x) xs
set_option maxHeartbeats 8000000 in
set_option maxRecDepth 100000 in
theorem impl_narrowed.calls (b0 : Nat → Int) (A0 : Option Addr) (c0 : Nat) (l0 : List S69) (w : World) (hr0 : Kd.C k69 w A0 l0.length l0) (hc0 : l0.length ≤ c0) (ht : ∀ x ∈ l0, 1 ≤ x.f0 ∧ x.f0 ≤ 5) :
  Calls Try.prog 23 #[.agg #[.int .i64 (b0 0), .int .i64 (b0 1), .int .i64 (b0 2), .int .i64 (b0 3), .int .i64 (b0 4), .int .i64 (b0 5), .int .i64 (b0 6), .int .i64 (b0 7), .int .i64 (b0 8), .int .i64 (b0 9), .int .i64 (b0 10), .int .i64 (b0 11)], .slice A0 l0.length c0] w fun e w' => e = .returned (.agg #[.int .i64 ((impl_narrowed.go b0 l0) 0), .int .i64 ((impl_narrowed.go b0 l0) 1), .int .i64 ((impl_narrowed.go b0 l0) 2), .int .i64 ((impl_narrowed.go b0 l0) 3), .int .i64 ((impl_narrowed.go b0 l0) 4), .int .i64 ((impl_narrowed.go b0 l0) 5), .int .i64 ((impl_narrowed.go b0 l0) 6), .int .i64 ((impl_narrowed.go b0 l0) 7), .int .i64 ((impl_narrowed.go b0 l0) 8), .int .i64 ((impl_narrowed.go b0 l0) 9), .int .i64 ((impl_narrowed.go b0 l0) 10), .int .i64 ((impl_narrowed.go b0 l0) 11)]) ∧ Below w.heap.size w w' := by
 have HT := Aside0.mk ht
 have HR := Aside0.mk hr0
 have HC := Aside0.mk hc0
 have hbig : l0.length ≤ 9223372036854775807 := hr0.2.1
 clear ht hr0 hc0
 go_enter Try.func23, Try.ntmps23
 go_wp2
 have B2 : Aside0 (Below w.heap.size w ((w.alloc (.cells #[.int .i64 (b0 0), .int .i64 (b0 1), .int .i64 (b0 2), .int .i64 (b0 3), .int .i64 (b0 4), .int .i64 (b0 5), .int .i64 (b0 6), .int .i64 (b0 7), .int .i64 (b0 8), .int .i64 (b0 9), .int .i64 (b0 10), .int .i64 (b0 11)] 54)).alloc (.cells #[.int .i64 0, .int .i64 0, .int .i64 0, .int .i64 0, .int .i64 0, .int .i64 0, .int .i64 0, .int .i64 0, .int .i64 0, .int .i64 0, .int .i64 0, .int .i64 0] 54))) := Aside0.mk (((Below.refl _ w).alloc (Nat.le_refl _) _).alloc (by simp) _)
 have b1 : Aside0 (((w.alloc (.cells #[.int .i64 (b0 0), .int .i64 (b0 1), .int .i64 (b0 2), .int .i64 (b0 3), .int .i64 (b0 4), .int .i64 (b0 5), .int .i64 (b0 6), .int .i64 (b0 7), .int .i64 (b0 8), .int .i64 (b0 9), .int .i64 (b0 10), .int .i64 (b0 11)] 54)).alloc (.cells #[.int .i64 0, .int .i64 0, .int .i64 0, .int .i64 0, .int .i64 0, .int .i64 0, .int .i64 0, .int .i64 0, .int .i64 0, .int .i64 0, .int .i64 0, .int .i64 0] 54)).heap[w.heap.size]? = some (.cells #[.int .i64 (b0 0), .int .i64 (b0 1), .int .i64 (b0 2), .int .i64 (b0 3), .int .i64 (b0 4), .int .i64 (b0 5), .int .i64 (b0 6), .int .i64 (b0 7), .int .i64 (b0 8), .int .i64 (b0 9), .int .i64 (b0 10), .int .i64 (b0 11)] 54 (0, 0))) := Aside0.mk (blk_alloc (blk_new w _) _)
 have b2 : Aside0 (((w.alloc (.cells #[.int .i64 (b0 0), .int .i64 (b0 1), .int .i64 (b0 2), .int .i64 (b0 3), .int .i64 (b0 4), .int .i64 (b0 5), .int .i64 (b0 6), .int .i64 (b0 7), .int .i64 (b0 8), .int .i64 (b0 9), .int .i64 (b0 10), .int .i64 (b0 11)] 54)).alloc (.cells #[.int .i64 0, .int .i64 0, .int .i64 0, .int .i64 0, .int .i64 0, .int .i64 0, .int .i64 0, .int .i64 0, .int .i64 0, .int .i64 0, .int .i64 0, .int .i64 0] 54)).heap[w.heap.size + 1]? = some (.cells #[.int .i64 0, .int .i64 0, .int .i64 0, .int .i64 0, .int .i64 0, .int .i64 0, .int .i64 0, .int .i64 0, .int .i64 0, .int .i64 0, .int .i64 0, .int .i64 0] 54 (0, 0))) := Aside0.mk (by simpa using blk_new (w.alloc (.cells #[.int .i64 (b0 0), .int .i64 (b0 1), .int .i64 (b0 2), .int .i64 (b0 3), .int .i64 (b0 4), .int .i64 (b0 5), .int .i64 (b0 6), .int .i64 (b0 7), .int .i64 (b0 8), .int .i64 (b0 9), .int .i64 (b0 10), .int .i64 (b0 11)] 54)) (.cells #[.int .i64 0, .int .i64 0, .int .i64 0, .int .i64 0, .int .i64 0, .int .i64 0, .int .i64 0, .int .i64 0, .int .i64 0, .int .i64 0, .int .i64 0, .int .i64 0] 54))
 generalize (w.alloc (.cells #[.int .i64 (b0 0), .int .i64 (b0 1), .int .i64 (b0 2), .int .i64 (b0 3), .int .i64 (b0 4), .int .i64 (b0 5), .int .i64 (b0 6), .int .i64 (b0 7), .int .i64 (b0 8), .int .i64 (b0 9), .int .i64 (b0 10), .int .i64 (b0 11)] 54)).alloc (.cells #[.int .i64 0, .int .i64 0, .int .i64 0, .int .i64 0, .int .i64 0, .int .i64 0, .int .i64 0, .int .i64 0, .int .i64 0, .int .i64 0, .int .i64 0, .int .i64 0] 54) = w2 at *
 go_loopg [6, 7, 10] l0.length (fun gg _ _ s10 wr => ∃ (kk : Nat) (b : Nat → Int), kk ≤ l0.length ∧ l0.length - kk ≤ gg ∧ s10 = .int .i64 kk ∧ Aside0 (Below w.heap.size w wr) ∧ Aside0 (wr.heap[w.heap.size]? = some (.cells (impl_narrowed.nC b) 54 (0, 0))) ∧ Aside0 (wr.heap[w.heap.size + 1]? = some (.cells #[.int .i64 0, .int .i64 0, .int .i64 0, .int .i64 0, .int .i64 0, .int .i64 0, .int .i64 0, .int .i64 0, .int .i64 0, .int .i64 0, .int .i64 0, .int .i64 0] 54 (0, 0))) ∧ Aside0 (impl_narrowed.go b (l0.drop kk) = impl_narrowed.go b0 l0))
 case atStart => exact ⟨0, b0, by omega, by omega, rfl, ⟨B2.out⟩, ⟨b1.out⟩, ⟨b2.out⟩, ⟨rfl⟩⟩
 case round =>
  obtain ⟨kk, b, hkk, hg, rfl, BW, D1, D2, HF⟩ := hrel
  by_cases hlt : kk < l0.length
  ·have hltz : (kk : Int) < (l0.length : Int) := by omega
   have hf := HF.out
   have hcons : l0.drop kk = rd_T69 l0 (kk : Int) :: l0.drop (kk + 1) := by
    rw [List.drop_eq_getElem_cons hlt]
    congr 1
    unfold rd_T69
    rw [Int.toNat_natCast, List.getD_eq_getElem?_getD, List.getElem?_eq_getElem hlt]
    rfl
   have hx := HT.out (rd_T69 l0 (kk : Int)) (List.mem_of_mem_drop (by rw [hcons]; exact List.mem_cons_self ..))
   rw [hcons, impl_narrowed.go] at hf
   clear hcons
   obtain ⟨ad, rfl, hx0, hx1, hx2⟩ := at_T69 (Kd.C_below HR.out BW.out) (kk : Int) (by omega) hltz
   simp only [Int.toNat_natCast] at hx0 hx1 hx2
   generalize rd_T69 l0 (kk : Int) = x_ at *
   obtain ⟨xf, xo, xn⟩ := x_
   simp only at hx hx0 hx1 hx2
   have HF2 := Aside0.mk hf
   have HX := Aside0.mk hx
   clear hf hx
   have hgx : w.heap.size + 1 < wr.heap.size := blk_lt D2.out
   have D1a := Aside0.mk (blk_alloc D1.out (.cells #[.int .i64 xf, .int .i64 xo, .int .i64 xn] 69))
   have D2a := Aside0.mk (blk_alloc D2.out (.cells #[.int .i64 xf, .int .i64 xo, .int .i64 xn] 69))
   have DX := Aside0.mk (blk_new wr (.cells #[.int .i64 xf, .int .i64 xo, .int .i64 xn] 69))
   have BWa := Aside0.mk (BW.out.alloc BW.out.size (.cells #[.int .i64 xf, .int .i64 xo, .int .i64 xn] 69))
   have hxc : 1 ≤ xf ∧ xf ≤ 5 := HX.out
   have hxf : xf = 1 ∨ xf = 2 ∨ xf = 3 ∨ xf = 4 ∨ xf = 5 := by omega
   clear hxc HX BW D1 D2
   rcases hxf with rfl | rfl | rfl | rfl | rfl
   ·by_cases o2 : xo = 2
    ·subst o2
     have q2 : ((2 : Int) != 2) = false := rfl
     have q1 : ((2 : Int) != 1) = true := rfl
     have x1 : (wr.alloc (.cells #[.int .i64 1, .int .i64 2, .int .i64 xn] 69)).cell? ⟨wr.heap.size, 1, none⟩ = some (.int .i64 2) := (blk_cell DX.out 1).trans rfl
     have x2 : (wr.alloc (.cells #[.int .i64 1, .int .i64 2, .int .i64 xn] 69)).cell? ⟨wr.heap.size, 2, none⟩ = some (.int .i64 xn) := (blk_cell DX.out 2).trans rfl
     have EB := Aside0.mk (show (impl_narrowed.nC b).setIfInBounds 3 (.int .i64 (mn (b 3) xn)) = impl_narrowed.nC (impl_narrowed.one b ⟨1, 2, xn⟩) by simp [impl_narrowed.nC, impl_narrowed.one])
     go_wp2
     clear x1 x2
     generalize wr.alloc (.cells #[.int .i64 1, .int .i64 2, .int .i64 xn] 69) = wn at *
     generalize wr.heap.size = gx at *
     have hlo : wn.cell? ⟨w.heap.size, 3, none⟩ = some (.int .i64 (b 3)) := (blk_cell D1a.out 3).trans rfl
     have flo := blk_frozen D1a.out 3
     have x2 : wn.cell? ⟨gx, 2, none⟩ = some (.int .i64 xn) := (blk_cell DX.out 2).trans rfl
     go_region
     rw [show (if xn < b 3 then xn else b 3) = mn (b 3) xn from rfl]
     generalize hv : Value.int .i64 (mn (b 3) xn) = v at *
     replace D1a := Aside0.mk (blk_drew (blk_set D1a.out 3 v))
     replace D2a := Aside0.mk (blk_drew (blk_far D2a.out (p := ⟨w.heap.size, 3, none⟩) (fun e => Nat.succ_ne_self _ e) v))
     replace BWa := Aside0.mk (below_drew1 (below_set (j := 3) (v := v) BWa.out (Nat.le_refl _)))
     clear hlo flo x2
     generalize (wn.setCell ⟨w.heap.size, 3, none⟩ v).drew = wn at *
     go_wp2
     go_roundg (l0.length - (kk + 1))
     case measure => omega
     case rel => exact ⟨kk + 1, impl_narrowed.one b ⟨1, 2, xn⟩, by omega, by omega, by go_num, ⟨BWa.out⟩, ⟨by rw [← EB.out]; exact D1a.out⟩, ⟨D2a.out⟩, ⟨HF2.out⟩⟩
    ·by_cases o1 : xo = 1
     ·subst o1
      have q2 : ((1 : Int) != 2) = true := rfl
      have q1 : ((1 : Int) != 1) = false := rfl
      clear o2
      have x1 : (wr.alloc (.cells #[.int .i64 1, .int .i64 1, .int .i64 xn] 69)).cell? ⟨wr.heap.size, 1, none⟩ = some (.int .i64 1) := (blk_cell DX.out 1).trans rfl
      have x2 : (wr.alloc (.cells #[.int .i64 1, .int .i64 1, .int .i64 xn] 69)).cell? ⟨wr.heap.size, 2, none⟩ = some (.int .i64 xn) := (blk_cell DX.out 2).trans rfl
      have EB := Aside0.mk (show (impl_narrowed.nC b).setIfInBounds 2 (.int .i64 (mx (b 2) xn)) = impl_narrowed.nC (impl_narrowed.one b ⟨1, 1, xn⟩) by simp [impl_narrowed.nC, impl_narrowed.one])
      go_wp2
      clear x1 x2
      generalize wr.alloc (.cells #[.int .i64 1, .int .i64 1, .int .i64 xn] 69) = wn at *
      generalize wr.heap.size = gx at *
      have hlo : wn.cell? ⟨w.heap.size, 2, none⟩ = some (.int .i64 (b 2)) := (blk_cell D1a.out 2).trans rfl
      have flo := blk_frozen D1a.out 2
      have x2 : wn.cell? ⟨gx, 2, none⟩ = some (.int .i64 xn) := (blk_cell DX.out 2).trans rfl
      go_region
      rw [show (if b 2 < xn then xn else b 2) = mx (b 2) xn from rfl]
      generalize hv : Value.int .i64 (mx (b 2) xn) = v at *
      replace D1a := Aside0.mk (blk_drew (blk_set D1a.out 2 v))
      replace D2a := Aside0.mk (blk_drew (blk_far D2a.out (p := ⟨w.heap.size, 2, none⟩) (fun e => Nat.succ_ne_self _ e) v))
      replace DX := Aside0.mk (blk_drew (blk_far DX.out (p := ⟨w.heap.size, 2, none⟩) (show gx ≠ w.heap.size by omega) v))
      replace BWa := Aside0.mk (below_drew1 (below_set (j := 2) (v := v) BWa.out (Nat.le_refl _)))
      clear hlo flo x2
      generalize (wn.setCell ⟨w.heap.size, 2, none⟩ v).drew = wn at *
      have x1 : wn.cell? ⟨gx, 1, none⟩ = some (.int .i64 1) := (blk_cell DX.out 1).trans rfl
      go_wp2
      clear x1
      go_roundg (l0.length - (kk + 1))
      case measure => omega
      case rel => exact ⟨kk + 1, impl_narrowed.one b ⟨1, 1, xn⟩, by omega, by omega, by go_num, ⟨BWa.out⟩, ⟨by rw [← EB.out]; exact D1a.out⟩, ⟨D2a.out⟩, ⟨HF2.out⟩⟩
     ·have q2 : (xo != 2) = true := bne_iff_ne.mpr o2
      have q1 : (xo != 1) = true := bne_iff_ne.mpr o1
      have x1 : (wr.alloc (.cells #[.int .i64 1, .int .i64 xo, .int .i64 xn] 69)).cell? ⟨wr.heap.size, 1, none⟩ = some (.int .i64 xo) := (blk_cell DX.out 1).trans rfl
      have x2 : (wr.alloc (.cells #[.int .i64 1, .int .i64 xo, .int .i64 xn] 69)).cell? ⟨wr.heap.size, 2, none⟩ = some (.int .i64 xn) := (blk_cell DX.out 2).trans rfl
      have EB := Aside0.mk (show ((impl_narrowed.nC b).setIfInBounds 2 (.int .i64 (mx (b 2) xn))).setIfInBounds 3 (.int .i64 (mn (b 3) xn)) = impl_narrowed.nC (impl_narrowed.one b ⟨1, xo, xn⟩) by simp [impl_narrowed.nC, impl_narrowed.one, o1, o2])
      clear o1 o2
      go_wp2
      clear x1 x2
      generalize wr.alloc (.cells #[.int .i64 1, .int .i64 xo, .int .i64 xn] 69) = wn at *
      generalize wr.heap.size = gx at *
      have hlo : wn.cell? ⟨w.heap.size, 2, none⟩ = some (.int .i64 (b 2)) := (blk_cell D1a.out 2).trans rfl
      have flo := blk_frozen D1a.out 2
      have x2 : wn.cell? ⟨gx, 2, none⟩ = some (.int .i64 xn) := (blk_cell DX.out 2).trans rfl
      go_region
      rw [show (if b 2 < xn then xn else b 2) = mx (b 2) xn from rfl]
      generalize hv : Value.int .i64 (mx (b 2) xn) = v at *
      replace D1a := Aside0.mk (blk_drew (blk_set D1a.out 2 v))
      replace D2a := Aside0.mk (blk_drew (blk_far D2a.out (p := ⟨w.heap.size, 2, none⟩) (fun e => Nat.succ_ne_self _ e) v))
      replace DX := Aside0.mk (blk_drew (blk_far DX.out (p := ⟨w.heap.size, 2, none⟩) (show gx ≠ w.heap.size by omega) v))
      replace BWa := Aside0.mk (below_drew1 (below_set (j := 2) (v := v) BWa.out (Nat.le_refl _)))
      clear hlo flo x2
      generalize (wn.setCell ⟨w.heap.size, 2, none⟩ v).drew = wn at *
      have x1 : wn.cell? ⟨gx, 1, none⟩ = some (.int .i64 xo) := (blk_cell DX.out 1).trans rfl
      go_wp2
      clear x1
      have hlo : wn.cell? ⟨w.heap.size, 3, none⟩ = some (.int .i64 (b 3)) := (blk_cell D1a.out 3).trans rfl
      have flo := blk_frozen D1a.out 3
      have x2 : wn.cell? ⟨gx, 2, none⟩ = some (.int .i64 xn) := (blk_cell DX.out 2).trans rfl
      go_region
      rw [show (if xn < b 3 then xn else b 3) = mn (b 3) xn from rfl]
      generalize hv : Value.int .i64 (mn (b 3) xn) = v at *
      replace D1a := Aside0.mk (blk_drew (blk_set D1a.out 3 v))
      replace D2a := Aside0.mk (blk_drew (blk_far D2a.out (p := ⟨w.heap.size, 3, none⟩) (fun e => Nat.succ_ne_self _ e) v))
      replace BWa := Aside0.mk (below_drew1 (below_set (j := 3) (v := v) BWa.out (Nat.le_refl _)))
      clear hlo flo x2
      generalize (wn.setCell ⟨w.heap.size, 3, none⟩ v).drew = wn at *
      go_wp2
      go_roundg (l0.length - (kk + 1))
      case measure => omega
      case rel => exact ⟨kk + 1, impl_narrowed.one b ⟨1, xo, xn⟩, by omega, by omega, by go_num, ⟨BWa.out⟩, ⟨by rw [← EB.out]; exact D1a.out⟩, ⟨D2a.out⟩, ⟨HF2.out⟩⟩
   ·by_cases o2 : xo = 2
    ·subst o2
     have q2 : ((2 : Int) != 2) = false := rfl
     have q1 : ((2 : Int) != 1) = true := rfl
     have x1 : (wr.alloc (.cells #[.int .i64 2, .int .i64 2, .int .i64 xn] 69)).cell? ⟨wr.heap.size, 1, none⟩ = some (.int .i64 2) := (blk_cell DX.out 1).trans rfl
     have x2 : (wr.alloc (.cells #[.int .i64 2, .int .i64 2, .int .i64 xn] 69)).cell? ⟨wr.heap.size, 2, none⟩ = some (.int .i64 xn) := (blk_cell DX.out 2).trans rfl
     have EB := Aside0.mk (show (impl_narrowed.nC b).setIfInBounds 5 (.int .i64 (mn (b 5) xn)) = impl_narrowed.nC (impl_narrowed.one b ⟨2, 2, xn⟩) by simp [impl_narrowed.nC, impl_narrowed.one])
     go_wp2
     clear x1 x2
     generalize wr.alloc (.cells #[.int .i64 2, .int .i64 2, .int .i64 xn] 69) = wn at *
     generalize wr.heap.size = gx at *
     have hlo : wn.cell? ⟨w.heap.size, 5, none⟩ = some (.int .i64 (b 5)) := (blk_cell D1a.out 5).trans rfl
     have flo := blk_frozen D1a.out 5
     have x2 : wn.cell? ⟨gx, 2, none⟩ = some (.int .i64 xn) := (blk_cell DX.out 2).trans rfl
     go_region
     rw [show (if xn < b 5 then xn else b 5) = mn (b 5) xn from rfl]
     generalize hv : Value.int .i64 (mn (b 5) xn) = v at *
     replace D1a := Aside0.mk (blk_drew (blk_set D1a.out 5 v))
     replace D2a := Aside0.mk (blk_drew (blk_far D2a.out (p := ⟨w.heap.size, 5, none⟩) (fun e => Nat.succ_ne_self _ e) v))
     replace BWa := Aside0.mk (below_drew1 (below_set (j := 5) (v := v) BWa.out (Nat.le_refl _)))
     clear hlo flo x2
     generalize (wn.setCell ⟨w.heap.size, 5, none⟩ v).drew = wn at *
     go_wp2
     go_roundg (l0.length - (kk + 1))
     case measure => omega
     case rel => exact ⟨kk + 1, impl_narrowed.one b ⟨2, 2, xn⟩, by omega, by omega, by go_num, ⟨BWa.out⟩, ⟨by rw [← EB.out]; exact D1a.out⟩, ⟨D2a.out⟩, ⟨HF2.out⟩⟩
    ·by_cases o1 : xo = 1
     ·subst o1
      have q2 : ((1 : Int) != 2) = true := rfl
      have q1 : ((1 : Int) != 1) = false := rfl
      clear o2
      have x1 : (wr.alloc (.cells #[.int .i64 2, .int .i64 1, .int .i64 xn] 69)).cell? ⟨wr.heap.size, 1, none⟩ = some (.int .i64 1) := (blk_cell DX.out 1).trans rfl
      have x2 : (wr.alloc (.cells #[.int .i64 2, .int .i64 1, .int .i64 xn] 69)).cell? ⟨wr.heap.size, 2, none⟩ = some (.int .i64 xn) := (blk_cell DX.out 2).trans rfl
      have EB := Aside0.mk (show (impl_narrowed.nC b).setIfInBounds 4 (.int .i64 (mx (b 4) xn)) = impl_narrowed.nC (impl_narrowed.one b ⟨2, 1, xn⟩) by simp [impl_narrowed.nC, impl_narrowed.one])
      go_wp2
      clear x1 x2
      generalize wr.alloc (.cells #[.int .i64 2, .int .i64 1, .int .i64 xn] 69) = wn at *
      generalize wr.heap.size = gx at *
      have hlo : wn.cell? ⟨w.heap.size, 4, none⟩ = some (.int .i64 (b 4)) := (blk_cell D1a.out 4).trans rfl
      have flo := blk_frozen D1a.out 4
      have x2 : wn.cell? ⟨gx, 2, none⟩ = some (.int .i64 xn) := (blk_cell DX.out 2).trans rfl
      go_region
      rw [show (if b 4 < xn then xn else b 4) = mx (b 4) xn from rfl]
      generalize hv : Value.int .i64 (mx (b 4) xn) = v at *
      replace D1a := Aside0.mk (blk_drew (blk_set D1a.out 4 v))
      replace D2a := Aside0.mk (blk_drew (blk_far D2a.out (p := ⟨w.heap.size, 4, none⟩) (fun e => Nat.succ_ne_self _ e) v))
      replace DX := Aside0.mk (blk_drew (blk_far DX.out (p := ⟨w.heap.size, 4, none⟩) (show gx ≠ w.heap.size by omega) v))
      replace BWa := Aside0.mk (below_drew1 (below_set (j := 4) (v := v) BWa.out (Nat.le_refl _)))
      clear hlo flo x2
      generalize (wn.setCell ⟨w.heap.size, 4, none⟩ v).drew = wn at *
      have x1 : wn.cell? ⟨gx, 1, none⟩ = some (.int .i64 1) := (blk_cell DX.out 1).trans rfl
      go_wp2
      clear x1
      go_roundg (l0.length - (kk + 1))
      case measure => omega
      case rel => exact ⟨kk + 1, impl_narrowed.one b ⟨2, 1, xn⟩, by omega, by omega, by go_num, ⟨BWa.out⟩, ⟨by rw [← EB.out]; exact D1a.out⟩, ⟨D2a.out⟩, ⟨HF2.out⟩⟩
     ·have q2 : (xo != 2) = true := bne_iff_ne.mpr o2
      have q1 : (xo != 1) = true := bne_iff_ne.mpr o1
      have x1 : (wr.alloc (.cells #[.int .i64 2, .int .i64 xo, .int .i64 xn] 69)).cell? ⟨wr.heap.size, 1, none⟩ = some (.int .i64 xo) := (blk_cell DX.out 1).trans rfl
      have x2 : (wr.alloc (.cells #[.int .i64 2, .int .i64 xo, .int .i64 xn] 69)).cell? ⟨wr.heap.size, 2, none⟩ = some (.int .i64 xn) := (blk_cell DX.out 2).trans rfl
      have EB := Aside0.mk (show ((impl_narrowed.nC b).setIfInBounds 4 (.int .i64 (mx (b 4) xn))).setIfInBounds 5 (.int .i64 (mn (b 5) xn)) = impl_narrowed.nC (impl_narrowed.one b ⟨2, xo, xn⟩) by simp [impl_narrowed.nC, impl_narrowed.one, o1, o2])
      clear o1 o2
      go_wp2
      clear x1 x2
      generalize wr.alloc (.cells #[.int .i64 2, .int .i64 xo, .int .i64 xn] 69) = wn at *
      generalize wr.heap.size = gx at *
      have hlo : wn.cell? ⟨w.heap.size, 4, none⟩ = some (.int .i64 (b 4)) := (blk_cell D1a.out 4).trans rfl
      have flo := blk_frozen D1a.out 4
      have x2 : wn.cell? ⟨gx, 2, none⟩ = some (.int .i64 xn) := (blk_cell DX.out 2).trans rfl
      go_region
      rw [show (if b 4 < xn then xn else b 4) = mx (b 4) xn from rfl]
      generalize hv : Value.int .i64 (mx (b 4) xn) = v at *
      replace D1a := Aside0.mk (blk_drew (blk_set D1a.out 4 v))
      replace D2a := Aside0.mk (blk_drew (blk_far D2a.out (p := ⟨w.heap.size, 4, none⟩) (fun e => Nat.succ_ne_self _ e) v))
      replace DX := Aside0.mk (blk_drew (blk_far DX.out (p := ⟨w.heap.size, 4, none⟩) (show gx ≠ w.heap.size by omega) v))
      replace BWa := Aside0.mk (below_drew1 (below_set (j := 4) (v := v) BWa.out (Nat.le_refl _)))
      clear hlo flo x2
      generalize (wn.setCell ⟨w.heap.size, 4, none⟩ v).drew = wn at *
      have x1 : wn.cell? ⟨gx, 1, none⟩ = some (.int .i64 xo) := (blk_cell DX.out 1).trans rfl
      go_wp2
      clear x1
      have hlo : wn.cell? ⟨w.heap.size, 5, none⟩ = some (.int .i64 (b 5)) := (blk_cell D1a.out 5).trans rfl
      have flo := blk_frozen D1a.out 5
      have x2 : wn.cell? ⟨gx, 2, none⟩ = some (.int .i64 xn) := (blk_cell DX.out 2).trans rfl
      go_region
      rw [show (if xn < b 5 then xn else b 5) = mn (b 5) xn from rfl]
      generalize hv : Value.int .i64 (mn (b 5) xn) = v at *
      replace D1a := Aside0.mk (blk_drew (blk_set D1a.out 5 v))
      replace D2a := Aside0.mk (blk_drew (blk_far D2a.out (p := ⟨w.heap.size, 5, none⟩) (fun e => Nat.succ_ne_self _ e) v))
      replace BWa := Aside0.mk (below_drew1 (below_set (j := 5) (v := v) BWa.out (Nat.le_refl _)))
      clear hlo flo x2
      generalize (wn.setCell ⟨w.heap.size, 5, none⟩ v).drew = wn at *
      go_wp2
      go_roundg (l0.length - (kk + 1))
      case measure => omega
      case rel => exact ⟨kk + 1, impl_narrowed.one b ⟨2, xo, xn⟩, by omega, by omega, by go_num, ⟨BWa.out⟩, ⟨by rw [← EB.out]; exact D1a.out⟩, ⟨D2a.out⟩, ⟨HF2.out⟩⟩
   ·by_cases o2 : xo = 2
    ·subst o2
     have q2 : ((2 : Int) != 2) = false := rfl
     have q1 : ((2 : Int) != 1) = true := rfl
     have x1 : (wr.alloc (.cells #[.int .i64 3, .int .i64 2, .int .i64 xn] 69)).cell? ⟨wr.heap.size, 1, none⟩ = some (.int .i64 2) := (blk_cell DX.out 1).trans rfl
     have x2 : (wr.alloc (.cells #[.int .i64 3, .int .i64 2, .int .i64 xn] 69)).cell? ⟨wr.heap.size, 2, none⟩ = some (.int .i64 xn) := (blk_cell DX.out 2).trans rfl
     have EB := Aside0.mk (show (impl_narrowed.nC b).setIfInBounds 7 (.int .i64 (mn (b 7) xn)) = impl_narrowed.nC (impl_narrowed.one b ⟨3, 2, xn⟩) by simp [impl_narrowed.nC, impl_narrowed.one])
     go_wp2
     clear x1 x2
     generalize wr.alloc (.cells #[.int .i64 3, .int .i64 2, .int .i64 xn] 69) = wn at *
     generalize wr.heap.size = gx at *
     have hlo : wn.cell? ⟨w.heap.size, 7, none⟩ = some (.int .i64 (b 7)) := (blk_cell D1a.out 7).trans rfl
     have flo := blk_frozen D1a.out 7
     have x2 : wn.cell? ⟨gx, 2, none⟩ = some (.int .i64 xn) := (blk_cell DX.out 2).trans rfl
     go_region
     rw [show (if xn < b 7 then xn else b 7) = mn (b 7) xn from rfl]
     generalize hv : Value.int .i64 (mn (b 7) xn) = v at *
     replace D1a := Aside0.mk (blk_drew (blk_set D1a.out 7 v))
     replace D2a := Aside0.mk (blk_drew (blk_far D2a.out (p := ⟨w.heap.size, 7, none⟩) (fun e => Nat.succ_ne_self _ e) v))
     replace BWa := Aside0.mk (below_drew1 (below_set (j := 7) (v := v) BWa.out (Nat.le_refl _)))
     clear hlo flo x2
     generalize (wn.setCell ⟨w.heap.size, 7, none⟩ v).drew = wn at *
     go_wp2
     go_roundg (l0.length - (kk + 1))
     case measure => omega
     case rel => exact ⟨kk + 1, impl_narrowed.one b ⟨3, 2, xn⟩, by omega, by omega, by go_num, ⟨BWa.out⟩, ⟨by rw [← EB.out]; exact D1a.out⟩, ⟨D2a.out⟩, ⟨HF2.out⟩⟩
    ·by_cases o1 : xo = 1
     ·subst o1
      have q2 : ((1 : Int) != 2) = true := rfl
      have q1 : ((1 : Int) != 1) = false := rfl
      clear o2
      have x1 : (wr.alloc (.cells #[.int .i64 3, .int .i64 1, .int .i64 xn] 69)).cell? ⟨wr.heap.size, 1, none⟩ = some (.int .i64 1) := (blk_cell DX.out 1).trans rfl
      have x2 : (wr.alloc (.cells #[.int .i64 3, .int .i64 1, .int .i64 xn] 69)).cell? ⟨wr.heap.size, 2, none⟩ = some (.int .i64 xn) := (blk_cell DX.out 2).trans rfl
      have EB := Aside0.mk (show (impl_narrowed.nC b).setIfInBounds 6 (.int .i64 (mx (b 6) xn)) = impl_narrowed.nC (impl_narrowed.one b ⟨3, 1, xn⟩) by simp [impl_narrowed.nC, impl_narrowed.one])
      go_wp2
      clear x1 x2
      generalize wr.alloc (.cells #[.int .i64 3, .int .i64 1, .int .i64 xn] 69) = wn at *
      generalize wr.heap.size = gx at *
      have hlo : wn.cell? ⟨w.heap.size, 6, none⟩ = some (.int .i64 (b 6)) := (blk_cell D1a.out 6).trans rfl
      have flo := blk_frozen D1a.out 6
      have x2 : wn.cell? ⟨gx, 2, none⟩ = some (.int .i64 xn) := (blk_cell DX.out 2).trans rfl
      go_region
      rw [show (if b 6 < xn then xn else b 6) = mx (b 6) xn from rfl]
      generalize hv : Value.int .i64 (mx (b 6) xn) = v at *
      replace D1a := Aside0.mk (blk_drew (blk_set D1a.out 6 v))
      replace D2a := Aside0.mk (blk_drew (blk_far D2a.out (p := ⟨w.heap.size, 6, none⟩) (fun e => Nat.succ_ne_self _ e) v))
      replace DX := Aside0.mk (blk_drew (blk_far DX.out (p := ⟨w.heap.size, 6, none⟩) (show gx ≠ w.heap.size by omega) v))
      replace BWa := Aside0.mk (below_drew1 (below_set (j := 6) (v := v) BWa.out (Nat.le_refl _)))
      clear hlo flo x2
      generalize (wn.setCell ⟨w.heap.size, 6, none⟩ v).drew = wn at *
      have x1 : wn.cell? ⟨gx, 1, none⟩ = some (.int .i64 1) := (blk_cell DX.out 1).trans rfl
      go_wp2
      clear x1
      go_roundg (l0.length - (kk + 1))
      case measure => omega
      case rel => exact ⟨kk + 1, impl_narrowed.one b ⟨3, 1, xn⟩, by omega, by omega, by go_num, ⟨BWa.out⟩, ⟨by rw [← EB.out]; exact D1a.out⟩, ⟨D2a.out⟩, ⟨HF2.out⟩⟩
     ·have q2 : (xo != 2) = true := bne_iff_ne.mpr o2
      have q1 : (xo != 1) = true := bne_iff_ne.mpr o1
      have x1 : (wr.alloc (.cells #[.int .i64 3, .int .i64 xo, .int .i64 xn] 69)).cell? ⟨wr.heap.size, 1, none⟩ = some (.int .i64 xo) := (blk_cell DX.out 1).trans rfl
      have x2 : (wr.alloc (.cells #[.int .i64 3, .int .i64 xo, .int .i64 xn] 69)).cell? ⟨wr.heap.size, 2, none⟩ = some (.int .i64 xn) := (blk_cell DX.out 2).trans rfl
      have EB := Aside0.mk (show ((impl_narrowed.nC b).setIfInBounds 6 (.int .i64 (mx (b 6) xn))).setIfInBounds 7 (.int .i64 (mn (b 7) xn)) = impl_narrowed.nC (impl_narrowed.one b ⟨3, xo, xn⟩) by simp [impl_narrowed.nC, impl_narrowed.one, o1, o2])
      clear o1 o2
      go_wp2
      clear x1 x2
      generalize wr.alloc (.cells #[.int .i64 3, .int .i64 xo, .int .i64 xn] 69) = wn at *
      generalize wr.heap.size = gx at *
      have hlo : wn.cell? ⟨w.heap.size, 6, none⟩ = some (.int .i64 (b 6)) := (blk_cell D1a.out 6).trans rfl
      have flo := blk_frozen D1a.out 6
      have x2 : wn.cell? ⟨gx, 2, none⟩ = some (.int .i64 xn) := (blk_cell DX.out 2).trans rfl
      go_region
      rw [show (if b 6 < xn then xn else b 6) = mx (b 6) xn from rfl]
      generalize hv : Value.int .i64 (mx (b 6) xn) = v at *
      replace D1a := Aside0.mk (blk_drew (blk_set D1a.out 6 v))
      replace D2a := Aside0.mk (blk_drew (blk_far D2a.out (p := ⟨w.heap.size, 6, none⟩) (fun e => Nat.succ_ne_self _ e) v))
      replace DX := Aside0.mk (blk_drew (blk_far DX.out (p := ⟨w.heap.size, 6, none⟩) (show gx ≠ w.heap.size by omega) v))
      replace BWa := Aside0.mk (below_drew1 (below_set (j := 6) (v := v) BWa.out (Nat.le_refl _)))
      clear hlo flo x2
      generalize (wn.setCell ⟨w.heap.size, 6, none⟩ v).drew = wn at *
      have x1 : wn.cell? ⟨gx, 1, none⟩ = some (.int .i64 xo) := (blk_cell DX.out 1).trans rfl
      go_wp2
      clear x1
      have hlo : wn.cell? ⟨w.heap.size, 7, none⟩ = some (.int .i64 (b 7)) := (blk_cell D1a.out 7).trans rfl
      have flo := blk_frozen D1a.out 7
      have x2 : wn.cell? ⟨gx, 2, none⟩ = some (.int .i64 xn) := (blk_cell DX.out 2).trans rfl
      go_region
      rw [show (if xn < b 7 then xn else b 7) = mn (b 7) xn from rfl]
      generalize hv : Value.int .i64 (mn (b 7) xn) = v at *
      replace D1a := Aside0.mk (blk_drew (blk_set D1a.out 7 v))
      replace D2a := Aside0.mk (blk_drew (blk_far D2a.out (p := ⟨w.heap.size, 7, none⟩) (fun e => Nat.succ_ne_self _ e) v))
      replace BWa := Aside0.mk (below_drew1 (below_set (j := 7) (v := v) BWa.out (Nat.le_refl _)))
      clear hlo flo x2
      generalize (wn.setCell ⟨w.heap.size, 7, none⟩ v).drew = wn at *
      go_wp2
      go_roundg (l0.length - (kk + 1))
      case measure => omega
      case rel => exact ⟨kk + 1, impl_narrowed.one b ⟨3, xo, xn⟩, by omega, by omega, by go_num, ⟨BWa.out⟩, ⟨by rw [← EB.out]; exact D1a.out⟩, ⟨D2a.out⟩, ⟨HF2.out⟩⟩
   ·by_cases o2 : xo = 2
    ·subst o2
     have q2 : ((2 : Int) != 2) = false := rfl
     have q1 : ((2 : Int) != 1) = true := rfl
     have x1 : (wr.alloc (.cells #[.int .i64 4, .int .i64 2, .int .i64 xn] 69)).cell? ⟨wr.heap.size, 1, none⟩ = some (.int .i64 2) := (blk_cell DX.out 1).trans rfl
     have x2 : (wr.alloc (.cells #[.int .i64 4, .int .i64 2, .int .i64 xn] 69)).cell? ⟨wr.heap.size, 2, none⟩ = some (.int .i64 xn) := (blk_cell DX.out 2).trans rfl
     have EB := Aside0.mk (show (impl_narrowed.nC b).setIfInBounds 9 (.int .i64 (mn (b 9) xn)) = impl_narrowed.nC (impl_narrowed.one b ⟨4, 2, xn⟩) by simp [impl_narrowed.nC, impl_narrowed.one])
     go_wp2
     clear x1 x2
     generalize wr.alloc (.cells #[.int .i64 4, .int .i64 2, .int .i64 xn] 69) = wn at *
     generalize wr.heap.size = gx at *
     have hlo : wn.cell? ⟨w.heap.size, 9, none⟩ = some (.int .i64 (b 9)) := (blk_cell D1a.out 9).trans rfl
     have flo := blk_frozen D1a.out 9
     have x2 : wn.cell? ⟨gx, 2, none⟩ = some (.int .i64 xn) := (blk_cell DX.out 2).trans rfl
     go_region
     rw [show (if xn < b 9 then xn else b 9) = mn (b 9) xn from rfl]
     generalize hv : Value.int .i64 (mn (b 9) xn) = v at *
     replace D1a := Aside0.mk (blk_drew (blk_set D1a.out 9 v))
     replace D2a := Aside0.mk (blk_drew (blk_far D2a.out (p := ⟨w.heap.size, 9, none⟩) (fun e => Nat.succ_ne_self _ e) v))
     replace BWa := Aside0.mk (below_drew1 (below_set (j := 9) (v := v) BWa.out (Nat.le_refl _)))
     clear hlo flo x2
     generalize (wn.setCell ⟨w.heap.size, 9, none⟩ v).drew = wn at *
     go_wp2
     go_roundg (l0.length - (kk + 1))
     case measure => omega
     case rel => exact ⟨kk + 1, impl_narrowed.one b ⟨4, 2, xn⟩, by omega, by omega, by go_num, ⟨BWa.out⟩, ⟨by rw [← EB.out]; exact D1a.out⟩, ⟨D2a.out⟩, ⟨HF2.out⟩⟩
    ·by_cases o1 : xo = 1
     ·subst o1
      have q2 : ((1 : Int) != 2) = true := rfl
      have q1 : ((1 : Int) != 1) = false := rfl
      clear o2
      have x1 : (wr.alloc (.cells #[.int .i64 4, .int .i64 1, .int .i64 xn] 69)).cell? ⟨wr.heap.size, 1, none⟩ = some (.int .i64 1) := (blk_cell DX.out 1).trans rfl
      have x2 : (wr.alloc (.cells #[.int .i64 4, .int .i64 1, .int .i64 xn] 69)).cell? ⟨wr.heap.size, 2, none⟩ = some (.int .i64 xn) := (blk_cell DX.out 2).trans rfl
      have EB := Aside0.mk (show (impl_narrowed.nC b).setIfInBounds 8 (.int .i64 (mx (b 8) xn)) = impl_narrowed.nC (impl_narrowed.one b ⟨4, 1, xn⟩) by simp [impl_narrowed.nC, impl_narrowed.one])
      go_wp2
      clear x1 x2
      generalize wr.alloc (.cells #[.int .i64 4, .int .i64 1, .int .i64 xn] 69) = wn at *
      generalize wr.heap.size = gx at *
      have hlo : wn.cell? ⟨w.heap.size, 8, none⟩ = some (.int .i64 (b 8)) := (blk_cell D1a.out 8).trans rfl
      have flo := blk_frozen D1a.out 8
      have x2 : wn.cell? ⟨gx, 2, none⟩ = some (.int .i64 xn) := (blk_cell DX.out 2).trans rfl
      go_region
      rw [show (if b 8 < xn then xn else b 8) = mx (b 8) xn from rfl]
      generalize hv : Value.int .i64 (mx (b 8) xn) = v at *
      replace D1a := Aside0.mk (blk_drew (blk_set D1a.out 8 v))
      replace D2a := Aside0.mk (blk_drew (blk_far D2a.out (p := ⟨w.heap.size, 8, none⟩) (fun e => Nat.succ_ne_self _ e) v))
      replace DX := Aside0.mk (blk_drew (blk_far DX.out (p := ⟨w.heap.size, 8, none⟩) (show gx ≠ w.heap.size by omega) v))
      replace BWa := Aside0.mk (below_drew1 (below_set (j := 8) (v := v) BWa.out (Nat.le_refl _)))
      clear hlo flo x2
      generalize (wn.setCell ⟨w.heap.size, 8, none⟩ v).drew = wn at *
      have x1 : wn.cell? ⟨gx, 1, none⟩ = some (.int .i64 1) := (blk_cell DX.out 1).trans rfl
      go_wp2
      clear x1
      go_roundg (l0.length - (kk + 1))
      case measure => omega
      case rel => exact ⟨kk + 1, impl_narrowed.one b ⟨4, 1, xn⟩, by omega, by omega, by go_num, ⟨BWa.out⟩, ⟨by rw [← EB.out]; exact D1a.out⟩, ⟨D2a.out⟩, ⟨HF2.out⟩⟩
     ·have q2 : (xo != 2) = true := bne_iff_ne.mpr o2
      have q1 : (xo != 1) = true := bne_iff_ne.mpr o1
      have x1 : (wr.alloc (.cells #[.int .i64 4, .int .i64 xo, .int .i64 xn] 69)).cell? ⟨wr.heap.size, 1, none⟩ = some (.int .i64 xo) := (blk_cell DX.out 1).trans rfl
      have x2 : (wr.alloc (.cells #[.int .i64 4, .int .i64 xo, .int .i64 xn] 69)).cell? ⟨wr.heap.size, 2, none⟩ = some (.int .i64 xn) := (blk_cell DX.out 2).trans rfl
      have EB := Aside0.mk (show ((impl_narrowed.nC b).setIfInBounds 8 (.int .i64 (mx (b 8) xn))).setIfInBounds 9 (.int .i64 (mn (b 9) xn)) = impl_narrowed.nC (impl_narrowed.one b ⟨4, xo, xn⟩) by simp [impl_narrowed.nC, impl_narrowed.one, o1, o2])
      clear o1 o2
      go_wp2
      clear x1 x2
      generalize wr.alloc (.cells #[.int .i64 4, .int .i64 xo, .int .i64 xn] 69) = wn at *
      generalize wr.heap.size = gx at *
      have hlo : wn.cell? ⟨w.heap.size, 8, none⟩ = some (.int .i64 (b 8)) := (blk_cell D1a.out 8).trans rfl
      have flo := blk_frozen D1a.out 8
      have x2 : wn.cell? ⟨gx, 2, none⟩ = some (.int .i64 xn) := (blk_cell DX.out 2).trans rfl
      go_region
      rw [show (if b 8 < xn then xn else b 8) = mx (b 8) xn from rfl]
      generalize hv : Value.int .i64 (mx (b 8) xn) = v at *
      replace D1a := Aside0.mk (blk_drew (blk_set D1a.out 8 v))
      replace D2a := Aside0.mk (blk_drew (blk_far D2a.out (p := ⟨w.heap.size, 8, none⟩) (fun e => Nat.succ_ne_self _ e) v))
      replace DX := Aside0.mk (blk_drew (blk_far DX.out (p := ⟨w.heap.size, 8, none⟩) (show gx ≠ w.heap.size by omega) v))
      replace BWa := Aside0.mk (below_drew1 (below_set (j := 8) (v := v) BWa.out (Nat.le_refl _)))
      clear hlo flo x2
      generalize (wn.setCell ⟨w.heap.size, 8, none⟩ v).drew = wn at *
      have x1 : wn.cell? ⟨gx, 1, none⟩ = some (.int .i64 xo) := (blk_cell DX.out 1).trans rfl
      go_wp2
      clear x1
      have hlo : wn.cell? ⟨w.heap.size, 9, none⟩ = some (.int .i64 (b 9)) := (blk_cell D1a.out 9).trans rfl
      have flo := blk_frozen D1a.out 9
      have x2 : wn.cell? ⟨gx, 2, none⟩ = some (.int .i64 xn) := (blk_cell DX.out 2).trans rfl
      go_region
      rw [show (if xn < b 9 then xn else b 9) = mn (b 9) xn from rfl]
      generalize hv : Value.int .i64 (mn (b 9) xn) = v at *
      replace D1a := Aside0.mk (blk_drew (blk_set D1a.out 9 v))
      replace D2a := Aside0.mk (blk_drew (blk_far D2a.out (p := ⟨w.heap.size, 9, none⟩) (fun e => Nat.succ_ne_self _ e) v))
      replace BWa := Aside0.mk (below_drew1 (below_set (j := 9) (v := v) BWa.out (Nat.le_refl _)))
      clear hlo flo x2
      generalize (wn.setCell ⟨w.heap.size, 9, none⟩ v).drew = wn at *
      go_wp2
      go_roundg (l0.length - (kk + 1))
      case measure => omega
      case rel => exact ⟨kk + 1, impl_narrowed.one b ⟨4, xo, xn⟩, by omega, by omega, by go_num, ⟨BWa.out⟩, ⟨by rw [← EB.out]; exact D1a.out⟩, ⟨D2a.out⟩, ⟨HF2.out⟩⟩
   ·by_cases o2 : xo = 2
    ·subst o2
     have q2 : ((2 : Int) != 2) = false := rfl
     have q1 : ((2 : Int) != 1) = true := rfl
     have x1 : (wr.alloc (.cells #[.int .i64 5, .int .i64 2, .int .i64 xn] 69)).cell? ⟨wr.heap.size, 1, none⟩ = some (.int .i64 2) := (blk_cell DX.out 1).trans rfl
     have x2 : (wr.alloc (.cells #[.int .i64 5, .int .i64 2, .int .i64 xn] 69)).cell? ⟨wr.heap.size, 2, none⟩ = some (.int .i64 xn) := (blk_cell DX.out 2).trans rfl
     have EB := Aside0.mk (show (impl_narrowed.nC b).setIfInBounds 11 (.int .i64 (mn (b 11) xn)) = impl_narrowed.nC (impl_narrowed.one b ⟨5, 2, xn⟩) by simp [impl_narrowed.nC, impl_narrowed.one])
     go_wp2
     clear x1 x2
     generalize wr.alloc (.cells #[.int .i64 5, .int .i64 2, .int .i64 xn] 69) = wn at *
     generalize wr.heap.size = gx at *
     have hlo : wn.cell? ⟨w.heap.size, 11, none⟩ = some (.int .i64 (b 11)) := (blk_cell D1a.out 11).trans rfl
     have flo := blk_frozen D1a.out 11
     have x2 : wn.cell? ⟨gx, 2, none⟩ = some (.int .i64 xn) := (blk_cell DX.out 2).trans rfl
     go_region
     rw [show (if xn < b 11 then xn else b 11) = mn (b 11) xn from rfl]
     generalize hv : Value.int .i64 (mn (b 11) xn) = v at *
     replace D1a := Aside0.mk (blk_drew (blk_set D1a.out 11 v))
     replace D2a := Aside0.mk (blk_drew (blk_far D2a.out (p := ⟨w.heap.size, 11, none⟩) (fun e => Nat.succ_ne_self _ e) v))
     replace BWa := Aside0.mk (below_drew1 (below_set (j := 11) (v := v) BWa.out (Nat.le_refl _)))
     clear hlo flo x2
     generalize (wn.setCell ⟨w.heap.size, 11, none⟩ v).drew = wn at *
     go_wp2
     go_roundg (l0.length - (kk + 1))
     case measure => omega
     case rel => exact ⟨kk + 1, impl_narrowed.one b ⟨5, 2, xn⟩, by omega, by omega, by go_num, ⟨BWa.out⟩, ⟨by rw [← EB.out]; exact D1a.out⟩, ⟨D2a.out⟩, ⟨HF2.out⟩⟩
    ·by_cases o1 : xo = 1
     ·subst o1
      have q2 : ((1 : Int) != 2) = true := rfl
      have q1 : ((1 : Int) != 1) = false := rfl
      clear o2
      have x1 : (wr.alloc (.cells #[.int .i64 5, .int .i64 1, .int .i64 xn] 69)).cell? ⟨wr.heap.size, 1, none⟩ = some (.int .i64 1) := (blk_cell DX.out 1).trans rfl
      have x2 : (wr.alloc (.cells #[.int .i64 5, .int .i64 1, .int .i64 xn] 69)).cell? ⟨wr.heap.size, 2, none⟩ = some (.int .i64 xn) := (blk_cell DX.out 2).trans rfl
      have EB := Aside0.mk (show (impl_narrowed.nC b).setIfInBounds 10 (.int .i64 (mx (b 10) xn)) = impl_narrowed.nC (impl_narrowed.one b ⟨5, 1, xn⟩) by simp [impl_narrowed.nC, impl_narrowed.one])
      go_wp2
      clear x1 x2
      generalize wr.alloc (.cells #[.int .i64 5, .int .i64 1, .int .i64 xn] 69) = wn at *
      generalize wr.heap.size = gx at *
      have hlo : wn.cell? ⟨w.heap.size, 10, none⟩ = some (.int .i64 (b 10)) := (blk_cell D1a.out 10).trans rfl
      have flo := blk_frozen D1a.out 10
      have x2 : wn.cell? ⟨gx, 2, none⟩ = some (.int .i64 xn) := (blk_cell DX.out 2).trans rfl
      go_region
      rw [show (if b 10 < xn then xn else b 10) = mx (b 10) xn from rfl]
      generalize hv : Value.int .i64 (mx (b 10) xn) = v at *
      replace D1a := Aside0.mk (blk_drew (blk_set D1a.out 10 v))
      replace D2a := Aside0.mk (blk_drew (blk_far D2a.out (p := ⟨w.heap.size, 10, none⟩) (fun e => Nat.succ_ne_self _ e) v))
      replace DX := Aside0.mk (blk_drew (blk_far DX.out (p := ⟨w.heap.size, 10, none⟩) (show gx ≠ w.heap.size by omega) v))
      replace BWa := Aside0.mk (below_drew1 (below_set (j := 10) (v := v) BWa.out (Nat.le_refl _)))
      clear hlo flo x2
      generalize (wn.setCell ⟨w.heap.size, 10, none⟩ v).drew = wn at *
      have x1 : wn.cell? ⟨gx, 1, none⟩ = some (.int .i64 1) := (blk_cell DX.out 1).trans rfl
      go_wp2
      clear x1
      go_roundg (l0.length - (kk + 1))
      case measure => omega
      case rel => exact ⟨kk + 1, impl_narrowed.one b ⟨5, 1, xn⟩, by omega, by omega, by go_num, ⟨BWa.out⟩, ⟨by rw [← EB.out]; exact D1a.out⟩, ⟨D2a.out⟩, ⟨HF2.out⟩⟩
     ·have q2 : (xo != 2) = true := bne_iff_ne.mpr o2
      have q1 : (xo != 1) = true := bne_iff_ne.mpr o1
      have x1 : (wr.alloc (.cells #[.int .i64 5, .int .i64 xo, .int .i64 xn] 69)).cell? ⟨wr.heap.size, 1, none⟩ = some (.int .i64 xo) := (blk_cell DX.out 1).trans rfl
      have x2 : (wr.alloc (.cells #[.int .i64 5, .int .i64 xo, .int .i64 xn] 69)).cell? ⟨wr.heap.size, 2, none⟩ = some (.int .i64 xn) := (blk_cell DX.out 2).trans rfl
      have EB := Aside0.mk (show ((impl_narrowed.nC b).setIfInBounds 10 (.int .i64 (mx (b 10) xn))).setIfInBounds 11 (.int .i64 (mn (b 11) xn)) = impl_narrowed.nC (impl_narrowed.one b ⟨5, xo, xn⟩) by simp [impl_narrowed.nC, impl_narrowed.one, o1, o2])
      clear o1 o2
      go_wp2
      clear x1 x2
      generalize wr.alloc (.cells #[.int .i64 5, .int .i64 xo, .int .i64 xn] 69) = wn at *
      generalize wr.heap.size = gx at *
      have hlo : wn.cell? ⟨w.heap.size, 10, none⟩ = some (.int .i64 (b 10)) := (blk_cell D1a.out 10).trans rfl
      have flo := blk_frozen D1a.out 10
      have x2 : wn.cell? ⟨gx, 2, none⟩ = some (.int .i64 xn) := (blk_cell DX.out 2).trans rfl
      go_region
      rw [show (if b 10 < xn then xn else b 10) = mx (b 10) xn from rfl]
      generalize hv : Value.int .i64 (mx (b 10) xn) = v at *
      replace D1a := Aside0.mk (blk_drew (blk_set D1a.out 10 v))
      replace D2a := Aside0.mk (blk_drew (blk_far D2a.out (p := ⟨w.heap.size, 10, none⟩) (fun e => Nat.succ_ne_self _ e) v))
      replace DX := Aside0.mk (blk_drew (blk_far DX.out (p := ⟨w.heap.size, 10, none⟩) (show gx ≠ w.heap.size by omega) v))
      replace BWa := Aside0.mk (below_drew1 (below_set (j := 10) (v := v) BWa.out (Nat.le_refl _)))
      clear hlo flo x2
      generalize (wn.setCell ⟨w.heap.size, 10, none⟩ v).drew = wn at *
      have x1 : wn.cell? ⟨gx, 1, none⟩ = some (.int .i64 xo) := (blk_cell DX.out 1).trans rfl
      go_wp2
      clear x1
      have hlo : wn.cell? ⟨w.heap.size, 11, none⟩ = some (.int .i64 (b 11)) := (blk_cell D1a.out 11).trans rfl
      have flo := blk_frozen D1a.out 11
      have x2 : wn.cell? ⟨gx, 2, none⟩ = some (.int .i64 xn) := (blk_cell DX.out 2).trans rfl
      go_region
      rw [show (if xn < b 11 then xn else b 11) = mn (b 11) xn from rfl]
      generalize hv : Value.int .i64 (mn (b 11) xn) = v at *
      replace D1a := Aside0.mk (blk_drew (blk_set D1a.out 11 v))
      replace D2a := Aside0.mk (blk_drew (blk_far D2a.out (p := ⟨w.heap.size, 11, none⟩) (fun e => Nat.succ_ne_self _ e) v))
      replace BWa := Aside0.mk (below_drew1 (below_set (j := 11) (v := v) BWa.out (Nat.le_refl _)))
      clear hlo flo x2
      generalize (wn.setCell ⟨w.heap.size, 11, none⟩ v).drew = wn at *
      go_wp2
      go_roundg (l0.length - (kk + 1))
      case measure => omega
      case rel => exact ⟨kk + 1, impl_narrowed.one b ⟨5, xo, xn⟩, by omega, by omega, by go_num, ⟨BWa.out⟩, ⟨by rw [← EB.out]; exact D1a.out⟩, ⟨D2a.out⟩, ⟨HF2.out⟩⟩
  ·have hltz : ¬ (kk : Int) < (l0.length : Int) := by omega
   have : kk = l0.length := by omega
   subst this
   have hf := HF.out
   rw [List.drop_length, impl_narrowed.go] at hf
   have HFF := Aside0.mk hf
   clear hf
   have z := blk_cell (show wr.heap[w.heap.size]? = some (.cells #[.int .i64 (b 0), .int .i64 (b 1), .int .i64 (b 2), .int .i64 (b 3), .int .i64 (b 4), .int .i64 (b 5), .int .i64 (b 6), .int .i64 (b 7), .int .i64 (b 8), .int .i64 (b 9), .int .i64 (b 10), .int .i64 (b 11)] 54 (0, 0)) from D1.out)
   have zz := blk_cell D2.out
   have ff := blk_frozen D2.out
   go_wp2
   refine bodyPost_ret (results_single rfl (.cell (w.heap.size + 1) 54 #[.int .i64 (b 0), .int .i64 (b 1), .int .i64 (b 2), .int .i64 (b 3), .int .i64 (b 4), .int .i64 (b 5), .int .i64 (b 6), .int .i64 (b 7), .int .i64 (b 8), .int .i64 (b 9), .int .i64 (b 10), .int .i64 (b 11)] (0, 0) _ rfl (by simpa using blk_set (blk_set (blk_set (blk_set (blk_set (blk_set (blk_set (blk_set (blk_set (blk_set (blk_set (blk_set (D2.out) 0 (.int .i64 (b 0))) 1 (.int .i64 (b 1))) 2 (.int .i64 (b 2))) 3 (.int .i64 (b 3))) 4 (.int .i64 (b 4))) 5 (.int .i64 (b 5))) 6 (.int .i64 (b 6))) 7 (.int .i64 (b 7))) 8 (.int .i64 (b 8))) 9 (.int .i64 (b 9))) 10 (.int .i64 (b 10))) 11 (.int .i64 (b 11))) Try.underlying54 rfl (by kernel_rfl) .nil)) rfl ?_
   refine ⟨by rw [← HFF.out], ?_⟩
   repeat (refine below_set ?_ (Nat.le_succ _))
   exact BW.out

/-! ### impl_bounds: function 22, by hand -/
def impl_bounds.all : Nat → Int
 | 2 => 1 | 3 => 999 | 5 => 1000000 | 7 => 23 | 8 => 1 | 9 => 7 | 11 => 120 | _ => 0
set_option maxHeartbeats 8000000 in
set_option maxRecDepth 100000 in
theorem impl_bounds.calls (a0_0 : ByteArray) (A1 : Option Addr) (c1 : Nat) (l0_1 : List S69) (a0_2 a0_3 : Int) (w : World) (hr : Kd.C k69 w A1 l0_1.length l0_1) (hc : l0_1.length ≤ c1) (ht : ∀ x ∈ l0_1, 1 ≤ x.f0 ∧ x.f0 ≤ 5) :
  Calls Try.prog 22 #[.agg #[.string a0_0, .slice A1 l0_1.length c1, .int .i64 a0_2, .int .i64 a0_3]] w fun e w' => e = .returned (.agg #[.int .i64 ((impl_narrowed.go impl_bounds.all l0_1) 0), .int .i64 ((impl_narrowed.go impl_bounds.all l0_1) 1), .int .i64 ((impl_narrowed.go impl_bounds.all l0_1) 2), .int .i64 ((impl_narrowed.go impl_bounds.all l0_1) 3), .int .i64 ((impl_narrowed.go impl_bounds.all l0_1) 4), .int .i64 ((impl_narrowed.go impl_bounds.all l0_1) 5), .int .i64 ((impl_narrowed.go impl_bounds.all l0_1) 6), .int .i64 ((impl_narrowed.go impl_bounds.all l0_1) 7), .int .i64 ((impl_narrowed.go impl_bounds.all l0_1) 8), .int .i64 ((impl_narrowed.go impl_bounds.all l0_1) 9), .int .i64 ((impl_narrowed.go impl_bounds.all l0_1) 10), .int .i64 ((impl_narrowed.go impl_bounds.all l0_1) 11)]) ∧ Below w.heap.size w w' := by
 have B2 : Aside0 (Below w.heap.size w ((w.alloc (.cells #[.string a0_0, .slice A1 l0_1.length c1, .int .i64 a0_2, .int .i64 a0_3] 32)).alloc (.cells #[.int .i64 0, .int .i64 0, .int .i64 0, .int .i64 0, .int .i64 0, .int .i64 0, .int .i64 0, .int .i64 0, .int .i64 0, .int .i64 0, .int .i64 0, .int .i64 0] 54))) := Aside0.mk (((Below.refl _ w).alloc (Nat.le_refl _) _).alloc (by simp) _)
 have D1 : Aside0 (((w.alloc (.cells #[.string a0_0, .slice A1 l0_1.length c1, .int .i64 a0_2, .int .i64 a0_3] 32)).alloc (.cells #[.int .i64 0, .int .i64 0, .int .i64 0, .int .i64 0, .int .i64 0, .int .i64 0, .int .i64 0, .int .i64 0, .int .i64 0, .int .i64 0, .int .i64 0, .int .i64 0] 54)).heap[w.heap.size]? = some (.cells #[.string a0_0, .slice A1 l0_1.length c1, .int .i64 a0_2, .int .i64 a0_3] 32 (0, 0))) := Aside0.mk (blk_alloc (blk_new w _) _)
 have D2 : Aside0 (((w.alloc (.cells #[.string a0_0, .slice A1 l0_1.length c1, .int .i64 a0_2, .int .i64 a0_3] 32)).alloc (.cells #[.int .i64 0, .int .i64 0, .int .i64 0, .int .i64 0, .int .i64 0, .int .i64 0, .int .i64 0, .int .i64 0, .int .i64 0, .int .i64 0, .int .i64 0, .int .i64 0] 54)).heap[w.heap.size + 1]? = some (.cells #[.int .i64 0, .int .i64 0, .int .i64 0, .int .i64 0, .int .i64 0, .int .i64 0, .int .i64 0, .int .i64 0, .int .i64 0, .int .i64 0, .int .i64 0, .int .i64 0] 54 (0, 0))) := Aside0.mk (by simpa using blk_new (w.alloc (.cells #[.string a0_0, .slice A1 l0_1.length c1, .int .i64 a0_2, .int .i64 a0_3] 32)) (.cells #[.int .i64 0, .int .i64 0, .int .i64 0, .int .i64 0, .int .i64 0, .int .i64 0, .int .i64 0, .int .i64 0, .int .i64 0, .int .i64 0, .int .i64 0, .int .i64 0] 54))
 have HR := Aside0.mk hr
 have HC := Aside0.mk hc
 have HT := Aside0.mk ht
 clear hr hc ht
 have hsz : w.heap.size + 1 < ((w.alloc (.cells #[.string a0_0, .slice A1 l0_1.length c1, .int .i64 a0_2, .int .i64 a0_3] 32)).alloc (.cells #[.int .i64 0, .int .i64 0, .int .i64 0, .int .i64 0, .int .i64 0, .int .i64 0, .int .i64 0, .int .i64 0, .int .i64 0, .int .i64 0, .int .i64 0, .int .i64 0] 54)).heap.size := blk_lt D2.out
 go_enter Try.func22, Try.ntmps22
 go_wp2
 generalize (w.alloc (.cells #[.string a0_0, .slice A1 l0_1.length c1, .int .i64 a0_2, .int .i64 a0_3] 32)).alloc (.cells #[.int .i64 0, .int .i64 0, .int .i64 0, .int .i64 0, .int .i64 0, .int .i64 0, .int .i64 0, .int .i64 0, .int .i64 0, .int .i64 0, .int .i64 0, .int .i64 0] 54) = w2 at *
 have e1 : w2.cell? ⟨w.heap.size, 1, none⟩ = some (.slice A1 l0_1.length c1) := (blk_cell D1.out 1).trans rfl
 go_region_with (first
  | (go_at_call 36; refine (impl_allBounds.calls _).mono ?_; rintro e w3 ⟨rfl, hb1⟩; have hb3 := (below_drew1 (Below.refl w2.heap.size w2)).trans hb1; clear hb1; have e3 : w3.cell? ⟨w.heap.size, 1, none⟩ = some (.slice A1 l0_1.length c1) := (blk_cell (blk_below D1.out hb3) 1).trans rfl)
  | (go_at_call 23; refine (impl_narrowed.calls impl_bounds.all A1 c1 l0_1 _ (Kd.C_below HR.out (B2.out.trans (hb3.mono B2.out.size))) HC.out HT.out).mono ?_; rintro e w4 ⟨rfl, hb4⟩; have hb5 := hb3.trans (hb4.mono hb3.size); have D3 := blk_below D2.out hb5; have z0 := (blk_cell D3 0).trans rfl; have f0 := blk_frozen D3 0; have z1 := (blk_cell D3 1).trans rfl; have f1 := blk_frozen D3 1; have z2 := (blk_cell D3 2).trans rfl; have f2 := blk_frozen D3 2; have z3 := (blk_cell D3 3).trans rfl; have f3 := blk_frozen D3 3; have z4 := (blk_cell D3 4).trans rfl; have f4 := blk_frozen D3 4; have z5 := (blk_cell D3 5).trans rfl; have f5 := blk_frozen D3 5; have z6 := (blk_cell D3 6).trans rfl; have f6 := blk_frozen D3 6; have z7 := (blk_cell D3 7).trans rfl; have f7 := blk_frozen D3 7; have z8 := (blk_cell D3 8).trans rfl; have f8 := blk_frozen D3 8; have z9 := (blk_cell D3 9).trans rfl; have f9 := blk_frozen D3 9; have z10 := (blk_cell D3 10).trans rfl; have f10 := blk_frozen D3 10; have z11 := (blk_cell D3 11).trans rfl; have f11 := blk_frozen D3 11))
 all_goals go_wp2
 all_goals (
  refine bodyPost_ret (results_single rfl (.cell (w.heap.size + 1) 54 #[.int .i64 ((impl_narrowed.go impl_bounds.all l0_1) 0), .int .i64 ((impl_narrowed.go impl_bounds.all l0_1) 1), .int .i64 ((impl_narrowed.go impl_bounds.all l0_1) 2), .int .i64 ((impl_narrowed.go impl_bounds.all l0_1) 3), .int .i64 ((impl_narrowed.go impl_bounds.all l0_1) 4), .int .i64 ((impl_narrowed.go impl_bounds.all l0_1) 5), .int .i64 ((impl_narrowed.go impl_bounds.all l0_1) 6), .int .i64 ((impl_narrowed.go impl_bounds.all l0_1) 7), .int .i64 ((impl_narrowed.go impl_bounds.all l0_1) 8), .int .i64 ((impl_narrowed.go impl_bounds.all l0_1) 9), .int .i64 ((impl_narrowed.go impl_bounds.all l0_1) 10), .int .i64 ((impl_narrowed.go impl_bounds.all l0_1) 11)] (0, 0) _ rfl (by simpa using blk_set (blk_set (blk_set (blk_set (blk_set (blk_set (blk_set (blk_set (blk_set (blk_set (blk_set (blk_set (D3) 0 (.int .i64 ((impl_narrowed.go impl_bounds.all l0_1) 0))) 1 (.int .i64 ((impl_narrowed.go impl_bounds.all l0_1) 1))) 2 (.int .i64 ((impl_narrowed.go impl_bounds.all l0_1) 2))) 3 (.int .i64 ((impl_narrowed.go impl_bounds.all l0_1) 3))) 4 (.int .i64 ((impl_narrowed.go impl_bounds.all l0_1) 4))) 5 (.int .i64 ((impl_narrowed.go impl_bounds.all l0_1) 5))) 6 (.int .i64 ((impl_narrowed.go impl_bounds.all l0_1) 6))) 7 (.int .i64 ((impl_narrowed.go impl_bounds.all l0_1) 7))) 8 (.int .i64 ((impl_narrowed.go impl_bounds.all l0_1) 8))) 9 (.int .i64 ((impl_narrowed.go impl_bounds.all l0_1) 9))) 10 (.int .i64 ((impl_narrowed.go impl_bounds.all l0_1) 10))) 11 (.int .i64 ((impl_narrowed.go impl_bounds.all l0_1) 11))) Try.underlying54 rfl (by kernel_rfl) .nil)) rfl ?_
  refine ⟨rfl, ?_⟩
  repeat (refine below_set ?_ (Nat.le_succ _))
  exact B2.out.trans (hb5.mono B2.out.size))

/-! ### impl_Decide_1: function 38, by hand -/
def impl_Decide_1.p (f0 f1 f2 f3 f4 : Int) (x : S32) : Option Bool :=
 if (x.f1.all fun t => decide (1 ≤ t.f0 ∧ t.f0 ≤ 5)) = true then impl_isIn.f f0 f1 f2 f3 f4 (impl_narrowed.go impl_bounds.all x.f1) else none
set_option maxHeartbeats 8000000 in
set_option maxRecDepth 100000 in
theorem impl_Decide_1.calls (f0 f1 f2 f3 f4 : Int) (x : S32) (A1 : Option Addr) (c1 : Nat) (g : Nat) (r : Bool) (w : World) (hf : w.heap[g]? = some (.cells #[.int .i64 f0, .int .i64 f1, .int .i64 f2, .int .i64 f3, .int .i64 f4] 27 (0, 0))) (hr : Kd.C k69 w A1 x.f1.length x.f1) (hc : x.f1.length ≤ c1) (h : impl_Decide_1.p f0 f1 f2 f3 f4 x = some r) :
  Calls Try.prog 38 #[.agg #[.string x.f0, .slice A1 x.f1.length c1, .int .i64 x.f2, .int .i64 x.f3], .pointer (some ⟨g, 0, none⟩)] w fun e w' => e = .returned (.bool r) ∧ Below w.heap.size w w' := by
 unfold impl_Decide_1.p at h
 by_cases ha : (x.f1.all fun t => decide (1 ≤ t.f0 ∧ t.f0 ≤ 5)) = true
 rotate_left
 ·rw [if_neg ha] at h; cases h
 rw [if_pos ha] at h
 have ht : ∀ t ∈ x.f1, 1 ≤ t.f0 ∧ t.f0 ≤ 5 := fun t hm => of_decide_eq_true (List.all_eq_true.1 ha t hm)
 have B1 : Aside0 (Below w.heap.size w (w.alloc (.cells #[.string x.f0, .slice A1 x.f1.length c1, .int .i64 x.f2, .int .i64 x.f3] 32))) := Aside0.mk ((Below.refl _ w).alloc (Nat.le_refl _) _)
 have D1 := Aside0.mk (blk_alloc hf (.cells #[.string x.f0, .slice A1 x.f1.length c1, .int .i64 x.f2, .int .i64 x.f3] 32))
 have HR := Aside0.mk hr
 have HC := Aside0.mk hc
 have HT := Aside0.mk ht
 have H := Aside0.mk h
 clear hr hc ht h ha hf
 go_enter Try.func38, Try.ntmps38
 go_wp2
 have DX := Aside0.mk (blk_new w (.cells #[.string x.f0, .slice A1 x.f1.length c1, .int .i64 x.f2, .int .i64 x.f3] 32))
 have v0 := (blk_cell DX.out 0).trans rfl
 have v1 := (blk_cell DX.out 1).trans rfl
 have v2 := (blk_cell DX.out 2).trans rfl
 have v3 := (blk_cell DX.out 3).trans rfl
 generalize w.alloc (.cells #[.string x.f0, .slice A1 x.f1.length c1, .int .i64 x.f2, .int .i64 x.f3] 32) = w2 at *
 have z0 : w2.cell? ⟨g, 0, none⟩ = some (.int .i64 f0) := (blk_cell D1.out 0).trans rfl
 have z1 : w2.cell? ⟨g, 1, none⟩ = some (.int .i64 f1) := (blk_cell D1.out 1).trans rfl
 have z2 : w2.cell? ⟨g, 2, none⟩ = some (.int .i64 f2) := (blk_cell D1.out 2).trans rfl
 have z3 : w2.cell? ⟨g, 3, none⟩ = some (.int .i64 f3) := (blk_cell D1.out 3).trans rfl
 have z4 : w2.cell? ⟨g, 4, none⟩ = some (.int .i64 f4) := (blk_cell D1.out 4).trans rfl
 go_region_with (first
  | (go_at_call 22; refine (impl_bounds.calls x.f0 A1 c1 x.f1 x.f2 x.f3 _ (Kd.C_below HR.out (B1.out.trans ((below_drew1 (Below.refl w2.heap.size w2)).mono B1.out.size))) HC.out HT.out).mono ?_; rintro e w3 ⟨rfl, hb1⟩; have hb3 := (below_drew1 (Below.refl w2.heap.size w2)).trans hb1; clear hb1; have D3 := blk_below D1.out hb3; have y0 : w3.cell? ⟨g, 0, none⟩ = some (.int .i64 f0) := (blk_cell D3 0).trans rfl; have y1 : w3.cell? ⟨g, 1, none⟩ = some (.int .i64 f1) := (blk_cell D3 1).trans rfl; have y2 : w3.cell? ⟨g, 2, none⟩ = some (.int .i64 f2) := (blk_cell D3 2).trans rfl; have y3 : w3.cell? ⟨g, 3, none⟩ = some (.int .i64 f3) := (blk_cell D3 3).trans rfl; have y4 : w3.cell? ⟨g, 4, none⟩ = some (.int .i64 f4) := (blk_cell D3 4).trans rfl)
  | (go_at_call 35; refine (impl_isIn.calls f0 f1 f2 f3 f4 (impl_narrowed.go impl_bounds.all x.f1) r _ H.out).mono ?_; rintro e w4 ⟨rfl, hb4⟩; have hb5 := hb3.trans (hb4.mono hb3.size)))
 all_goals go_wp2
 all_goals go_ret
 all_goals exact ⟨rfl, B1.out.trans (hb5.mono B1.out.size)⟩

/-! ### impl_Decide: function 15, by hand -/
def impl_Decide.f (k : Nat) (l0 : List S32) (f0 f1 f2 f3 f4 : Int) : Option (Int × Int) :=
 (impl_Clause_33.f l0).bind fun t => if t = true then ((impl_ClausesOK.f k l0).bind fun t => if t = true then ((impl_isIn.f f0 f1 f2 f3 f4 impl_bounds.all).bind fun t => if t = true then
  ((impl_Clause_37.f (impl_Decide_1.p f0 f1 f2 f3 f4) l0 0).bind fun i => if i < 0 then some (0, 8) else some (i, 0)) else some (0, 5)) else some (0, 1)) else some (0, 2)
theorem impl_Decide.mono : ∀ l0 f0 f1 f2 f3 f4 k, LeO (impl_Decide.f k l0 f0 f1 f2 f3 f4) (impl_Decide.f (k + 1) l0 f0 f1 f2 f3 f4) := fun l0 f0 f1 f2 f3 f4 k =>
 LeO.bind (LeO.refl _) (fun _ => LeO.ite (LeO.bind (impl_ClausesOK.mono l0 k) (fun _ => LeO.refl _)) (LeO.refl _))
set_option maxHeartbeats 8000000 in
set_option maxRecDepth 100000 in
theorem impl_Decide.calls (k : Nat) (A0 : Option Addr) (c0 : Nat) (l0 : List S32) (f0 f1 f2 f3 f4 : Int) (r1 r2 : Int) (w : World) (hr0 : Kd.C k32 w A0 l0.length l0) (hc0 : l0.length ≤ c0) (h : impl_Decide.f k l0 f0 f1 f2 f3 f4 = some (r1, r2)) :
  Calls Try.prog 15 #[.slice A0 l0.length c0, .agg #[.int .i64 f0, .int .i64 f1, .int .i64 f2, .int .i64 f3, .int .i64 f4]] w fun e w' => e = .returned (.tuple #[.int .i64 r1, .int .i64 r2]) ∧ Below w.heap.size w w' := by
 have HR := Aside0.mk hr0
 have HC := Aside0.mk hc0
 have B1 : Aside0 (Below w.heap.size w (w.alloc (.cells #[.int .i64 f0, .int .i64 f1, .int .i64 f2, .int .i64 f3, .int .i64 f4] 27))) := Aside0.mk ((Below.refl _ w).alloc (Nat.le_refl _) _)
 have D1 := Aside0.mk (blk_new w (.cells #[.int .i64 f0, .int .i64 f1, .int .i64 f2, .int .i64 f3, .int .i64 f4] 27))
 obtain ⟨t1, h1, h⟩ := Option.bind_eq_some_iff.mp h
 have H1 := Aside0.mk h1
 have HH := Aside0.mk h
 clear hr0 hc0 h1 h
 go_enter Try.func15, Try.ntmps15
 go_wp2_with fail
 refine (impl_Clause_33.calls A0 c0 l0 t1 _ (Kd.C_below HR.out B1.out) HC.out H1.out).mono ?_
 rintro e w2 ⟨rfl, hd⟩
 have B2 := Aside0.mk (B1.out.trans ((impl_isTermNum.drawn hd).mono B1.out.size))
 have D2 := Aside0.mk (blk_below D1.out (impl_isTermNum.drawn hd))
 clear hd
 generalize (w.alloc (.cells #[.int .i64 f0, .int .i64 f1, .int .i64 f2, .int .i64 f3, .int .i64 f4] 27)) = w1 at *
 cases t1
 ·obtain ⟨rfl, rfl⟩ := Prod.mk.inj (Option.some.inj (show some ((0 : Int), (2 : Int)) = some (r1, r2) from HH.out))
  go_wp2
  go_ret2
  exact ⟨rfl, B2.out⟩
 obtain ⟨t2, h2, h⟩ := Option.bind_eq_some_iff.mp (show (impl_ClausesOK.f k l0).bind _ = some (r1, r2) from HH.out)
 have H2 := Aside0.mk h2
 have HK := Aside0.mk h
 clear h2 h HH
 go_wp2_with fail
 refine (impl_ClausesOK.calls k A0 c0 l0 t2 _ (Kd.C_below HR.out B2.out) HC.out H2.out).mono ?_
 rintro e w3 ⟨rfl, hb3⟩
 have B3 := Aside0.mk (B2.out.trans (hb3.mono B2.out.size))
 have D3 := Aside0.mk (blk_below D2.out hb3)
 clear hb3
 cases t2
 ·obtain ⟨rfl, rfl⟩ := Prod.mk.inj (Option.some.inj (show some ((0 : Int), (1 : Int)) = some (r1, r2) from HK.out))
  go_wp2
  go_ret2
  exact ⟨rfl, B3.out⟩
 obtain ⟨t3, h3, h⟩ := Option.bind_eq_some_iff.mp (show (impl_isIn.f f0 f1 f2 f3 f4 impl_bounds.all).bind _ = some (r1, r2) from HK.out)
 have H3 := Aside0.mk h3
 have HL := Aside0.mk h
 clear h3 h HK
 go_upto_region 5 with (fail)
 have z0 : w3.cell? ⟨w.heap.size, 0, none⟩ = some (.int .i64 f0) := (blk_cell D3.out 0).trans rfl
 have z1 : w3.cell? ⟨w.heap.size, 1, none⟩ = some (.int .i64 f1) := (blk_cell D3.out 1).trans rfl
 have z2 : w3.cell? ⟨w.heap.size, 2, none⟩ = some (.int .i64 f2) := (blk_cell D3.out 2).trans rfl
 have z3 : w3.cell? ⟨w.heap.size, 3, none⟩ = some (.int .i64 f3) := (blk_cell D3.out 3).trans rfl
 have z4 : w3.cell? ⟨w.heap.size, 4, none⟩ = some (.int .i64 f4) := (blk_cell D3.out 4).trans rfl
 go_region_with (first
  | (go_at_call 36; refine (impl_allBounds.calls _).mono ?_; rintro e w4 ⟨rfl, hb1⟩; have hb4 := (below_drew1 (Below.refl w3.heap.size w3)).trans hb1; clear hb1; have D4 := blk_below D3.out hb4; have y0 : w4.cell? ⟨w.heap.size, 0, none⟩ = some (.int .i64 f0) := (blk_cell D4 0).trans rfl; have y1 : w4.cell? ⟨w.heap.size, 1, none⟩ = some (.int .i64 f1) := (blk_cell D4 1).trans rfl; have y2 : w4.cell? ⟨w.heap.size, 2, none⟩ = some (.int .i64 f2) := (blk_cell D4 2).trans rfl; have y3 : w4.cell? ⟨w.heap.size, 3, none⟩ = some (.int .i64 f3) := (blk_cell D4 3).trans rfl; have y4 : w4.cell? ⟨w.heap.size, 4, none⟩ = some (.int .i64 f4) := (blk_cell D4 4).trans rfl)
  | (go_at_call 35; refine (impl_isIn.calls f0 f1 f2 f3 f4 impl_bounds.all t3 _ H3.out).mono ?_; rintro e w5 ⟨rfl, hb5⟩; have hb6 := hb4.trans (hb5.mono hb4.size)))
 all_goals (
  have B5 := Aside0.mk (B3.out.trans (hb6.mono B3.out.size))
  have D5 := Aside0.mk (blk_below D3.out hb6)
  clear hb6
  cases t3
  ·obtain ⟨rfl, rfl⟩ := Prod.mk.inj (Option.some.inj (show some ((0 : Int), (5 : Int)) = some (r1, r2) from HL.out))
   go_wp2
   go_ret2
   exact ⟨rfl, B5.out⟩
  obtain ⟨i, hi, h⟩ := Option.bind_eq_some_iff.mp (show (impl_Clause_37.f (impl_Decide_1.p f0 f1 f2 f3 f4) l0 0).bind _ = some (r1, r2) from HL.out)
  have h2 : (if i < 0 then some ((0 : Int), (8 : Int)) else some (i, 0)) = some (r1, r2) := h
  have C := impl_Clause_37.calls (impl_Decide_1.p f0 f1 f2 f3 f4) l0 A0 c0 38 #[.pointer (some ⟨w.heap.size, 0, none⟩)] i w5 (fun args w => enters_of Try.func38 (by kernel_rfl) rfl args w)
   (fun W y A_1 c_1 b_ hW hr hc hy => impl_Decide_1.calls f0 f1 f2 f3 f4 y A_1 c_1 w.heap.size b_ W (blk_below D5.out hW) hr hc hy) (Kd.C_below HR.out B5.out) HC.out hi
  have HCC := Aside0.mk C
  have H4 := Aside0.mk h2
  clear h h2 hi C
  go_wp2_with fail
  refine HCC.out.mono ?_
  rintro e w6 ⟨rfl, hb⟩
  have B6 := Aside0.mk (B5.out.trans (hb.mono B5.out.size))
  clear hb
  by_cases hn : i < 0
  ·have h2 := H4.out
   rw [if_pos hn] at h2
   obtain ⟨rfl, rfl⟩ := Prod.mk.inj (Option.some.inj h2)
   have hd : decide (i < 0) = true := decide_eq_true hn
   clear h2
   go_wp2
   go_ret2
   exact ⟨rfl, B6.out⟩
  ·have h2 := H4.out
   rw [if_neg hn] at h2
   obtain ⟨rfl, rfl⟩ := Prod.mk.inj (Option.some.inj h2)
   have hd : decide (i < 0) = false := decide_eq_false hn
   clear h2
   go_wp2
   go_ret2
   exact ⟨rfl, B6.out⟩)

/-! ### laws_eqTerm: function 50 -/
def laws_eqTerm.f (a0_0 : Int) (a0_1 : Int) (a0_2 : Int) (a1_0 : Int) (a1_1 : Int) (a1_2 : Int) : Option (Bool) := if a0_0 = a1_0 then (if a0_1 = a1_1 then (if a0_2 = a1_2 then (some true) else (some false)) else (some false)) else (some false)
set_option maxHeartbeats 8000000 in
set_option maxRecDepth 100000 in
theorem laws_eqTerm.calls (a0_0 : Int) (a0_1 : Int) (a0_2 : Int) (a1_0 : Int) (a1_1 : Int) (a1_2 : Int) (r : Bool) (w : World) (h : laws_eqTerm.f a0_0 a0_1 a0_2 a1_0 a1_1 a1_2 = some r) :
  Calls Try.prog 50 #[.agg #[.int .i64 a0_0, .int .i64 a0_1, .int .i64 a0_2], .agg #[.int .i64 a1_0, .int .i64 a1_1, .int .i64 a1_2]] w fun e w' => e = .returned (.bool r) ∧ Below w.heap.size w w' := by
 have hu69 := Try.underlying69
 have HB := Aside0.mk (Below.refl w.heap.size w)
 have H : (if a0_0 = a1_0 then (if a0_1 = a1_1 then (if a0_2 = a1_2 then (some true) else (some false)) else (some false)) else (some false)) = some r := h
 clear h
 by_cases c3 : a0_0 = a1_0
 ·rw [if_pos c3] at H
  have c3b0 : (a0_0 == a1_0) = true := beq_iff_eq.mpr c3
  have c3b1 : (a0_0 != a1_0) = false := bne_eq_false_iff_eq.mpr c3
  clear c3
  by_cases c4 : a0_1 = a1_1
  ·rw [if_pos c4] at H
   have c4b0 : (a0_1 == a1_1) = true := beq_iff_eq.mpr c4
   have c4b1 : (a0_1 != a1_1) = false := bne_eq_false_iff_eq.mpr c4
   clear c4
   by_cases c5 : a0_2 = a1_2
   ·rw [if_pos c5] at H
    have c5b0 : (a0_2 == a1_2) = true := beq_iff_eq.mpr c5
    have c5b1 : (a0_2 != a1_2) = false := bne_eq_false_iff_eq.mpr c5
    clear c5
    obtain rfl := Option.some.inj H
    go_enter Try.func50, Try.ntmps50
    go_wp2_with (first | ((with_reducible refine gate_dst (N := 2) rfl ?_); refine box_event ?hg (N := 2) ?hd (cs := #[.int .i64 a0_0, .int .i64 a0_1, .int .i64 a0_2]) (t := 69) ?hr ?_; (case hd => rfl); (case hg => rfl); (case hr => first | (go_simp; done) | (go_simp; rfl)); intro gb216 hg w6 hbox hb; have n0_ := Aside0.mk (below_step (by repeat (first | (with_reducible first | exact HB.out | apply below_alloc | apply pw_below_drewN | apply below_drew1) | exact HB.out)) hb); have n1_ := Aside0.mk (hbox); have n2_ := Aside0.mk ((by rw [hg]; exact (below_size (by repeat (first | (with_reducible first | exact HB.out | apply below_alloc | apply pw_below_drewN | apply below_drew1) | exact HB.out))) : w.heap.size ≤ gb216)); have n3_ := Aside0.mk ((by rw [hg]; exact (below_size (by repeat (first | (with_reducible first | exact HB.out | apply below_alloc | apply pw_below_drewN | apply below_drew1) | exact HB.out))) : w.heap.size ≤ gb216)); clear HB; have HB := n0_; have BK216 := n1_; have GW216 := n2_; have GE216 := n3_; clear n0_ n1_ n2_ n3_; clear hb hbox hg) | ((with_reducible refine gate_dst (N := 3) rfl ?_); refine box_event ?hg (N := 3) ?hd (cs := #[.int .i64 a1_0, .int .i64 a1_1, .int .i64 a1_2]) (t := 69) ?hr ?_; (case hd => rfl); (case hg => rfl); (case hr => first | (go_simp; done) | (go_simp; rfl)); intro gb217 hg w7 hbox hb; have n0_ := Aside0.mk (blk_below (g := gb216) (o := .cells #[.int .i64 a0_0, .int .i64 a0_1, .int .i64 a0_2] 69 (0, 0)) (by (with_reducible repeat (first | refine blk_drewN ?_ _ | refine blk_drew ?_ | refine blk_alloc ?_ _)); exact BK216.out) hb); have n1_ := Aside0.mk (below_step (by repeat (first | (with_reducible first | exact HB.out | apply below_alloc | apply pw_below_drewN | apply below_drew1 | refine below_set ?_ GE216.out) | exact HB.out)) hb); have n2_ := Aside0.mk (hbox); have n3_ := Aside0.mk ((by rw [hg]; exact (below_size (by repeat (first | (with_reducible first | exact HB.out | apply below_alloc | apply pw_below_drewN | apply below_drew1 | refine below_set ?_ GE216.out) | exact HB.out))) : w.heap.size ≤ gb217)); have n4_ := Aside0.mk ((by rw [hg]; exact (below_size (by repeat (first | (with_reducible first | exact HB.out | apply below_alloc | apply pw_below_drewN | apply below_drew1 | refine below_set ?_ GE216.out) | exact HB.out))) : w.heap.size ≤ gb217)); have n5_ := Aside0.mk ((by rw [hg]; exact Nat.ne_of_lt (blk_lt (g := gb216) (o := .cells #[.int .i64 a0_0, .int .i64 a0_1, .int .i64 a0_2] 69 (0, 0)) (by (with_reducible repeat (first | refine blk_drewN ?_ _ | refine blk_drew ?_ | refine blk_alloc ?_ _)); exact BK216.out)) : gb216 ≠ gb217)); have n6_ := Aside0.mk ((by rw [hg]; exact Nat.ne_of_gt (blk_lt (g := gb216) (o := .cells #[.int .i64 a0_0, .int .i64 a0_1, .int .i64 a0_2] 69 (0, 0)) (by (with_reducible repeat (first | refine blk_drewN ?_ _ | refine blk_drew ?_ | refine blk_alloc ?_ _)); exact BK216.out)) : gb217 ≠ gb216)); clear BK216; clear HB; have BK216 := n0_; have HB := n1_; have BK217 := n2_; have GW217 := n3_; have GE217 := n4_; have NB216_217 := n5_; have NB217_216 := n6_; clear n0_ n1_ n2_ n3_ n4_ n5_ n6_; clear hb hbox hg; have hnb8 := NB216_217.out; have hnc8 := NB217_216.out; have hcz9_0 : w7.cell? ⟨gb216, 0, none⟩ = some (.int .i64 a0_0) := (blk_cell BK216.out 0).trans rfl; have hcz9_1 : w7.cell? ⟨gb216, 1, none⟩ = some (.int .i64 a0_1) := (blk_cell BK216.out 1).trans rfl; have hcz9_2 : w7.cell? ⟨gb216, 2, none⟩ = some (.int .i64 a0_2) := (blk_cell BK216.out 2).trans rfl; have hfz9_0 := blk_frozen BK216.out 0; have hfz9_1 := blk_frozen BK216.out 1; have hfz9_2 := blk_frozen BK216.out 2; have hcz10_0 : w7.cell? ⟨gb217, 0, none⟩ = some (.int .i64 a1_0) := (blk_cell BK217.out 0).trans rfl; have hcz10_1 : w7.cell? ⟨gb217, 1, none⟩ = some (.int .i64 a1_1) := (blk_cell BK217.out 1).trans rfl; have hcz10_2 : w7.cell? ⟨gb217, 2, none⟩ = some (.int .i64 a1_2) := (blk_cell BK217.out 2).trans rfl; have hfz10_0 := blk_frozen BK217.out 0; have hfz10_1 := blk_frozen BK217.out 1; have hfz10_2 := blk_frozen BK217.out 2))
    go_ret
    exact ⟨by first | rfl | (simp [errW_none, errW_some] <;> rfl) | (simp [*, errW_none, errW_some] <;> rfl), by repeat (first | (with_reducible first | exact HB.out | apply below_alloc | apply pw_below_drewN | apply below_drew1 | refine below_set ?_ GE216.out | refine below_set ?_ GE217.out) | exact HB.out)⟩
   ·rw [if_neg c5] at H
    have c5b0 : (a0_2 == a1_2) = false := beq_eq_false_iff_ne.mpr c5
    have c5b1 : (a0_2 != a1_2) = true := bne_iff_ne.mpr c5
    obtain rfl := Option.some.inj H
    go_enter Try.func50, Try.ntmps50
    go_wp2_with (first | ((with_reducible refine gate_dst (N := 2) rfl ?_); refine box_event ?hg (N := 2) ?hd (cs := #[.int .i64 a0_0, .int .i64 a0_1, .int .i64 a0_2]) (t := 69) ?hr ?_; (case hd => rfl); (case hg => rfl); (case hr => first | (go_simp; done) | (go_simp; rfl)); intro gb216 hg w11 hbox hb; have n0_ := Aside0.mk (below_step (by repeat (first | (with_reducible first | exact HB.out | apply below_alloc | apply pw_below_drewN | apply below_drew1) | exact HB.out)) hb); have n1_ := Aside0.mk (hbox); have n2_ := Aside0.mk ((by rw [hg]; exact (below_size (by repeat (first | (with_reducible first | exact HB.out | apply below_alloc | apply pw_below_drewN | apply below_drew1) | exact HB.out))) : w.heap.size ≤ gb216)); have n3_ := Aside0.mk ((by rw [hg]; exact (below_size (by repeat (first | (with_reducible first | exact HB.out | apply below_alloc | apply pw_below_drewN | apply below_drew1) | exact HB.out))) : w.heap.size ≤ gb216)); clear HB; have HB := n0_; have BK216 := n1_; have GW216 := n2_; have GE216 := n3_; clear n0_ n1_ n2_ n3_; clear hb hbox hg) | ((with_reducible refine gate_dst (N := 3) rfl ?_); refine box_event ?hg (N := 3) ?hd (cs := #[.int .i64 a1_0, .int .i64 a1_1, .int .i64 a1_2]) (t := 69) ?hr ?_; (case hd => rfl); (case hg => rfl); (case hr => first | (go_simp; done) | (go_simp; rfl)); intro gb217 hg w12 hbox hb; have n0_ := Aside0.mk (blk_below (g := gb216) (o := .cells #[.int .i64 a0_0, .int .i64 a0_1, .int .i64 a0_2] 69 (0, 0)) (by (with_reducible repeat (first | refine blk_drewN ?_ _ | refine blk_drew ?_ | refine blk_alloc ?_ _)); exact BK216.out) hb); have n1_ := Aside0.mk (below_step (by repeat (first | (with_reducible first | exact HB.out | apply below_alloc | apply pw_below_drewN | apply below_drew1 | refine below_set ?_ GE216.out) | exact HB.out)) hb); have n2_ := Aside0.mk (hbox); have n3_ := Aside0.mk ((by rw [hg]; exact (below_size (by repeat (first | (with_reducible first | exact HB.out | apply below_alloc | apply pw_below_drewN | apply below_drew1 | refine below_set ?_ GE216.out) | exact HB.out))) : w.heap.size ≤ gb217)); have n4_ := Aside0.mk ((by rw [hg]; exact (below_size (by repeat (first | (with_reducible first | exact HB.out | apply below_alloc | apply pw_below_drewN | apply below_drew1 | refine below_set ?_ GE216.out) | exact HB.out))) : w.heap.size ≤ gb217)); have n5_ := Aside0.mk ((by rw [hg]; exact Nat.ne_of_lt (blk_lt (g := gb216) (o := .cells #[.int .i64 a0_0, .int .i64 a0_1, .int .i64 a0_2] 69 (0, 0)) (by (with_reducible repeat (first | refine blk_drewN ?_ _ | refine blk_drew ?_ | refine blk_alloc ?_ _)); exact BK216.out)) : gb216 ≠ gb217)); have n6_ := Aside0.mk ((by rw [hg]; exact Nat.ne_of_gt (blk_lt (g := gb216) (o := .cells #[.int .i64 a0_0, .int .i64 a0_1, .int .i64 a0_2] 69 (0, 0)) (by (with_reducible repeat (first | refine blk_drewN ?_ _ | refine blk_drew ?_ | refine blk_alloc ?_ _)); exact BK216.out)) : gb217 ≠ gb216)); clear BK216; clear HB; have BK216 := n0_; have HB := n1_; have BK217 := n2_; have GW217 := n3_; have GE217 := n4_; have NB216_217 := n5_; have NB217_216 := n6_; clear n0_ n1_ n2_ n3_ n4_ n5_ n6_; clear hb hbox hg; have hnb13 := NB216_217.out; have hnc13 := NB217_216.out; have hcz14_0 : w12.cell? ⟨gb216, 0, none⟩ = some (.int .i64 a0_0) := (blk_cell BK216.out 0).trans rfl; have hcz14_1 : w12.cell? ⟨gb216, 1, none⟩ = some (.int .i64 a0_1) := (blk_cell BK216.out 1).trans rfl; have hcz14_2 : w12.cell? ⟨gb216, 2, none⟩ = some (.int .i64 a0_2) := (blk_cell BK216.out 2).trans rfl; have hfz14_0 := blk_frozen BK216.out 0; have hfz14_1 := blk_frozen BK216.out 1; have hfz14_2 := blk_frozen BK216.out 2; have hcz15_0 : w12.cell? ⟨gb217, 0, none⟩ = some (.int .i64 a1_0) := (blk_cell BK217.out 0).trans rfl; have hcz15_1 : w12.cell? ⟨gb217, 1, none⟩ = some (.int .i64 a1_1) := (blk_cell BK217.out 1).trans rfl; have hcz15_2 : w12.cell? ⟨gb217, 2, none⟩ = some (.int .i64 a1_2) := (blk_cell BK217.out 2).trans rfl; have hfz15_0 := blk_frozen BK217.out 0; have hfz15_1 := blk_frozen BK217.out 1; have hfz15_2 := blk_frozen BK217.out 2))
    go_ret
    exact ⟨by first | rfl | (simp [errW_none, errW_some] <;> rfl) | (simp [*, errW_none, errW_some] <;> rfl), by repeat (first | (with_reducible first | exact HB.out | apply below_alloc | apply pw_below_drewN | apply below_drew1 | refine below_set ?_ GE216.out | refine below_set ?_ GE217.out) | exact HB.out)⟩
  ·rw [if_neg c4] at H
   have c4b0 : (a0_1 == a1_1) = false := beq_eq_false_iff_ne.mpr c4
   have c4b1 : (a0_1 != a1_1) = true := bne_iff_ne.mpr c4
   obtain rfl := Option.some.inj H
   go_enter Try.func50, Try.ntmps50
   go_wp2_with (first | ((with_reducible refine gate_dst (N := 2) rfl ?_); refine box_event ?hg (N := 2) ?hd (cs := #[.int .i64 a0_0, .int .i64 a0_1, .int .i64 a0_2]) (t := 69) ?hr ?_; (case hd => rfl); (case hg => rfl); (case hr => first | (go_simp; done) | (go_simp; rfl)); intro gb216 hg w16 hbox hb; have n0_ := Aside0.mk (below_step (by repeat (first | (with_reducible first | exact HB.out | apply below_alloc | apply pw_below_drewN | apply below_drew1) | exact HB.out)) hb); have n1_ := Aside0.mk (hbox); have n2_ := Aside0.mk ((by rw [hg]; exact (below_size (by repeat (first | (with_reducible first | exact HB.out | apply below_alloc | apply pw_below_drewN | apply below_drew1) | exact HB.out))) : w.heap.size ≤ gb216)); have n3_ := Aside0.mk ((by rw [hg]; exact (below_size (by repeat (first | (with_reducible first | exact HB.out | apply below_alloc | apply pw_below_drewN | apply below_drew1) | exact HB.out))) : w.heap.size ≤ gb216)); clear HB; have HB := n0_; have BK216 := n1_; have GW216 := n2_; have GE216 := n3_; clear n0_ n1_ n2_ n3_; clear hb hbox hg) | ((with_reducible refine gate_dst (N := 3) rfl ?_); refine box_event ?hg (N := 3) ?hd (cs := #[.int .i64 a1_0, .int .i64 a1_1, .int .i64 a1_2]) (t := 69) ?hr ?_; (case hd => rfl); (case hg => rfl); (case hr => first | (go_simp; done) | (go_simp; rfl)); intro gb217 hg w17 hbox hb; have n0_ := Aside0.mk (blk_below (g := gb216) (o := .cells #[.int .i64 a0_0, .int .i64 a0_1, .int .i64 a0_2] 69 (0, 0)) (by (with_reducible repeat (first | refine blk_drewN ?_ _ | refine blk_drew ?_ | refine blk_alloc ?_ _)); exact BK216.out) hb); have n1_ := Aside0.mk (below_step (by repeat (first | (with_reducible first | exact HB.out | apply below_alloc | apply pw_below_drewN | apply below_drew1 | refine below_set ?_ GE216.out) | exact HB.out)) hb); have n2_ := Aside0.mk (hbox); have n3_ := Aside0.mk ((by rw [hg]; exact (below_size (by repeat (first | (with_reducible first | exact HB.out | apply below_alloc | apply pw_below_drewN | apply below_drew1 | refine below_set ?_ GE216.out) | exact HB.out))) : w.heap.size ≤ gb217)); have n4_ := Aside0.mk ((by rw [hg]; exact (below_size (by repeat (first | (with_reducible first | exact HB.out | apply below_alloc | apply pw_below_drewN | apply below_drew1 | refine below_set ?_ GE216.out) | exact HB.out))) : w.heap.size ≤ gb217)); have n5_ := Aside0.mk ((by rw [hg]; exact Nat.ne_of_lt (blk_lt (g := gb216) (o := .cells #[.int .i64 a0_0, .int .i64 a0_1, .int .i64 a0_2] 69 (0, 0)) (by (with_reducible repeat (first | refine blk_drewN ?_ _ | refine blk_drew ?_ | refine blk_alloc ?_ _)); exact BK216.out)) : gb216 ≠ gb217)); have n6_ := Aside0.mk ((by rw [hg]; exact Nat.ne_of_gt (blk_lt (g := gb216) (o := .cells #[.int .i64 a0_0, .int .i64 a0_1, .int .i64 a0_2] 69 (0, 0)) (by (with_reducible repeat (first | refine blk_drewN ?_ _ | refine blk_drew ?_ | refine blk_alloc ?_ _)); exact BK216.out)) : gb217 ≠ gb216)); clear BK216; clear HB; have BK216 := n0_; have HB := n1_; have BK217 := n2_; have GW217 := n3_; have GE217 := n4_; have NB216_217 := n5_; have NB217_216 := n6_; clear n0_ n1_ n2_ n3_ n4_ n5_ n6_; clear hb hbox hg; have hnb18 := NB216_217.out; have hnc18 := NB217_216.out; have hcz19_0 : w17.cell? ⟨gb216, 0, none⟩ = some (.int .i64 a0_0) := (blk_cell BK216.out 0).trans rfl; have hcz19_1 : w17.cell? ⟨gb216, 1, none⟩ = some (.int .i64 a0_1) := (blk_cell BK216.out 1).trans rfl; have hcz19_2 : w17.cell? ⟨gb216, 2, none⟩ = some (.int .i64 a0_2) := (blk_cell BK216.out 2).trans rfl; have hfz19_0 := blk_frozen BK216.out 0; have hfz19_1 := blk_frozen BK216.out 1; have hfz19_2 := blk_frozen BK216.out 2; have hcz20_0 : w17.cell? ⟨gb217, 0, none⟩ = some (.int .i64 a1_0) := (blk_cell BK217.out 0).trans rfl; have hcz20_1 : w17.cell? ⟨gb217, 1, none⟩ = some (.int .i64 a1_1) := (blk_cell BK217.out 1).trans rfl; have hcz20_2 : w17.cell? ⟨gb217, 2, none⟩ = some (.int .i64 a1_2) := (blk_cell BK217.out 2).trans rfl; have hfz20_0 := blk_frozen BK217.out 0; have hfz20_1 := blk_frozen BK217.out 1; have hfz20_2 := blk_frozen BK217.out 2))
   go_ret
   exact ⟨by first | rfl | (simp [errW_none, errW_some] <;> rfl) | (simp [*, errW_none, errW_some] <;> rfl), by repeat (first | (with_reducible first | exact HB.out | apply below_alloc | apply pw_below_drewN | apply below_drew1 | refine below_set ?_ GE216.out | refine below_set ?_ GE217.out) | exact HB.out)⟩
 ·rw [if_neg c3] at H
  have c3b0 : (a0_0 == a1_0) = false := beq_eq_false_iff_ne.mpr c3
  have c3b1 : (a0_0 != a1_0) = true := bne_iff_ne.mpr c3
  obtain rfl := Option.some.inj H
  go_enter Try.func50, Try.ntmps50
  go_wp2_with (first | ((with_reducible refine gate_dst (N := 2) rfl ?_); refine box_event ?hg (N := 2) ?hd (cs := #[.int .i64 a0_0, .int .i64 a0_1, .int .i64 a0_2]) (t := 69) ?hr ?_; (case hd => rfl); (case hg => rfl); (case hr => first | (go_simp; done) | (go_simp; rfl)); intro gb216 hg w21 hbox hb; have n0_ := Aside0.mk (below_step (by repeat (first | (with_reducible first | exact HB.out | apply below_alloc | apply pw_below_drewN | apply below_drew1) | exact HB.out)) hb); have n1_ := Aside0.mk (hbox); have n2_ := Aside0.mk ((by rw [hg]; exact (below_size (by repeat (first | (with_reducible first | exact HB.out | apply below_alloc | apply pw_below_drewN | apply below_drew1) | exact HB.out))) : w.heap.size ≤ gb216)); have n3_ := Aside0.mk ((by rw [hg]; exact (below_size (by repeat (first | (with_reducible first | exact HB.out | apply below_alloc | apply pw_below_drewN | apply below_drew1) | exact HB.out))) : w.heap.size ≤ gb216)); clear HB; have HB := n0_; have BK216 := n1_; have GW216 := n2_; have GE216 := n3_; clear n0_ n1_ n2_ n3_; clear hb hbox hg) | ((with_reducible refine gate_dst (N := 3) rfl ?_); refine box_event ?hg (N := 3) ?hd (cs := #[.int .i64 a1_0, .int .i64 a1_1, .int .i64 a1_2]) (t := 69) ?hr ?_; (case hd => rfl); (case hg => rfl); (case hr => first | (go_simp; done) | (go_simp; rfl)); intro gb217 hg w22 hbox hb; have n0_ := Aside0.mk (blk_below (g := gb216) (o := .cells #[.int .i64 a0_0, .int .i64 a0_1, .int .i64 a0_2] 69 (0, 0)) (by (with_reducible repeat (first | refine blk_drewN ?_ _ | refine blk_drew ?_ | refine blk_alloc ?_ _)); exact BK216.out) hb); have n1_ := Aside0.mk (below_step (by repeat (first | (with_reducible first | exact HB.out | apply below_alloc | apply pw_below_drewN | apply below_drew1 | refine below_set ?_ GE216.out) | exact HB.out)) hb); have n2_ := Aside0.mk (hbox); have n3_ := Aside0.mk ((by rw [hg]; exact (below_size (by repeat (first | (with_reducible first | exact HB.out | apply below_alloc | apply pw_below_drewN | apply below_drew1 | refine below_set ?_ GE216.out) | exact HB.out))) : w.heap.size ≤ gb217)); have n4_ := Aside0.mk ((by rw [hg]; exact (below_size (by repeat (first | (with_reducible first | exact HB.out | apply below_alloc | apply pw_below_drewN | apply below_drew1 | refine below_set ?_ GE216.out) | exact HB.out))) : w.heap.size ≤ gb217)); have n5_ := Aside0.mk ((by rw [hg]; exact Nat.ne_of_lt (blk_lt (g := gb216) (o := .cells #[.int .i64 a0_0, .int .i64 a0_1, .int .i64 a0_2] 69 (0, 0)) (by (with_reducible repeat (first | refine blk_drewN ?_ _ | refine blk_drew ?_ | refine blk_alloc ?_ _)); exact BK216.out)) : gb216 ≠ gb217)); have n6_ := Aside0.mk ((by rw [hg]; exact Nat.ne_of_gt (blk_lt (g := gb216) (o := .cells #[.int .i64 a0_0, .int .i64 a0_1, .int .i64 a0_2] 69 (0, 0)) (by (with_reducible repeat (first | refine blk_drewN ?_ _ | refine blk_drew ?_ | refine blk_alloc ?_ _)); exact BK216.out)) : gb217 ≠ gb216)); clear BK216; clear HB; have BK216 := n0_; have HB := n1_; have BK217 := n2_; have GW217 := n3_; have GE217 := n4_; have NB216_217 := n5_; have NB217_216 := n6_; clear n0_ n1_ n2_ n3_ n4_ n5_ n6_; clear hb hbox hg; have hnb23 := NB216_217.out; have hnc23 := NB217_216.out; have hcz24_0 : w22.cell? ⟨gb216, 0, none⟩ = some (.int .i64 a0_0) := (blk_cell BK216.out 0).trans rfl; have hcz24_1 : w22.cell? ⟨gb216, 1, none⟩ = some (.int .i64 a0_1) := (blk_cell BK216.out 1).trans rfl; have hcz24_2 : w22.cell? ⟨gb216, 2, none⟩ = some (.int .i64 a0_2) := (blk_cell BK216.out 2).trans rfl; have hfz24_0 := blk_frozen BK216.out 0; have hfz24_1 := blk_frozen BK216.out 1; have hfz24_2 := blk_frozen BK216.out 2; have hcz25_0 : w22.cell? ⟨gb217, 0, none⟩ = some (.int .i64 a1_0) := (blk_cell BK217.out 0).trans rfl; have hcz25_1 : w22.cell? ⟨gb217, 1, none⟩ = some (.int .i64 a1_1) := (blk_cell BK217.out 1).trans rfl; have hcz25_2 : w22.cell? ⟨gb217, 2, none⟩ = some (.int .i64 a1_2) := (blk_cell BK217.out 2).trans rfl; have hfz25_0 := blk_frozen BK217.out 0; have hfz25_1 := blk_frozen BK217.out 1; have hfz25_2 := blk_frozen BK217.out 2))
  go_ret
  exact ⟨by first | rfl | (simp [errW_none, errW_some] <;> rfl) | (simp [*, errW_none, errW_some] <;> rfl), by repeat (first | (with_reducible first | exact HB.out | apply below_alloc | apply pw_below_drewN | apply below_drew1 | refine below_set ?_ GE216.out | refine below_set ?_ GE217.out) | exact HB.out)⟩

/-! ### laws_eqTermS: function 26 -/
def laws_eqTermS.l0 : Nat → List (S69) → List (S69) → Int → Option (Bool)
 | 0, _, _, _ => none
 | k + 1, x0, x1, x5 => if x5 < (x0.length : Int) then (if 0 ≤ x5 then (if x5 < (x1.length : Int) then ((laws_eqTerm.f ((rd_T69 x0 x5).f0) ((rd_T69 x0 x5).f1) ((rd_T69 x0 x5).f2) ((rd_T69 x1 x5).f0) ((rd_T69 x1 x5).f1) ((rd_T69 x1 x5).f2)).bind fun t220 => (if t220 = true then (laws_eqTermS.l0 k x0 x1 (wrap64 (x5 + 1))) else (some false))) else (none)) else (none)) else (some true)
def laws_eqTermS.f (k : Nat) (l0 : List (S69)) (l1 : List (S69)) : Option (Bool) := if (l0.length : Int) = (l1.length : Int) then (laws_eqTermS.l0 k l0 l1 0) else (some false)
theorem laws_eqTermS.mono_l : ∀ k, (∀ y0 y1 y2, LeO (laws_eqTermS.l0 k y0 y1 y2) (laws_eqTermS.l0 (k + 1) y0 y1 y2))
 | 0 => fun _ _ _ r h => by simp [laws_eqTermS.l0] at h
 | k + 1 => by
  have ih0 := laws_eqTermS.mono_l k
  ·intro y0 y1 y2
   unfold laws_eqTermS.l0
   repeat' first
   | (with_reducible exact ih0 _ _ _)
   | (with_reducible exact LeO.refl _)
   | (with_reducible exact LeO.none _)
   | (with_reducible refine LeO.ite ?_ ?_)
   | (with_reducible refine LeO.bind ?_ (fun _ => ?_))
   | exact ih0 _ _ _
   | exact LeO.none _
   | refine LeO.ite ?_ ?_
   | refine LeO.bind ?_ (fun _ => ?_)
theorem laws_eqTermS.mono : ∀ a0 a1 k, LeO (laws_eqTermS.f k a0 a1) (laws_eqTermS.f (k + 1) a0 a1) := by
 intro a0 a1 k
 have ih0 := laws_eqTermS.mono_l k
 unfold laws_eqTermS.f
 repeat' first
   | (with_reducible exact ih0 _ _ _)
   | (with_reducible exact LeO.refl _)
   | (with_reducible exact LeO.none _)
   | (with_reducible refine LeO.ite ?_ ?_)
   | (with_reducible refine LeO.bind ?_ (fun _ => ?_))
   | exact ih0 _ _ _
   | exact LeO.none _
   | refine LeO.ite ?_ ?_
   | refine LeO.bind ?_ (fun _ => ?_)
def laws_eqTermS.T6 : Bool × List (List Nat × List Nat) := (true, [([], []), ([], []), ([0, 1], [0, 1]), ([2], [2]), ([], []), ([], []), ([4, 5], [4, 5]), ([6], [6]), ([3, 7], [3, 7]), ([8], [8])])
def laws_eqTermS.B6 : List Nat := [0, 0, 3, 7, 0, 0, 48, 112, 255, 511]
theorem laws_eqTermS.tab6 : rtab .any (opsOf Try.f26 6) = laws_eqTermS.T6 := by kernel_rfl
theorem laws_eqTermS.bits6 : waitsOk laws_eqTermS.T6.2 laws_eqTermS.B6 = true := by kernel_rfl
set_option maxHeartbeats 8000000 in
set_option maxRecDepth 100000 in
theorem laws_eqTermS.calls (k : Nat) (A0 : Option Addr) (c0 : Nat) (l0 : List (S69)) (A1 : Option Addr) (c1 : Nat) (l1 : List (S69)) (r : Bool) (w : World) (hr0 : Kd.C k69 w A0 l0.length l0) (hc0 : l0.length ≤ c0) (hr1 : Kd.C k69 w A1 l1.length l1) (hc1 : l1.length ≤ c1) (h : laws_eqTermS.f k l0 l1 = some r) :
  Calls Try.prog 26 #[.slice A0 l0.length c0, .slice A1 l1.length c1] w fun e w' => e = .returned (.bool r) ∧ Below w.heap.size w w' := by
 have hu69 := Try.underlying69
 have HR0 := Aside0.mk hr0
 have HC0 := Aside0.mk hc0
 clear hr0 hc0
 have HR1 := Aside0.mk hr1
 have HC1 := Aside0.mk hc1
 clear hr1 hc1
 have HB := Aside0.mk (Below.refl w.heap.size w)
 have H : (if (l0.length : Int) = (l1.length : Int) then (laws_eqTermS.l0 k l0 l1 0) else (some false)) = some r := h
 clear h
 by_cases c3 : (l0.length : Int) = (l1.length : Int)
 ·rw [if_pos c3] at H
  have c3b0 : ((l0.length : Int) == (l1.length : Int)) = true := beq_iff_eq.mpr c3
  have c3b1 : ((l0.length : Int) != (l1.length : Int)) = false := bne_eq_false_iff_eq.mpr c3
  have c3b2 : (l0.length == l1.length) = true := by first | simpa using c3 | (simp at c3 ⊢; omega)
  clear c3
  have H' := Aside0.mk H
  clear H
  go_enter Try.func26, Try.ntmps26
  go_wp2
  go_loopg [5] k (fun kq v5 w' => ∃ (x5_1 : Int), v5 = .int .i64 x5_1 ∧ Aside0 (laws_eqTermS.l0 kq l0 l1 x5_1 = some r) ∧ Aside0 (kq ≤ k) ∧ Aside0 (Below w.heap.size w w'))
  case atStart => exact ⟨(0), (by first | rfl | (simp; done) | (simp [*]; done)), H', ⟨Nat.le_refl _⟩, ⟨by repeat (first | (with_reducible first | exact HB.out | apply below_alloc | apply pw_below_drewN | apply below_drew1) | exact HB.out)⟩⟩
  case round =>
   clear H'
   try clear c1
   try clear c2
   try clear p2
   try clear c3
   try clear c3b0
   try clear c3b1
   try clear c3b2
   obtain ⟨x5_1, rfl, HA, HK1, HB⟩ := hrel
   cases gk with
   | zero => exact absurd HA.out (by simp [laws_eqTermS.l0])
   | succ k1 =>
    have H := HA.out
    clear HA
    simp only [laws_eqTermS.l0] at H
    by_cases c4 : x5_1 < (l0.length : Int)
    ·rw [if_pos c4] at H
     have c4b0 : decide (x5_1 < (l0.length : Int)) = true := decide_eq_true c4
     clear c4
     by_cases c5 : 0 ≤ x5_1
     ·rw [if_pos c5] at H
      have c5b0 : decide (0 ≤ x5_1) = true := decide_eq_true c5
      clear c5
      by_cases c6 : x5_1 < (l1.length : Int)
      ·rw [if_pos c6] at H
       have c6b0 : decide (x5_1 < (l1.length : Int)) = true := decide_eq_true c6
       clear c6
       replace H := Option.bind_eq_some_iff.mp H
       obtain ⟨t220, A70, H⟩ := H
       replace H : (if t220 = true then (laws_eqTermS.l0 k1 l0 l1 (wrap64 (x5_1 + 1))) else (some false)) = some r := H
       have A7 := Aside0.mk A70
       clear A70
       by_cases c8 : t220 = true
       ·subst c8
        have H1 : (laws_eqTermS.l0 k1 l0 l1 (wrap64 (x5_1 + 1))) = some r := by rw [if_pos rfl] at H; exact H
        clear H
        have H := H1
        clear H1
        have H' := Aside0.mk H
        clear H
        try go_wp2
        have n0_ := Aside0.mk (below_drew1 HB.out)
        clear HB
        have HB := n0_
        clear n0_
        have p218 : 0 ≤ (x5_1 : Int) := of_decide_eq_true (by first | (with_reducible assumption) | assumption)
        have q218 : x5_1 < (l0.length : Int) := of_decide_eq_true (by first | (with_reducible assumption) | assumption)
        obtain ⟨ad218, e218, hx218_0, hx218_1, hx218_2⟩ := at_T69 HR0.out x5_1 p218 q218
        have hw218_2 := hx218_2
        have hw218_1 := hx218_1
        have hw218_0 := hx218_0
        cases e218
        replace hx218_0 := (HB.out.cell (World.block_lt_of_cell? w _ hx218_0)).trans hx218_0
        replace hx218_1 := (HB.out.cell (World.block_lt_of_cell? w _ hx218_1)).trans hx218_1
        replace hx218_2 := (HB.out.cell (World.block_lt_of_cell? w _ hx218_2)).trans hx218_2
        replace p218 := eq_true p218
        replace q218 := eq_true q218
        have p219 : 0 ≤ (x5_1 : Int) := of_decide_eq_true (by first | (with_reducible assumption) | assumption)
        have q219 : x5_1 < (l1.length : Int) := of_decide_eq_true (by first | (with_reducible assumption) | assumption)
        obtain ⟨ad219, e219, hx219_0, hx219_1, hx219_2⟩ := at_T69 HR1.out x5_1 p219 q219
        have hw219_2 := hx219_2
        have hw219_1 := hx219_1
        have hw219_0 := hx219_0
        cases e219
        replace hx219_0 := (HB.out.cell (World.block_lt_of_cell? w _ hx219_0)).trans hx219_0
        replace hx219_1 := (HB.out.cell (World.block_lt_of_cell? w _ hx219_1)).trans hx219_1
        replace hx219_2 := (HB.out.cell (World.block_lt_of_cell? w _ hx219_2)).trans hx219_2
        replace p219 := eq_true p219
        replace q219 := eq_true q219
        refine start_ (n := 10) (S := fun w' => w'.cell? (ad218.add ((x5_1).toNat * 3)) = some (.int .i64 ((rd_T69 l0 x5_1).f0)) ∧ w'.cell? ⟨(ad218.add ((x5_1).toNat * 3)).block, (ad218.add ((x5_1).toNat * 3)).off + 1, none⟩ = some (.int .i64 ((rd_T69 l0 x5_1).f1)) ∧ w'.cell? ⟨(ad218.add ((x5_1).toNat * 3)).block, (ad218.add ((x5_1).toNat * 3)).off + 2, none⟩ = some (.int .i64 ((rd_T69 l0 x5_1).f2)) ∧ w'.cell? (ad219.add ((x5_1).toNat * 3)) = some (.int .i64 ((rd_T69 l1 x5_1).f0)) ∧ w'.cell? ⟨(ad219.add ((x5_1).toNat * 3)).block, (ad219.add ((x5_1).toNat * 3)).off + 1, none⟩ = some (.int .i64 ((rd_T69 l1 x5_1).f1)) ∧ w'.cell? ⟨(ad219.add ((x5_1).toNat * 3)).block, (ad219.add ((x5_1).toNat * 3)).off + 2, none⟩ = some (.int .i64 ((rd_T69 l1 x5_1).f2))) (ds := []) #[false, false, false, false, false, false, false, false, false, false] (by kernel_rfl) rfl rfl ⟨((HB.out.cell (World.block_lt_of_cell? w _ hw218_0)).trans hw218_0), ((HB.out.cell (World.block_lt_of_cell? w _ hw218_1)).trans hw218_1), ((HB.out.cell (World.block_lt_of_cell? w _ hw218_2)).trans hw218_2), ((HB.out.cell (World.block_lt_of_cell? w _ hw219_0)).trans hw219_0), ((HB.out.cell (World.block_lt_of_cell? w _ hw219_1)).trans hw219_1), ((HB.out.cell (World.block_lt_of_cell? w _ hw219_2)).trans hw219_2)⟩ (fun hHeld => ?_); refine with_tabW laws_eqTermS.tab6 laws_eqTermS.bits6 (fun HT_ HW_ => ?_)
        generalize wr.drew = w9 at HB hx218_0 hx218_1 hx218_2 hx219_0 hx219_1 hx219_2 hHeld ⊢
        refine pure_ (i := 0) (N := some 17) (v := ?_) (a' := ?_) #[true, false, false, false, false, false, false, false, false, false] rfl rfl (any_of HT_.out (by kernel_rfl)) (fun _ _ _ h => h) (Or.inl ⟨by rfl, ?_⟩) ?_ ?_
        rotate_left
        ·intro w'
         go_simp
         with_reducible rfl
        rotate_left
        ·simp only [Act.put, List.setIfInBounds_toArray, List.set_cons_zero, List.set_cons_succ, i64_w, i32_w]
         rfl
        refine pure_ (i := 1) (N := some 18) (v := ?_) (a' := ?_) #[true, true, false, false, false, false, false, false, false, false] rfl rfl (any_of HT_.out (by kernel_rfl)) (fun _ _ _ h => h) (Or.inl ⟨by rfl, ?_⟩) ?_ ?_
        rotate_left
        ·intro w'
         go_simp
         with_reducible rfl
        rotate_left
        ·simp only [Act.put, List.setIfInBounds_toArray, List.set_cons_zero, List.set_cons_succ, i64_w, i32_w]
         rfl
        refine pure_ (i := 2) (N := some 19) (v := ?_) (a' := ?_) #[true, true, true, false, false, false, false, false, false, false] rfl rfl (any_of HT_.out (by kernel_rfl)) (fun _ _ _ h => h) (Or.inl ⟨by rfl, ?_⟩) ?_ ?_
        rotate_left
        ·intro w'
         go_simp
         with_reducible rfl
        rotate_left
        ·simp only [Act.put, List.setIfInBounds_toArray, List.set_cons_zero, List.set_cons_succ, i64_w, i32_w]
         rfl
        refine pure_ (i := 4) (N := some 21) (v := ?_) (a' := ?_) #[true, true, true, false, true, false, false, false, false, false] rfl rfl (any_of HT_.out (by kernel_rfl)) (fun _ _ _ h => h) (Or.inl ⟨by rfl, ?_⟩) ?_ ?_
        rotate_left
        ·intro w'
         go_simp
         with_reducible rfl
        rotate_left
        ·simp only [Act.put, List.setIfInBounds_toArray, List.set_cons_zero, List.set_cons_succ, i64_w, i32_w]
         rfl
        refine pure_ (i := 5) (N := some 22) (v := ?_) (a' := ?_) #[true, true, true, false, true, true, false, false, false, false] rfl rfl (any_of HT_.out (by kernel_rfl)) (fun _ _ _ h => h) (Or.inl ⟨by rfl, ?_⟩) ?_ ?_
        rotate_left
        ·intro w'
         go_simp
         with_reducible rfl
        rotate_left
        ·simp only [Act.put, List.setIfInBounds_toArray, List.set_cons_zero, List.set_cons_succ, i64_w, i32_w]
         rfl
        refine pure_ (i := 6) (N := some 23) (v := ?_) (a' := ?_) #[true, true, true, false, true, true, true, false, false, false] rfl rfl (any_of HT_.out (by kernel_rfl)) (fun _ _ _ h => h) (Or.inl ⟨by rfl, ?_⟩) ?_ ?_
        rotate_left
        ·intro w'
         go_simp
         with_reducible rfl
        rotate_left
        ·simp only [Act.put, List.setIfInBounds_toArray, List.set_cons_zero, List.set_cons_succ, i64_w, i32_w]
         rfl
        refine take_ (i := 3) (N := some 20) (v := ?_) (a' := ?_) #[true, true, true, true, true, true, true, false, false, false] rfl rfl (take_ofW HT_.out HW_.out (by kernel_rfl)) (fun _ _ _ h => h) (Or.inl ⟨by rfl, ?_⟩) hHeld ?_ ?_
        rotate_left
        ·rintro w' ⟨s0, s1, s2, s3, s4, s5⟩
         go_simp
         with_reducible rfl
        rotate_left
        ·simp only [Act.put, List.setIfInBounds_toArray, List.set_cons_zero, List.set_cons_succ, i64_w, i32_w]
         rfl
        refine take_ (i := 7) (N := some 24) (v := ?_) (a' := ?_) #[true, true, true, true, true, true, true, true, false, false] rfl rfl (take_ofW HT_.out HW_.out (by kernel_rfl)) (fun _ _ _ h => h) (Or.inl ⟨by rfl, ?_⟩) hHeld ?_ ?_
        rotate_left
        ·rintro w' ⟨s0, s1, s2, s3, s4, s5⟩
         go_simp
         with_reducible rfl
        rotate_left
        ·simp only [Act.put, List.setIfInBounds_toArray, List.set_cons_zero, List.set_cons_succ, i64_w, i32_w]
         rfl
        refine one_ (i := 8) (N := some 25) #[true, true, true, true, true, true, true, true, true, false] rfl rfl (one_of HT_.out (by kernel_rfl)) (by decide) (fun K hK => ?_)
        refine goes_ Try.func50 (by kernel_rfl) rfl #[.agg #[.int .i64 ((rd_T69 l0 x5_1).f0), .int .i64 ((rd_T69 l0 x5_1).f1), .int .i64 ((rd_T69 l0 x5_1).f2)], .agg #[.int .i64 ((rd_T69 l1 x5_1).f0), .int .i64 ((rd_T69 l1 x5_1).f1), .int .i64 ((rd_T69 l1 x5_1).f2)]] (by rfl) rfl rfl (by (try simp only [List.map_toArray, List.map_cons, List.map_nil]); first | done | rfl | (simp only [List.length_drop, List.length_take]; rfl)) ?_
        with_reducible refine (laws_eqTerm.calls ((rd_T69 l0 x5_1).f0) ((rd_T69 l0 x5_1).f1) ((rd_T69 l0 x5_1).f2) ((rd_T69 l1 x5_1).f0) ((rd_T69 l1 x5_1).f1) ((rd_T69 l1 x5_1).f2) true _ A7.out).mono ?_
        rintro e w10 ⟨rfl, hb⟩
        refine ⟨_, rfl, ?_⟩
        have n0_ := Aside0.mk (below_step (by repeat (first | (with_reducible first | exact HB.out | apply below_alloc | apply pw_below_drewN | apply below_drew1) | exact HB.out)) hb)
        clear HB
        have HB := n0_
        clear n0_
        (try clear hb)
        (try clear hb2)
        (try clear hk)
        (try clear hi)
        refine hK.out _ _ ⟨((HB.out.cell (World.block_lt_of_cell? w _ hw218_0)).trans hw218_0), ((HB.out.cell (World.block_lt_of_cell? w _ hw218_1)).trans hw218_1), ((HB.out.cell (World.block_lt_of_cell? w _ hw218_2)).trans hw218_2), ((HB.out.cell (World.block_lt_of_cell? w _ hw219_0)).trans hw219_0), ((HB.out.cell (World.block_lt_of_cell? w _ hw219_1)).trans hw219_1), ((HB.out.cell (World.block_lt_of_cell? w _ hw219_2)).trans hw219_2)⟩ (fun hHeld => ?_)
        clear hK K
        refine norm_ (a' := ?_) ?_ ?_
        rotate_left
        ·show Act.put _ (some 25) _ = _
         simp only [Act.put, List.setIfInBounds_toArray, List.set_cons_zero, List.set_cons_succ, i64_w, i32_w]
         rfl
        refine pure_ (i := 9) (N := some 26) (v := ?_) (a' := ?_) #[true, true, true, true, true, true, true, true, true, true] rfl rfl (any_of HT_.out (by kernel_rfl)) (fun _ _ _ h => h) (Or.inl ⟨by rfl, ?_⟩) ?_ ?_
        rotate_left
        ·intro w'
         go_simp
         with_reducible rfl
        rotate_left
        ·simp only [Act.put, List.setIfInBounds_toArray, List.set_cons_zero, List.set_cons_succ, i64_w, i32_w]
         rfl
        refine done_ (done_of HT_.out (by kernel_rfl)) ?_
        try go_wp2
        go_roundg k1
        case measure => have := HK1.out; omega
        case rel => exact ⟨(wrap64 (x5_1 + 1)), (by first | rfl | (simp; done) | (simp [*]; done)), H', ⟨by have := HK1.out; omega⟩, ⟨by repeat (first | (with_reducible first | exact HB.out | apply below_alloc | apply pw_below_drewN | apply below_drew1) | exact HB.out)⟩⟩
       ·replace c8 := Bool.eq_false_iff.mpr c8
        subst c8
        have H1 : (some false) = some r := by rw [if_neg (show ¬ (false = true) by decide)] at H; exact H
        clear H
        have H := H1
        clear H1
        obtain rfl := Option.some.inj H
        try go_wp2
        have n0_ := Aside0.mk (below_drew1 HB.out)
        clear HB
        have HB := n0_
        clear n0_
        have p218 : 0 ≤ (x5_1 : Int) := of_decide_eq_true (by first | (with_reducible assumption) | assumption)
        have q218 : x5_1 < (l0.length : Int) := of_decide_eq_true (by first | (with_reducible assumption) | assumption)
        obtain ⟨ad218, e218, hx218_0, hx218_1, hx218_2⟩ := at_T69 HR0.out x5_1 p218 q218
        have hw218_2 := hx218_2
        have hw218_1 := hx218_1
        have hw218_0 := hx218_0
        cases e218
        replace hx218_0 := (HB.out.cell (World.block_lt_of_cell? w _ hx218_0)).trans hx218_0
        replace hx218_1 := (HB.out.cell (World.block_lt_of_cell? w _ hx218_1)).trans hx218_1
        replace hx218_2 := (HB.out.cell (World.block_lt_of_cell? w _ hx218_2)).trans hx218_2
        replace p218 := eq_true p218
        replace q218 := eq_true q218
        have p219 : 0 ≤ (x5_1 : Int) := of_decide_eq_true (by first | (with_reducible assumption) | assumption)
        have q219 : x5_1 < (l1.length : Int) := of_decide_eq_true (by first | (with_reducible assumption) | assumption)
        obtain ⟨ad219, e219, hx219_0, hx219_1, hx219_2⟩ := at_T69 HR1.out x5_1 p219 q219
        have hw219_2 := hx219_2
        have hw219_1 := hx219_1
        have hw219_0 := hx219_0
        cases e219
        replace hx219_0 := (HB.out.cell (World.block_lt_of_cell? w _ hx219_0)).trans hx219_0
        replace hx219_1 := (HB.out.cell (World.block_lt_of_cell? w _ hx219_1)).trans hx219_1
        replace hx219_2 := (HB.out.cell (World.block_lt_of_cell? w _ hx219_2)).trans hx219_2
        replace p219 := eq_true p219
        replace q219 := eq_true q219
        refine start_ (n := 10) (S := fun w' => w'.cell? (ad218.add ((x5_1).toNat * 3)) = some (.int .i64 ((rd_T69 l0 x5_1).f0)) ∧ w'.cell? ⟨(ad218.add ((x5_1).toNat * 3)).block, (ad218.add ((x5_1).toNat * 3)).off + 1, none⟩ = some (.int .i64 ((rd_T69 l0 x5_1).f1)) ∧ w'.cell? ⟨(ad218.add ((x5_1).toNat * 3)).block, (ad218.add ((x5_1).toNat * 3)).off + 2, none⟩ = some (.int .i64 ((rd_T69 l0 x5_1).f2)) ∧ w'.cell? (ad219.add ((x5_1).toNat * 3)) = some (.int .i64 ((rd_T69 l1 x5_1).f0)) ∧ w'.cell? ⟨(ad219.add ((x5_1).toNat * 3)).block, (ad219.add ((x5_1).toNat * 3)).off + 1, none⟩ = some (.int .i64 ((rd_T69 l1 x5_1).f1)) ∧ w'.cell? ⟨(ad219.add ((x5_1).toNat * 3)).block, (ad219.add ((x5_1).toNat * 3)).off + 2, none⟩ = some (.int .i64 ((rd_T69 l1 x5_1).f2))) (ds := []) #[false, false, false, false, false, false, false, false, false, false] (by kernel_rfl) rfl rfl ⟨((HB.out.cell (World.block_lt_of_cell? w _ hw218_0)).trans hw218_0), ((HB.out.cell (World.block_lt_of_cell? w _ hw218_1)).trans hw218_1), ((HB.out.cell (World.block_lt_of_cell? w _ hw218_2)).trans hw218_2), ((HB.out.cell (World.block_lt_of_cell? w _ hw219_0)).trans hw219_0), ((HB.out.cell (World.block_lt_of_cell? w _ hw219_1)).trans hw219_1), ((HB.out.cell (World.block_lt_of_cell? w _ hw219_2)).trans hw219_2)⟩ (fun hHeld => ?_); refine with_tabW laws_eqTermS.tab6 laws_eqTermS.bits6 (fun HT_ HW_ => ?_)
        generalize wr.drew = w11 at HB hx218_0 hx218_1 hx218_2 hx219_0 hx219_1 hx219_2 hHeld ⊢
        refine pure_ (i := 0) (N := some 17) (v := ?_) (a' := ?_) #[true, false, false, false, false, false, false, false, false, false] rfl rfl (any_of HT_.out (by kernel_rfl)) (fun _ _ _ h => h) (Or.inl ⟨by rfl, ?_⟩) ?_ ?_
        rotate_left
        ·intro w'
         go_simp
         with_reducible rfl
        rotate_left
        ·simp only [Act.put, List.setIfInBounds_toArray, List.set_cons_zero, List.set_cons_succ, i64_w, i32_w]
         rfl
        refine pure_ (i := 1) (N := some 18) (v := ?_) (a' := ?_) #[true, true, false, false, false, false, false, false, false, false] rfl rfl (any_of HT_.out (by kernel_rfl)) (fun _ _ _ h => h) (Or.inl ⟨by rfl, ?_⟩) ?_ ?_
        rotate_left
        ·intro w'
         go_simp
         with_reducible rfl
        rotate_left
        ·simp only [Act.put, List.setIfInBounds_toArray, List.set_cons_zero, List.set_cons_succ, i64_w, i32_w]
         rfl
        refine pure_ (i := 2) (N := some 19) (v := ?_) (a' := ?_) #[true, true, true, false, false, false, false, false, false, false] rfl rfl (any_of HT_.out (by kernel_rfl)) (fun _ _ _ h => h) (Or.inl ⟨by rfl, ?_⟩) ?_ ?_
        rotate_left
        ·intro w'
         go_simp
         with_reducible rfl
        rotate_left
        ·simp only [Act.put, List.setIfInBounds_toArray, List.set_cons_zero, List.set_cons_succ, i64_w, i32_w]
         rfl
        refine pure_ (i := 4) (N := some 21) (v := ?_) (a' := ?_) #[true, true, true, false, true, false, false, false, false, false] rfl rfl (any_of HT_.out (by kernel_rfl)) (fun _ _ _ h => h) (Or.inl ⟨by rfl, ?_⟩) ?_ ?_
        rotate_left
        ·intro w'
         go_simp
         with_reducible rfl
        rotate_left
        ·simp only [Act.put, List.setIfInBounds_toArray, List.set_cons_zero, List.set_cons_succ, i64_w, i32_w]
         rfl
        refine pure_ (i := 5) (N := some 22) (v := ?_) (a' := ?_) #[true, true, true, false, true, true, false, false, false, false] rfl rfl (any_of HT_.out (by kernel_rfl)) (fun _ _ _ h => h) (Or.inl ⟨by rfl, ?_⟩) ?_ ?_
        rotate_left
        ·intro w'
         go_simp
         with_reducible rfl
        rotate_left
        ·simp only [Act.put, List.setIfInBounds_toArray, List.set_cons_zero, List.set_cons_succ, i64_w, i32_w]
         rfl
        refine pure_ (i := 6) (N := some 23) (v := ?_) (a' := ?_) #[true, true, true, false, true, true, true, false, false, false] rfl rfl (any_of HT_.out (by kernel_rfl)) (fun _ _ _ h => h) (Or.inl ⟨by rfl, ?_⟩) ?_ ?_
        rotate_left
        ·intro w'
         go_simp
         with_reducible rfl
        rotate_left
        ·simp only [Act.put, List.setIfInBounds_toArray, List.set_cons_zero, List.set_cons_succ, i64_w, i32_w]
         rfl
        refine take_ (i := 3) (N := some 20) (v := ?_) (a' := ?_) #[true, true, true, true, true, true, true, false, false, false] rfl rfl (take_ofW HT_.out HW_.out (by kernel_rfl)) (fun _ _ _ h => h) (Or.inl ⟨by rfl, ?_⟩) hHeld ?_ ?_
        rotate_left
        ·rintro w' ⟨s0, s1, s2, s3, s4, s5⟩
         go_simp
         with_reducible rfl
        rotate_left
        ·simp only [Act.put, List.setIfInBounds_toArray, List.set_cons_zero, List.set_cons_succ, i64_w, i32_w]
         rfl
        refine take_ (i := 7) (N := some 24) (v := ?_) (a' := ?_) #[true, true, true, true, true, true, true, true, false, false] rfl rfl (take_ofW HT_.out HW_.out (by kernel_rfl)) (fun _ _ _ h => h) (Or.inl ⟨by rfl, ?_⟩) hHeld ?_ ?_
        rotate_left
        ·rintro w' ⟨s0, s1, s2, s3, s4, s5⟩
         go_simp
         with_reducible rfl
        rotate_left
        ·simp only [Act.put, List.setIfInBounds_toArray, List.set_cons_zero, List.set_cons_succ, i64_w, i32_w]
         rfl
        refine one_ (i := 8) (N := some 25) #[true, true, true, true, true, true, true, true, true, false] rfl rfl (one_of HT_.out (by kernel_rfl)) (by decide) (fun K hK => ?_)
        refine goes_ Try.func50 (by kernel_rfl) rfl #[.agg #[.int .i64 ((rd_T69 l0 x5_1).f0), .int .i64 ((rd_T69 l0 x5_1).f1), .int .i64 ((rd_T69 l0 x5_1).f2)], .agg #[.int .i64 ((rd_T69 l1 x5_1).f0), .int .i64 ((rd_T69 l1 x5_1).f1), .int .i64 ((rd_T69 l1 x5_1).f2)]] (by rfl) rfl rfl (by (try simp only [List.map_toArray, List.map_cons, List.map_nil]); first | done | rfl | (simp only [List.length_drop, List.length_take]; rfl)) ?_
        with_reducible refine (laws_eqTerm.calls ((rd_T69 l0 x5_1).f0) ((rd_T69 l0 x5_1).f1) ((rd_T69 l0 x5_1).f2) ((rd_T69 l1 x5_1).f0) ((rd_T69 l1 x5_1).f1) ((rd_T69 l1 x5_1).f2) false _ A7.out).mono ?_
        rintro e w12 ⟨rfl, hb⟩
        refine ⟨_, rfl, ?_⟩
        have n0_ := Aside0.mk (below_step (by repeat (first | (with_reducible first | exact HB.out | apply below_alloc | apply pw_below_drewN | apply below_drew1) | exact HB.out)) hb)
        clear HB
        have HB := n0_
        clear n0_
        (try clear hb)
        (try clear hb2)
        (try clear hk)
        (try clear hi)
        refine hK.out _ _ ⟨((HB.out.cell (World.block_lt_of_cell? w _ hw218_0)).trans hw218_0), ((HB.out.cell (World.block_lt_of_cell? w _ hw218_1)).trans hw218_1), ((HB.out.cell (World.block_lt_of_cell? w _ hw218_2)).trans hw218_2), ((HB.out.cell (World.block_lt_of_cell? w _ hw219_0)).trans hw219_0), ((HB.out.cell (World.block_lt_of_cell? w _ hw219_1)).trans hw219_1), ((HB.out.cell (World.block_lt_of_cell? w _ hw219_2)).trans hw219_2)⟩ (fun hHeld => ?_)
        clear hK K
        refine norm_ (a' := ?_) ?_ ?_
        rotate_left
        ·show Act.put _ (some 25) _ = _
         simp only [Act.put, List.setIfInBounds_toArray, List.set_cons_zero, List.set_cons_succ, i64_w, i32_w]
         rfl
        refine pure_ (i := 9) (N := some 26) (v := ?_) (a' := ?_) #[true, true, true, true, true, true, true, true, true, true] rfl rfl (any_of HT_.out (by kernel_rfl)) (fun _ _ _ h => h) (Or.inl ⟨by rfl, ?_⟩) ?_ ?_
        rotate_left
        ·intro w'
         go_simp
         with_reducible rfl
        rotate_left
        ·simp only [Act.put, List.setIfInBounds_toArray, List.set_cons_zero, List.set_cons_succ, i64_w, i32_w]
         rfl
        refine done_ (done_of HT_.out (by kernel_rfl)) ?_
        try go_wp2
        go_ret
        exact ⟨by first | rfl | (simp [errW_none, errW_some] <;> rfl) | (simp [*, errW_none, errW_some] <;> rfl), by repeat (first | (with_reducible first | exact HB.out | apply below_alloc | apply pw_below_drewN | apply below_drew1) | exact HB.out)⟩
      ·rw [if_neg c6] at H
       exact absurd H (by simp)
     ·rw [if_neg c5] at H
      exact absurd H (by simp)
    ·rw [if_neg c4] at H
     have c4b0 : decide (x5_1 < (l0.length : Int)) = false := decide_eq_false c4
     clear c4
     obtain rfl := Option.some.inj H
     go_wp2
     go_ret
     exact ⟨by first | rfl | (simp [errW_none, errW_some] <;> rfl) | (simp [*, errW_none, errW_some] <;> rfl), by repeat (first | (with_reducible first | exact HB.out | apply below_alloc | apply pw_below_drewN | apply below_drew1) | exact HB.out)⟩
 ·rw [if_neg c3] at H
  have c3b0 : ((l0.length : Int) == (l1.length : Int)) = false := beq_eq_false_iff_ne.mpr c3
  have c3b1 : ((l0.length : Int) != (l1.length : Int)) = true := bne_iff_ne.mpr c3
  have c3b2 : (l0.length == l1.length) = false := by first | simpa using c3 | (simp at c3 ⊢; omega)
  obtain rfl := Option.some.inj H
  go_enter Try.func26, Try.ntmps26
  go_wp2
  go_ret
  exact ⟨by first | rfl | (simp [errW_none, errW_some] <;> rfl) | (simp [*, errW_none, errW_some] <;> rfl), by repeat (first | (with_reducible first | exact HB.out | apply below_alloc | apply pw_below_drewN | apply below_drew1) | exact HB.out)⟩

/-! ### laws_eqClause: function 10 -/
def laws_eqClause.f (k : Nat) (a0_0 : ByteArray) (l0_1 : List (S69)) (a0_2 : Int) (a0_3 : Int) (a1_0 : ByteArray) (l1_1 : List (S69)) (a1_2 : Int) (a1_3 : Int) : Option (Bool) := if a0_0.toList = a1_0.toList then ((laws_eqTermS.f k l0_1 l1_1).bind fun t223 => (if t223 = true then (if a0_2 = a1_2 then (if a0_3 = a1_3 then (some true) else (some false)) else (some false)) else (some false))) else (some false)
theorem laws_eqClause.mono : ∀ a0 a1 a2 a3 a4 a5 a6 a7 k, LeO (laws_eqClause.f k a0 a1 a2 a3 a4 a5 a6 a7) (laws_eqClause.f (k + 1) a0 a1 a2 a3 a4 a5 a6 a7) := by
 intro a0 a1 a2 a3 a4 a5 a6 a7 k
 unfold laws_eqClause.f
 repeat' first
   | (with_reducible exact laws_eqTermS.mono _ _ _)
   | (with_reducible exact LeO.refl _)
   | (with_reducible exact LeO.none _)
   | (with_reducible refine LeO.ite ?_ ?_)
   | (with_reducible refine LeO.bind ?_ (fun _ => ?_))
   | exact laws_eqTermS.mono _ _ _
   | exact LeO.none _
   | refine LeO.ite ?_ ?_
   | refine LeO.bind ?_ (fun _ => ?_)
set_option maxHeartbeats 8000000 in
set_option maxRecDepth 100000 in
theorem laws_eqClause.calls (k : Nat) (a0_0 : ByteArray) (A0_1 : Option Addr) (c0_1 : Nat) (l0_1 : List (S69)) (a0_2 : Int) (a0_3 : Int) (a1_0 : ByteArray) (A1_1 : Option Addr) (c1_1 : Nat) (l1_1 : List (S69)) (a1_2 : Int) (a1_3 : Int) (r : Bool) (w : World) (hr0_1 : Kd.C k69 w A0_1 l0_1.length l0_1) (hc0_1 : l0_1.length ≤ c0_1) (hr1_1 : Kd.C k69 w A1_1 l1_1.length l1_1) (hc1_1 : l1_1.length ≤ c1_1) (h : laws_eqClause.f k a0_0 l0_1 a0_2 a0_3 a1_0 l1_1 a1_2 a1_3 = some r) :
  Calls Try.prog 10 #[.agg #[.string a0_0, .slice A0_1 l0_1.length c0_1, .int .i64 a0_2, .int .i64 a0_3], .agg #[.string a1_0, .slice A1_1 l1_1.length c1_1, .int .i64 a1_2, .int .i64 a1_3]] w fun e w' => e = .returned (.bool r) ∧ Below w.heap.size w w' := by
 have hu32 := Try.underlying32
 have HR0_1 := Aside0.mk hr0_1
 have HC0_1 := Aside0.mk hc0_1
 clear hr0_1 hc0_1
 have HR1_1 := Aside0.mk hr1_1
 have HC1_1 := Aside0.mk hc1_1
 clear hr1_1 hc1_1
 have HB := Aside0.mk (Below.refl w.heap.size w)
 have H : (if a0_0.toList = a1_0.toList then ((laws_eqTermS.f k l0_1 l1_1).bind fun t223 => (if t223 = true then (if a0_2 = a1_2 then (if a0_3 = a1_3 then (some true) else (some false)) else (some false)) else (some false))) else (some false)) = some r := h
 clear h
 by_cases c3 : a0_0.toList = a1_0.toList
 ·rw [if_pos c3] at H
  have c3b0 : (a0_0.toList == a1_0.toList) = true := beq_iff_eq.mpr c3
  have c3b1 : (a0_0.toList != a1_0.toList) = false := bne_eq_false_iff_eq.mpr c3
  clear c3
  replace H := Option.bind_eq_some_iff.mp H
  obtain ⟨t223, A40, H⟩ := H
  replace H : (if t223 = true then (if a0_2 = a1_2 then (if a0_3 = a1_3 then (some true) else (some false)) else (some false)) else (some false)) = some r := H
  have A4 := Aside0.mk A40
  clear A40
  by_cases c5 : t223 = true
  ·subst c5
   have H1 : (if a0_2 = a1_2 then (if a0_3 = a1_3 then (some true) else (some false)) else (some false)) = some r := by rw [if_pos rfl] at H; exact H
   clear H
   have H := H1
   clear H1
   by_cases c6 : a0_2 = a1_2
   ·rw [if_pos c6] at H
    have c6b0 : (a0_2 == a1_2) = true := beq_iff_eq.mpr c6
    have c6b1 : (a0_2 != a1_2) = false := bne_eq_false_iff_eq.mpr c6
    clear c6
    by_cases c7 : a0_3 = a1_3
    ·rw [if_pos c7] at H
     have c7b0 : (a0_3 == a1_3) = true := beq_iff_eq.mpr c7
     have c7b1 : (a0_3 != a1_3) = false := bne_eq_false_iff_eq.mpr c7
     clear c7
     obtain rfl := Option.some.inj H
     go_enter Try.func10, Try.ntmps10
     go_wp2_with (first | ((with_reducible refine gate_dst (N := 2) rfl ?_); refine box_event ?hg (N := 2) ?hd (cs := #[.string a0_0, .slice A0_1 l0_1.length c0_1, .int .i64 a0_2, .int .i64 a0_3]) (t := 32) ?hr ?_; (case hd => rfl); (case hg => rfl); (case hr => first | (go_simp; done) | (go_simp; rfl)); intro gb221 hg w8 hbox hb; have n0_ := Aside0.mk (below_step (by repeat (first | (with_reducible first | exact HB.out | apply below_alloc | apply pw_below_drewN | apply below_drew1) | exact HB.out)) hb); have n1_ := Aside0.mk (hbox); have n2_ := Aside0.mk ((by rw [hg]; exact (below_size (by repeat (first | (with_reducible first | exact HB.out | apply below_alloc | apply pw_below_drewN | apply below_drew1) | exact HB.out))) : w.heap.size ≤ gb221)); have n3_ := Aside0.mk ((by rw [hg]; exact (below_size (by repeat (first | (with_reducible first | exact HB.out | apply below_alloc | apply pw_below_drewN | apply below_drew1) | exact HB.out))) : w.heap.size ≤ gb221)); clear HB; have HB := n0_; have BK221 := n1_; have GW221 := n2_; have GE221 := n3_; clear n0_ n1_ n2_ n3_; clear hb hbox hg) | ((with_reducible refine gate_dst (N := 3) rfl ?_); refine box_event ?hg (N := 3) ?hd (cs := #[.string a1_0, .slice A1_1 l1_1.length c1_1, .int .i64 a1_2, .int .i64 a1_3]) (t := 32) ?hr ?_; (case hd => rfl); (case hg => rfl); (case hr => first | (go_simp; done) | (go_simp; rfl)); intro gb222 hg w9 hbox hb; have n0_ := Aside0.mk (blk_below (g := gb221) (o := .cells #[.string a0_0, .slice A0_1 l0_1.length c0_1, .int .i64 a0_2, .int .i64 a0_3] 32 (0, 0)) (by (with_reducible repeat (first | refine blk_drewN ?_ _ | refine blk_drew ?_ | refine blk_alloc ?_ _)); exact BK221.out) hb); have n1_ := Aside0.mk (below_step (by repeat (first | (with_reducible first | exact HB.out | apply below_alloc | apply pw_below_drewN | apply below_drew1 | refine below_set ?_ GE221.out) | exact HB.out)) hb); have n2_ := Aside0.mk (hbox); have n3_ := Aside0.mk ((by rw [hg]; exact (below_size (by repeat (first | (with_reducible first | exact HB.out | apply below_alloc | apply pw_below_drewN | apply below_drew1 | refine below_set ?_ GE221.out) | exact HB.out))) : w.heap.size ≤ gb222)); have n4_ := Aside0.mk ((by rw [hg]; exact (below_size (by repeat (first | (with_reducible first | exact HB.out | apply below_alloc | apply pw_below_drewN | apply below_drew1 | refine below_set ?_ GE221.out) | exact HB.out))) : w.heap.size ≤ gb222)); have n5_ := Aside0.mk ((by rw [hg]; exact Nat.ne_of_lt (blk_lt (g := gb221) (o := .cells #[.string a0_0, .slice A0_1 l0_1.length c0_1, .int .i64 a0_2, .int .i64 a0_3] 32 (0, 0)) (by (with_reducible repeat (first | refine blk_drewN ?_ _ | refine blk_drew ?_ | refine blk_alloc ?_ _)); exact BK221.out)) : gb221 ≠ gb222)); have n6_ := Aside0.mk ((by rw [hg]; exact Nat.ne_of_gt (blk_lt (g := gb221) (o := .cells #[.string a0_0, .slice A0_1 l0_1.length c0_1, .int .i64 a0_2, .int .i64 a0_3] 32 (0, 0)) (by (with_reducible repeat (first | refine blk_drewN ?_ _ | refine blk_drew ?_ | refine blk_alloc ?_ _)); exact BK221.out)) : gb222 ≠ gb221)); clear BK221; clear HB; have BK221 := n0_; have HB := n1_; have BK222 := n2_; have GW222 := n3_; have GE222 := n4_; have NB221_222 := n5_; have NB222_221 := n6_; clear n0_ n1_ n2_ n3_ n4_ n5_ n6_; clear hb hbox hg; have hnb10 := NB221_222.out; have hnc10 := NB222_221.out; have hcz11_0 : w9.cell? ⟨gb221, 0, none⟩ = some (.string a0_0) := (blk_cell BK221.out 0).trans rfl; have hcz11_1 : w9.cell? ⟨gb221, 1, none⟩ = some (.slice A0_1 l0_1.length c0_1) := (blk_cell BK221.out 1).trans rfl; have hcz11_2 : w9.cell? ⟨gb221, 2, none⟩ = some (.int .i64 a0_2) := (blk_cell BK221.out 2).trans rfl; have hcz11_3 : w9.cell? ⟨gb221, 3, none⟩ = some (.int .i64 a0_3) := (blk_cell BK221.out 3).trans rfl; have hfz11_0 := blk_frozen BK221.out 0; have hfz11_1 := blk_frozen BK221.out 1; have hfz11_2 := blk_frozen BK221.out 2; have hfz11_3 := blk_frozen BK221.out 3; have hcz12_0 : w9.cell? ⟨gb222, 0, none⟩ = some (.string a1_0) := (blk_cell BK222.out 0).trans rfl; have hcz12_1 : w9.cell? ⟨gb222, 1, none⟩ = some (.slice A1_1 l1_1.length c1_1) := (blk_cell BK222.out 1).trans rfl; have hcz12_2 : w9.cell? ⟨gb222, 2, none⟩ = some (.int .i64 a1_2) := (blk_cell BK222.out 2).trans rfl; have hcz12_3 : w9.cell? ⟨gb222, 3, none⟩ = some (.int .i64 a1_3) := (blk_cell BK222.out 3).trans rfl; have hfz12_0 := blk_frozen BK222.out 0; have hfz12_1 := blk_frozen BK222.out 1; have hfz12_2 := blk_frozen BK222.out 2; have hfz12_3 := blk_frozen BK222.out 3) | ((with_reducible refine gate_callee (f := 26) rfl ?_); refine goesL_ (some 14) rfl rfl Try.func26 (by kernel_rfl) rfl #[.slice A0_1 l0_1.length c0_1, .slice A1_1 l1_1.length c1_1] rfl (by (try simp only [List.map_toArray, List.map_cons, List.map_nil]); first | done | rfl | (simp only [List.length_drop, List.length_take]; rfl)) ?_; (with_reducible refine (laws_eqTermS.calls k _ _ l0_1 _ _ l1_1 true _ ?side1 ?side2 ?side3 ?side4 A4.out).mono ?_); (case side1 => repeat (first | exact (Kd.C_below HR0_1.out HB.out) | (with_reducible refine Kd.C_alloc ?_ _) | (with_reducible refine Kd.C_drewN ?_ _) | (with_reducible refine Kd.C_drew ?_))); (case side2 => exact HC0_1.out); (case side3 => repeat (first | exact (Kd.C_below HR1_1.out HB.out) | (with_reducible refine Kd.C_alloc ?_ _) | (with_reducible refine Kd.C_drewN ?_ _) | (with_reducible refine Kd.C_drew ?_))); (case side4 => exact HC1_1.out); rintro e w13 ⟨rfl, hb⟩; refine ⟨_, rfl, ?_⟩; have n0_ := Aside0.mk (blk_below (g := gb221) (o := .cells #[.string a0_0, .slice A0_1 l0_1.length c0_1, .int .i64 a0_2, .int .i64 a0_3] 32 (0, 0)) (by (with_reducible repeat (first | refine blk_drewN ?_ _ | refine blk_drew ?_ | refine blk_alloc ?_ _)); exact BK221.out) hb); have n1_ := Aside0.mk (blk_below (g := gb222) (o := .cells #[.string a1_0, .slice A1_1 l1_1.length c1_1, .int .i64 a1_2, .int .i64 a1_3] 32 (0, 0)) (by (with_reducible repeat (first | refine blk_drewN ?_ _ | refine blk_drew ?_ | refine blk_alloc ?_ _)); exact BK222.out) hb); have n2_ := Aside0.mk (below_step (by repeat (first | (with_reducible first | exact HB.out | apply below_alloc | apply pw_below_drewN | apply below_drew1 | refine below_set ?_ GE221.out | refine below_set ?_ GE222.out) | exact HB.out)) hb); clear BK221; clear BK222; clear HB; have BK221 := n0_; have BK222 := n1_; have HB := n2_; clear n0_ n1_ n2_; (try clear hb); (try clear hb2); (try clear hk); (try clear hi); have hcz14_0 : w13.cell? ⟨gb221, 0, none⟩ = some (.string a0_0) := (blk_cell BK221.out 0).trans rfl; have hcz14_1 : w13.cell? ⟨gb221, 1, none⟩ = some (.slice A0_1 l0_1.length c0_1) := (blk_cell BK221.out 1).trans rfl; have hcz14_2 : w13.cell? ⟨gb221, 2, none⟩ = some (.int .i64 a0_2) := (blk_cell BK221.out 2).trans rfl; have hcz14_3 : w13.cell? ⟨gb221, 3, none⟩ = some (.int .i64 a0_3) := (blk_cell BK221.out 3).trans rfl; have hfz14_0 := blk_frozen BK221.out 0; have hfz14_1 := blk_frozen BK221.out 1; have hfz14_2 := blk_frozen BK221.out 2; have hfz14_3 := blk_frozen BK221.out 3; have hcz15_0 : w13.cell? ⟨gb222, 0, none⟩ = some (.string a1_0) := (blk_cell BK222.out 0).trans rfl; have hcz15_1 : w13.cell? ⟨gb222, 1, none⟩ = some (.slice A1_1 l1_1.length c1_1) := (blk_cell BK222.out 1).trans rfl; have hcz15_2 : w13.cell? ⟨gb222, 2, none⟩ = some (.int .i64 a1_2) := (blk_cell BK222.out 2).trans rfl; have hcz15_3 : w13.cell? ⟨gb222, 3, none⟩ = some (.int .i64 a1_3) := (blk_cell BK222.out 3).trans rfl; have hfz15_0 := blk_frozen BK222.out 0; have hfz15_1 := blk_frozen BK222.out 1; have hfz15_2 := blk_frozen BK222.out 2; have hfz15_3 := blk_frozen BK222.out 3))
     go_ret
     exact ⟨by first | rfl | (simp [errW_none, errW_some] <;> rfl) | (simp [*, errW_none, errW_some] <;> rfl), by repeat (first | (with_reducible first | exact HB.out | apply below_alloc | apply pw_below_drewN | apply below_drew1 | refine below_set ?_ GE221.out | refine below_set ?_ GE222.out) | exact HB.out)⟩
    ·rw [if_neg c7] at H
     have c7b0 : (a0_3 == a1_3) = false := beq_eq_false_iff_ne.mpr c7
     have c7b1 : (a0_3 != a1_3) = true := bne_iff_ne.mpr c7
     obtain rfl := Option.some.inj H
     go_enter Try.func10, Try.ntmps10
     go_wp2_with (first | ((with_reducible refine gate_dst (N := 2) rfl ?_); refine box_event ?hg (N := 2) ?hd (cs := #[.string a0_0, .slice A0_1 l0_1.length c0_1, .int .i64 a0_2, .int .i64 a0_3]) (t := 32) ?hr ?_; (case hd => rfl); (case hg => rfl); (case hr => first | (go_simp; done) | (go_simp; rfl)); intro gb221 hg w16 hbox hb; have n0_ := Aside0.mk (below_step (by repeat (first | (with_reducible first | exact HB.out | apply below_alloc | apply pw_below_drewN | apply below_drew1) | exact HB.out)) hb); have n1_ := Aside0.mk (hbox); have n2_ := Aside0.mk ((by rw [hg]; exact (below_size (by repeat (first | (with_reducible first | exact HB.out | apply below_alloc | apply pw_below_drewN | apply below_drew1) | exact HB.out))) : w.heap.size ≤ gb221)); have n3_ := Aside0.mk ((by rw [hg]; exact (below_size (by repeat (first | (with_reducible first | exact HB.out | apply below_alloc | apply pw_below_drewN | apply below_drew1) | exact HB.out))) : w.heap.size ≤ gb221)); clear HB; have HB := n0_; have BK221 := n1_; have GW221 := n2_; have GE221 := n3_; clear n0_ n1_ n2_ n3_; clear hb hbox hg) | ((with_reducible refine gate_dst (N := 3) rfl ?_); refine box_event ?hg (N := 3) ?hd (cs := #[.string a1_0, .slice A1_1 l1_1.length c1_1, .int .i64 a1_2, .int .i64 a1_3]) (t := 32) ?hr ?_; (case hd => rfl); (case hg => rfl); (case hr => first | (go_simp; done) | (go_simp; rfl)); intro gb222 hg w17 hbox hb; have n0_ := Aside0.mk (blk_below (g := gb221) (o := .cells #[.string a0_0, .slice A0_1 l0_1.length c0_1, .int .i64 a0_2, .int .i64 a0_3] 32 (0, 0)) (by (with_reducible repeat (first | refine blk_drewN ?_ _ | refine blk_drew ?_ | refine blk_alloc ?_ _)); exact BK221.out) hb); have n1_ := Aside0.mk (below_step (by repeat (first | (with_reducible first | exact HB.out | apply below_alloc | apply pw_below_drewN | apply below_drew1 | refine below_set ?_ GE221.out) | exact HB.out)) hb); have n2_ := Aside0.mk (hbox); have n3_ := Aside0.mk ((by rw [hg]; exact (below_size (by repeat (first | (with_reducible first | exact HB.out | apply below_alloc | apply pw_below_drewN | apply below_drew1 | refine below_set ?_ GE221.out) | exact HB.out))) : w.heap.size ≤ gb222)); have n4_ := Aside0.mk ((by rw [hg]; exact (below_size (by repeat (first | (with_reducible first | exact HB.out | apply below_alloc | apply pw_below_drewN | apply below_drew1 | refine below_set ?_ GE221.out) | exact HB.out))) : w.heap.size ≤ gb222)); have n5_ := Aside0.mk ((by rw [hg]; exact Nat.ne_of_lt (blk_lt (g := gb221) (o := .cells #[.string a0_0, .slice A0_1 l0_1.length c0_1, .int .i64 a0_2, .int .i64 a0_3] 32 (0, 0)) (by (with_reducible repeat (first | refine blk_drewN ?_ _ | refine blk_drew ?_ | refine blk_alloc ?_ _)); exact BK221.out)) : gb221 ≠ gb222)); have n6_ := Aside0.mk ((by rw [hg]; exact Nat.ne_of_gt (blk_lt (g := gb221) (o := .cells #[.string a0_0, .slice A0_1 l0_1.length c0_1, .int .i64 a0_2, .int .i64 a0_3] 32 (0, 0)) (by (with_reducible repeat (first | refine blk_drewN ?_ _ | refine blk_drew ?_ | refine blk_alloc ?_ _)); exact BK221.out)) : gb222 ≠ gb221)); clear BK221; clear HB; have BK221 := n0_; have HB := n1_; have BK222 := n2_; have GW222 := n3_; have GE222 := n4_; have NB221_222 := n5_; have NB222_221 := n6_; clear n0_ n1_ n2_ n3_ n4_ n5_ n6_; clear hb hbox hg; have hnb18 := NB221_222.out; have hnc18 := NB222_221.out; have hcz19_0 : w17.cell? ⟨gb221, 0, none⟩ = some (.string a0_0) := (blk_cell BK221.out 0).trans rfl; have hcz19_1 : w17.cell? ⟨gb221, 1, none⟩ = some (.slice A0_1 l0_1.length c0_1) := (blk_cell BK221.out 1).trans rfl; have hcz19_2 : w17.cell? ⟨gb221, 2, none⟩ = some (.int .i64 a0_2) := (blk_cell BK221.out 2).trans rfl; have hcz19_3 : w17.cell? ⟨gb221, 3, none⟩ = some (.int .i64 a0_3) := (blk_cell BK221.out 3).trans rfl; have hfz19_0 := blk_frozen BK221.out 0; have hfz19_1 := blk_frozen BK221.out 1; have hfz19_2 := blk_frozen BK221.out 2; have hfz19_3 := blk_frozen BK221.out 3; have hcz20_0 : w17.cell? ⟨gb222, 0, none⟩ = some (.string a1_0) := (blk_cell BK222.out 0).trans rfl; have hcz20_1 : w17.cell? ⟨gb222, 1, none⟩ = some (.slice A1_1 l1_1.length c1_1) := (blk_cell BK222.out 1).trans rfl; have hcz20_2 : w17.cell? ⟨gb222, 2, none⟩ = some (.int .i64 a1_2) := (blk_cell BK222.out 2).trans rfl; have hcz20_3 : w17.cell? ⟨gb222, 3, none⟩ = some (.int .i64 a1_3) := (blk_cell BK222.out 3).trans rfl; have hfz20_0 := blk_frozen BK222.out 0; have hfz20_1 := blk_frozen BK222.out 1; have hfz20_2 := blk_frozen BK222.out 2; have hfz20_3 := blk_frozen BK222.out 3) | ((with_reducible refine gate_callee (f := 26) rfl ?_); refine goesL_ (some 14) rfl rfl Try.func26 (by kernel_rfl) rfl #[.slice A0_1 l0_1.length c0_1, .slice A1_1 l1_1.length c1_1] rfl (by (try simp only [List.map_toArray, List.map_cons, List.map_nil]); first | done | rfl | (simp only [List.length_drop, List.length_take]; rfl)) ?_; (with_reducible refine (laws_eqTermS.calls k _ _ l0_1 _ _ l1_1 true _ ?side1 ?side2 ?side3 ?side4 A4.out).mono ?_); (case side1 => repeat (first | exact (Kd.C_below HR0_1.out HB.out) | (with_reducible refine Kd.C_alloc ?_ _) | (with_reducible refine Kd.C_drewN ?_ _) | (with_reducible refine Kd.C_drew ?_))); (case side2 => exact HC0_1.out); (case side3 => repeat (first | exact (Kd.C_below HR1_1.out HB.out) | (with_reducible refine Kd.C_alloc ?_ _) | (with_reducible refine Kd.C_drewN ?_ _) | (with_reducible refine Kd.C_drew ?_))); (case side4 => exact HC1_1.out); rintro e w21 ⟨rfl, hb⟩; refine ⟨_, rfl, ?_⟩; have n0_ := Aside0.mk (blk_below (g := gb221) (o := .cells #[.string a0_0, .slice A0_1 l0_1.length c0_1, .int .i64 a0_2, .int .i64 a0_3] 32 (0, 0)) (by (with_reducible repeat (first | refine blk_drewN ?_ _ | refine blk_drew ?_ | refine blk_alloc ?_ _)); exact BK221.out) hb); have n1_ := Aside0.mk (blk_below (g := gb222) (o := .cells #[.string a1_0, .slice A1_1 l1_1.length c1_1, .int .i64 a1_2, .int .i64 a1_3] 32 (0, 0)) (by (with_reducible repeat (first | refine blk_drewN ?_ _ | refine blk_drew ?_ | refine blk_alloc ?_ _)); exact BK222.out) hb); have n2_ := Aside0.mk (below_step (by repeat (first | (with_reducible first | exact HB.out | apply below_alloc | apply pw_below_drewN | apply below_drew1 | refine below_set ?_ GE221.out | refine below_set ?_ GE222.out) | exact HB.out)) hb); clear BK221; clear BK222; clear HB; have BK221 := n0_; have BK222 := n1_; have HB := n2_; clear n0_ n1_ n2_; (try clear hb); (try clear hb2); (try clear hk); (try clear hi); have hcz22_0 : w21.cell? ⟨gb221, 0, none⟩ = some (.string a0_0) := (blk_cell BK221.out 0).trans rfl; have hcz22_1 : w21.cell? ⟨gb221, 1, none⟩ = some (.slice A0_1 l0_1.length c0_1) := (blk_cell BK221.out 1).trans rfl; have hcz22_2 : w21.cell? ⟨gb221, 2, none⟩ = some (.int .i64 a0_2) := (blk_cell BK221.out 2).trans rfl; have hcz22_3 : w21.cell? ⟨gb221, 3, none⟩ = some (.int .i64 a0_3) := (blk_cell BK221.out 3).trans rfl; have hfz22_0 := blk_frozen BK221.out 0; have hfz22_1 := blk_frozen BK221.out 1; have hfz22_2 := blk_frozen BK221.out 2; have hfz22_3 := blk_frozen BK221.out 3; have hcz23_0 : w21.cell? ⟨gb222, 0, none⟩ = some (.string a1_0) := (blk_cell BK222.out 0).trans rfl; have hcz23_1 : w21.cell? ⟨gb222, 1, none⟩ = some (.slice A1_1 l1_1.length c1_1) := (blk_cell BK222.out 1).trans rfl; have hcz23_2 : w21.cell? ⟨gb222, 2, none⟩ = some (.int .i64 a1_2) := (blk_cell BK222.out 2).trans rfl; have hcz23_3 : w21.cell? ⟨gb222, 3, none⟩ = some (.int .i64 a1_3) := (blk_cell BK222.out 3).trans rfl; have hfz23_0 := blk_frozen BK222.out 0; have hfz23_1 := blk_frozen BK222.out 1; have hfz23_2 := blk_frozen BK222.out 2; have hfz23_3 := blk_frozen BK222.out 3))
     go_ret
     exact ⟨by first | rfl | (simp [errW_none, errW_some] <;> rfl) | (simp [*, errW_none, errW_some] <;> rfl), by repeat (first | (with_reducible first | exact HB.out | apply below_alloc | apply pw_below_drewN | apply below_drew1 | refine below_set ?_ GE221.out | refine below_set ?_ GE222.out) | exact HB.out)⟩
   ·rw [if_neg c6] at H
    have c6b0 : (a0_2 == a1_2) = false := beq_eq_false_iff_ne.mpr c6
    have c6b1 : (a0_2 != a1_2) = true := bne_iff_ne.mpr c6
    obtain rfl := Option.some.inj H
    go_enter Try.func10, Try.ntmps10
    go_wp2_with (first | ((with_reducible refine gate_dst (N := 2) rfl ?_); refine box_event ?hg (N := 2) ?hd (cs := #[.string a0_0, .slice A0_1 l0_1.length c0_1, .int .i64 a0_2, .int .i64 a0_3]) (t := 32) ?hr ?_; (case hd => rfl); (case hg => rfl); (case hr => first | (go_simp; done) | (go_simp; rfl)); intro gb221 hg w24 hbox hb; have n0_ := Aside0.mk (below_step (by repeat (first | (with_reducible first | exact HB.out | apply below_alloc | apply pw_below_drewN | apply below_drew1) | exact HB.out)) hb); have n1_ := Aside0.mk (hbox); have n2_ := Aside0.mk ((by rw [hg]; exact (below_size (by repeat (first | (with_reducible first | exact HB.out | apply below_alloc | apply pw_below_drewN | apply below_drew1) | exact HB.out))) : w.heap.size ≤ gb221)); have n3_ := Aside0.mk ((by rw [hg]; exact (below_size (by repeat (first | (with_reducible first | exact HB.out | apply below_alloc | apply pw_below_drewN | apply below_drew1) | exact HB.out))) : w.heap.size ≤ gb221)); clear HB; have HB := n0_; have BK221 := n1_; have GW221 := n2_; have GE221 := n3_; clear n0_ n1_ n2_ n3_; clear hb hbox hg) | ((with_reducible refine gate_dst (N := 3) rfl ?_); refine box_event ?hg (N := 3) ?hd (cs := #[.string a1_0, .slice A1_1 l1_1.length c1_1, .int .i64 a1_2, .int .i64 a1_3]) (t := 32) ?hr ?_; (case hd => rfl); (case hg => rfl); (case hr => first | (go_simp; done) | (go_simp; rfl)); intro gb222 hg w25 hbox hb; have n0_ := Aside0.mk (blk_below (g := gb221) (o := .cells #[.string a0_0, .slice A0_1 l0_1.length c0_1, .int .i64 a0_2, .int .i64 a0_3] 32 (0, 0)) (by (with_reducible repeat (first | refine blk_drewN ?_ _ | refine blk_drew ?_ | refine blk_alloc ?_ _)); exact BK221.out) hb); have n1_ := Aside0.mk (below_step (by repeat (first | (with_reducible first | exact HB.out | apply below_alloc | apply pw_below_drewN | apply below_drew1 | refine below_set ?_ GE221.out) | exact HB.out)) hb); have n2_ := Aside0.mk (hbox); have n3_ := Aside0.mk ((by rw [hg]; exact (below_size (by repeat (first | (with_reducible first | exact HB.out | apply below_alloc | apply pw_below_drewN | apply below_drew1 | refine below_set ?_ GE221.out) | exact HB.out))) : w.heap.size ≤ gb222)); have n4_ := Aside0.mk ((by rw [hg]; exact (below_size (by repeat (first | (with_reducible first | exact HB.out | apply below_alloc | apply pw_below_drewN | apply below_drew1 | refine below_set ?_ GE221.out) | exact HB.out))) : w.heap.size ≤ gb222)); have n5_ := Aside0.mk ((by rw [hg]; exact Nat.ne_of_lt (blk_lt (g := gb221) (o := .cells #[.string a0_0, .slice A0_1 l0_1.length c0_1, .int .i64 a0_2, .int .i64 a0_3] 32 (0, 0)) (by (with_reducible repeat (first | refine blk_drewN ?_ _ | refine blk_drew ?_ | refine blk_alloc ?_ _)); exact BK221.out)) : gb221 ≠ gb222)); have n6_ := Aside0.mk ((by rw [hg]; exact Nat.ne_of_gt (blk_lt (g := gb221) (o := .cells #[.string a0_0, .slice A0_1 l0_1.length c0_1, .int .i64 a0_2, .int .i64 a0_3] 32 (0, 0)) (by (with_reducible repeat (first | refine blk_drewN ?_ _ | refine blk_drew ?_ | refine blk_alloc ?_ _)); exact BK221.out)) : gb222 ≠ gb221)); clear BK221; clear HB; have BK221 := n0_; have HB := n1_; have BK222 := n2_; have GW222 := n3_; have GE222 := n4_; have NB221_222 := n5_; have NB222_221 := n6_; clear n0_ n1_ n2_ n3_ n4_ n5_ n6_; clear hb hbox hg; have hnb26 := NB221_222.out; have hnc26 := NB222_221.out; have hcz27_0 : w25.cell? ⟨gb221, 0, none⟩ = some (.string a0_0) := (blk_cell BK221.out 0).trans rfl; have hcz27_1 : w25.cell? ⟨gb221, 1, none⟩ = some (.slice A0_1 l0_1.length c0_1) := (blk_cell BK221.out 1).trans rfl; have hcz27_2 : w25.cell? ⟨gb221, 2, none⟩ = some (.int .i64 a0_2) := (blk_cell BK221.out 2).trans rfl; have hcz27_3 : w25.cell? ⟨gb221, 3, none⟩ = some (.int .i64 a0_3) := (blk_cell BK221.out 3).trans rfl; have hfz27_0 := blk_frozen BK221.out 0; have hfz27_1 := blk_frozen BK221.out 1; have hfz27_2 := blk_frozen BK221.out 2; have hfz27_3 := blk_frozen BK221.out 3; have hcz28_0 : w25.cell? ⟨gb222, 0, none⟩ = some (.string a1_0) := (blk_cell BK222.out 0).trans rfl; have hcz28_1 : w25.cell? ⟨gb222, 1, none⟩ = some (.slice A1_1 l1_1.length c1_1) := (blk_cell BK222.out 1).trans rfl; have hcz28_2 : w25.cell? ⟨gb222, 2, none⟩ = some (.int .i64 a1_2) := (blk_cell BK222.out 2).trans rfl; have hcz28_3 : w25.cell? ⟨gb222, 3, none⟩ = some (.int .i64 a1_3) := (blk_cell BK222.out 3).trans rfl; have hfz28_0 := blk_frozen BK222.out 0; have hfz28_1 := blk_frozen BK222.out 1; have hfz28_2 := blk_frozen BK222.out 2; have hfz28_3 := blk_frozen BK222.out 3) | ((with_reducible refine gate_callee (f := 26) rfl ?_); refine goesL_ (some 14) rfl rfl Try.func26 (by kernel_rfl) rfl #[.slice A0_1 l0_1.length c0_1, .slice A1_1 l1_1.length c1_1] rfl (by (try simp only [List.map_toArray, List.map_cons, List.map_nil]); first | done | rfl | (simp only [List.length_drop, List.length_take]; rfl)) ?_; (with_reducible refine (laws_eqTermS.calls k _ _ l0_1 _ _ l1_1 true _ ?side1 ?side2 ?side3 ?side4 A4.out).mono ?_); (case side1 => repeat (first | exact (Kd.C_below HR0_1.out HB.out) | (with_reducible refine Kd.C_alloc ?_ _) | (with_reducible refine Kd.C_drewN ?_ _) | (with_reducible refine Kd.C_drew ?_))); (case side2 => exact HC0_1.out); (case side3 => repeat (first | exact (Kd.C_below HR1_1.out HB.out) | (with_reducible refine Kd.C_alloc ?_ _) | (with_reducible refine Kd.C_drewN ?_ _) | (with_reducible refine Kd.C_drew ?_))); (case side4 => exact HC1_1.out); rintro e w29 ⟨rfl, hb⟩; refine ⟨_, rfl, ?_⟩; have n0_ := Aside0.mk (blk_below (g := gb221) (o := .cells #[.string a0_0, .slice A0_1 l0_1.length c0_1, .int .i64 a0_2, .int .i64 a0_3] 32 (0, 0)) (by (with_reducible repeat (first | refine blk_drewN ?_ _ | refine blk_drew ?_ | refine blk_alloc ?_ _)); exact BK221.out) hb); have n1_ := Aside0.mk (blk_below (g := gb222) (o := .cells #[.string a1_0, .slice A1_1 l1_1.length c1_1, .int .i64 a1_2, .int .i64 a1_3] 32 (0, 0)) (by (with_reducible repeat (first | refine blk_drewN ?_ _ | refine blk_drew ?_ | refine blk_alloc ?_ _)); exact BK222.out) hb); have n2_ := Aside0.mk (below_step (by repeat (first | (with_reducible first | exact HB.out | apply below_alloc | apply pw_below_drewN | apply below_drew1 | refine below_set ?_ GE221.out | refine below_set ?_ GE222.out) | exact HB.out)) hb); clear BK221; clear BK222; clear HB; have BK221 := n0_; have BK222 := n1_; have HB := n2_; clear n0_ n1_ n2_; (try clear hb); (try clear hb2); (try clear hk); (try clear hi); have hcz30_0 : w29.cell? ⟨gb221, 0, none⟩ = some (.string a0_0) := (blk_cell BK221.out 0).trans rfl; have hcz30_1 : w29.cell? ⟨gb221, 1, none⟩ = some (.slice A0_1 l0_1.length c0_1) := (blk_cell BK221.out 1).trans rfl; have hcz30_2 : w29.cell? ⟨gb221, 2, none⟩ = some (.int .i64 a0_2) := (blk_cell BK221.out 2).trans rfl; have hcz30_3 : w29.cell? ⟨gb221, 3, none⟩ = some (.int .i64 a0_3) := (blk_cell BK221.out 3).trans rfl; have hfz30_0 := blk_frozen BK221.out 0; have hfz30_1 := blk_frozen BK221.out 1; have hfz30_2 := blk_frozen BK221.out 2; have hfz30_3 := blk_frozen BK221.out 3; have hcz31_0 : w29.cell? ⟨gb222, 0, none⟩ = some (.string a1_0) := (blk_cell BK222.out 0).trans rfl; have hcz31_1 : w29.cell? ⟨gb222, 1, none⟩ = some (.slice A1_1 l1_1.length c1_1) := (blk_cell BK222.out 1).trans rfl; have hcz31_2 : w29.cell? ⟨gb222, 2, none⟩ = some (.int .i64 a1_2) := (blk_cell BK222.out 2).trans rfl; have hcz31_3 : w29.cell? ⟨gb222, 3, none⟩ = some (.int .i64 a1_3) := (blk_cell BK222.out 3).trans rfl; have hfz31_0 := blk_frozen BK222.out 0; have hfz31_1 := blk_frozen BK222.out 1; have hfz31_2 := blk_frozen BK222.out 2; have hfz31_3 := blk_frozen BK222.out 3))
    go_ret
    exact ⟨by first | rfl | (simp [errW_none, errW_some] <;> rfl) | (simp [*, errW_none, errW_some] <;> rfl), by repeat (first | (with_reducible first | exact HB.out | apply below_alloc | apply pw_below_drewN | apply below_drew1 | refine below_set ?_ GE221.out | refine below_set ?_ GE222.out) | exact HB.out)⟩
  ·replace c5 := Bool.eq_false_iff.mpr c5
   subst c5
   have H1 : (some false) = some r := by rw [if_neg (show ¬ (false = true) by decide)] at H; exact H
   clear H
   have H := H1
   clear H1
   obtain rfl := Option.some.inj H
   go_enter Try.func10, Try.ntmps10
   go_wp2_with (first | ((with_reducible refine gate_dst (N := 2) rfl ?_); refine box_event ?hg (N := 2) ?hd (cs := #[.string a0_0, .slice A0_1 l0_1.length c0_1, .int .i64 a0_2, .int .i64 a0_3]) (t := 32) ?hr ?_; (case hd => rfl); (case hg => rfl); (case hr => first | (go_simp; done) | (go_simp; rfl)); intro gb221 hg w32 hbox hb; have n0_ := Aside0.mk (below_step (by repeat (first | (with_reducible first | exact HB.out | apply below_alloc | apply pw_below_drewN | apply below_drew1) | exact HB.out)) hb); have n1_ := Aside0.mk (hbox); have n2_ := Aside0.mk ((by rw [hg]; exact (below_size (by repeat (first | (with_reducible first | exact HB.out | apply below_alloc | apply pw_below_drewN | apply below_drew1) | exact HB.out))) : w.heap.size ≤ gb221)); have n3_ := Aside0.mk ((by rw [hg]; exact (below_size (by repeat (first | (with_reducible first | exact HB.out | apply below_alloc | apply pw_below_drewN | apply below_drew1) | exact HB.out))) : w.heap.size ≤ gb221)); clear HB; have HB := n0_; have BK221 := n1_; have GW221 := n2_; have GE221 := n3_; clear n0_ n1_ n2_ n3_; clear hb hbox hg) | ((with_reducible refine gate_dst (N := 3) rfl ?_); refine box_event ?hg (N := 3) ?hd (cs := #[.string a1_0, .slice A1_1 l1_1.length c1_1, .int .i64 a1_2, .int .i64 a1_3]) (t := 32) ?hr ?_; (case hd => rfl); (case hg => rfl); (case hr => first | (go_simp; done) | (go_simp; rfl)); intro gb222 hg w33 hbox hb; have n0_ := Aside0.mk (blk_below (g := gb221) (o := .cells #[.string a0_0, .slice A0_1 l0_1.length c0_1, .int .i64 a0_2, .int .i64 a0_3] 32 (0, 0)) (by (with_reducible repeat (first | refine blk_drewN ?_ _ | refine blk_drew ?_ | refine blk_alloc ?_ _)); exact BK221.out) hb); have n1_ := Aside0.mk (below_step (by repeat (first | (with_reducible first | exact HB.out | apply below_alloc | apply pw_below_drewN | apply below_drew1 | refine below_set ?_ GE221.out) | exact HB.out)) hb); have n2_ := Aside0.mk (hbox); have n3_ := Aside0.mk ((by rw [hg]; exact (below_size (by repeat (first | (with_reducible first | exact HB.out | apply below_alloc | apply pw_below_drewN | apply below_drew1 | refine below_set ?_ GE221.out) | exact HB.out))) : w.heap.size ≤ gb222)); have n4_ := Aside0.mk ((by rw [hg]; exact (below_size (by repeat (first | (with_reducible first | exact HB.out | apply below_alloc | apply pw_below_drewN | apply below_drew1 | refine below_set ?_ GE221.out) | exact HB.out))) : w.heap.size ≤ gb222)); have n5_ := Aside0.mk ((by rw [hg]; exact Nat.ne_of_lt (blk_lt (g := gb221) (o := .cells #[.string a0_0, .slice A0_1 l0_1.length c0_1, .int .i64 a0_2, .int .i64 a0_3] 32 (0, 0)) (by (with_reducible repeat (first | refine blk_drewN ?_ _ | refine blk_drew ?_ | refine blk_alloc ?_ _)); exact BK221.out)) : gb221 ≠ gb222)); have n6_ := Aside0.mk ((by rw [hg]; exact Nat.ne_of_gt (blk_lt (g := gb221) (o := .cells #[.string a0_0, .slice A0_1 l0_1.length c0_1, .int .i64 a0_2, .int .i64 a0_3] 32 (0, 0)) (by (with_reducible repeat (first | refine blk_drewN ?_ _ | refine blk_drew ?_ | refine blk_alloc ?_ _)); exact BK221.out)) : gb222 ≠ gb221)); clear BK221; clear HB; have BK221 := n0_; have HB := n1_; have BK222 := n2_; have GW222 := n3_; have GE222 := n4_; have NB221_222 := n5_; have NB222_221 := n6_; clear n0_ n1_ n2_ n3_ n4_ n5_ n6_; clear hb hbox hg; have hnb34 := NB221_222.out; have hnc34 := NB222_221.out; have hcz35_0 : w33.cell? ⟨gb221, 0, none⟩ = some (.string a0_0) := (blk_cell BK221.out 0).trans rfl; have hcz35_1 : w33.cell? ⟨gb221, 1, none⟩ = some (.slice A0_1 l0_1.length c0_1) := (blk_cell BK221.out 1).trans rfl; have hcz35_2 : w33.cell? ⟨gb221, 2, none⟩ = some (.int .i64 a0_2) := (blk_cell BK221.out 2).trans rfl; have hcz35_3 : w33.cell? ⟨gb221, 3, none⟩ = some (.int .i64 a0_3) := (blk_cell BK221.out 3).trans rfl; have hfz35_0 := blk_frozen BK221.out 0; have hfz35_1 := blk_frozen BK221.out 1; have hfz35_2 := blk_frozen BK221.out 2; have hfz35_3 := blk_frozen BK221.out 3; have hcz36_0 : w33.cell? ⟨gb222, 0, none⟩ = some (.string a1_0) := (blk_cell BK222.out 0).trans rfl; have hcz36_1 : w33.cell? ⟨gb222, 1, none⟩ = some (.slice A1_1 l1_1.length c1_1) := (blk_cell BK222.out 1).trans rfl; have hcz36_2 : w33.cell? ⟨gb222, 2, none⟩ = some (.int .i64 a1_2) := (blk_cell BK222.out 2).trans rfl; have hcz36_3 : w33.cell? ⟨gb222, 3, none⟩ = some (.int .i64 a1_3) := (blk_cell BK222.out 3).trans rfl; have hfz36_0 := blk_frozen BK222.out 0; have hfz36_1 := blk_frozen BK222.out 1; have hfz36_2 := blk_frozen BK222.out 2; have hfz36_3 := blk_frozen BK222.out 3) | ((with_reducible refine gate_callee (f := 26) rfl ?_); refine goesL_ (some 14) rfl rfl Try.func26 (by kernel_rfl) rfl #[.slice A0_1 l0_1.length c0_1, .slice A1_1 l1_1.length c1_1] rfl (by (try simp only [List.map_toArray, List.map_cons, List.map_nil]); first | done | rfl | (simp only [List.length_drop, List.length_take]; rfl)) ?_; (with_reducible refine (laws_eqTermS.calls k _ _ l0_1 _ _ l1_1 false _ ?side1 ?side2 ?side3 ?side4 A4.out).mono ?_); (case side1 => repeat (first | exact (Kd.C_below HR0_1.out HB.out) | (with_reducible refine Kd.C_alloc ?_ _) | (with_reducible refine Kd.C_drewN ?_ _) | (with_reducible refine Kd.C_drew ?_))); (case side2 => exact HC0_1.out); (case side3 => repeat (first | exact (Kd.C_below HR1_1.out HB.out) | (with_reducible refine Kd.C_alloc ?_ _) | (with_reducible refine Kd.C_drewN ?_ _) | (with_reducible refine Kd.C_drew ?_))); (case side4 => exact HC1_1.out); rintro e w37 ⟨rfl, hb⟩; refine ⟨_, rfl, ?_⟩; have n0_ := Aside0.mk (blk_below (g := gb221) (o := .cells #[.string a0_0, .slice A0_1 l0_1.length c0_1, .int .i64 a0_2, .int .i64 a0_3] 32 (0, 0)) (by (with_reducible repeat (first | refine blk_drewN ?_ _ | refine blk_drew ?_ | refine blk_alloc ?_ _)); exact BK221.out) hb); have n1_ := Aside0.mk (blk_below (g := gb222) (o := .cells #[.string a1_0, .slice A1_1 l1_1.length c1_1, .int .i64 a1_2, .int .i64 a1_3] 32 (0, 0)) (by (with_reducible repeat (first | refine blk_drewN ?_ _ | refine blk_drew ?_ | refine blk_alloc ?_ _)); exact BK222.out) hb); have n2_ := Aside0.mk (below_step (by repeat (first | (with_reducible first | exact HB.out | apply below_alloc | apply pw_below_drewN | apply below_drew1 | refine below_set ?_ GE221.out | refine below_set ?_ GE222.out) | exact HB.out)) hb); clear BK221; clear BK222; clear HB; have BK221 := n0_; have BK222 := n1_; have HB := n2_; clear n0_ n1_ n2_; (try clear hb); (try clear hb2); (try clear hk); (try clear hi)))
   go_ret
   exact ⟨by first | rfl | (simp [errW_none, errW_some] <;> rfl) | (simp [*, errW_none, errW_some] <;> rfl), by repeat (first | (with_reducible first | exact HB.out | apply below_alloc | apply pw_below_drewN | apply below_drew1 | refine below_set ?_ GE221.out | refine below_set ?_ GE222.out) | exact HB.out)⟩
 ·rw [if_neg c3] at H
  have c3b0 : (a0_0.toList == a1_0.toList) = false := beq_eq_false_iff_ne.mpr c3
  have c3b1 : (a0_0.toList != a1_0.toList) = true := bne_iff_ne.mpr c3
  obtain rfl := Option.some.inj H
  go_enter Try.func10, Try.ntmps10
  go_wp2_with (first | ((with_reducible refine gate_dst (N := 2) rfl ?_); refine box_event ?hg (N := 2) ?hd (cs := #[.string a0_0, .slice A0_1 l0_1.length c0_1, .int .i64 a0_2, .int .i64 a0_3]) (t := 32) ?hr ?_; (case hd => rfl); (case hg => rfl); (case hr => first | (go_simp; done) | (go_simp; rfl)); intro gb221 hg w38 hbox hb; have n0_ := Aside0.mk (below_step (by repeat (first | (with_reducible first | exact HB.out | apply below_alloc | apply pw_below_drewN | apply below_drew1) | exact HB.out)) hb); have n1_ := Aside0.mk (hbox); have n2_ := Aside0.mk ((by rw [hg]; exact (below_size (by repeat (first | (with_reducible first | exact HB.out | apply below_alloc | apply pw_below_drewN | apply below_drew1) | exact HB.out))) : w.heap.size ≤ gb221)); have n3_ := Aside0.mk ((by rw [hg]; exact (below_size (by repeat (first | (with_reducible first | exact HB.out | apply below_alloc | apply pw_below_drewN | apply below_drew1) | exact HB.out))) : w.heap.size ≤ gb221)); clear HB; have HB := n0_; have BK221 := n1_; have GW221 := n2_; have GE221 := n3_; clear n0_ n1_ n2_ n3_; clear hb hbox hg) | ((with_reducible refine gate_dst (N := 3) rfl ?_); refine box_event ?hg (N := 3) ?hd (cs := #[.string a1_0, .slice A1_1 l1_1.length c1_1, .int .i64 a1_2, .int .i64 a1_3]) (t := 32) ?hr ?_; (case hd => rfl); (case hg => rfl); (case hr => first | (go_simp; done) | (go_simp; rfl)); intro gb222 hg w39 hbox hb; have n0_ := Aside0.mk (blk_below (g := gb221) (o := .cells #[.string a0_0, .slice A0_1 l0_1.length c0_1, .int .i64 a0_2, .int .i64 a0_3] 32 (0, 0)) (by (with_reducible repeat (first | refine blk_drewN ?_ _ | refine blk_drew ?_ | refine blk_alloc ?_ _)); exact BK221.out) hb); have n1_ := Aside0.mk (below_step (by repeat (first | (with_reducible first | exact HB.out | apply below_alloc | apply pw_below_drewN | apply below_drew1 | refine below_set ?_ GE221.out) | exact HB.out)) hb); have n2_ := Aside0.mk (hbox); have n3_ := Aside0.mk ((by rw [hg]; exact (below_size (by repeat (first | (with_reducible first | exact HB.out | apply below_alloc | apply pw_below_drewN | apply below_drew1 | refine below_set ?_ GE221.out) | exact HB.out))) : w.heap.size ≤ gb222)); have n4_ := Aside0.mk ((by rw [hg]; exact (below_size (by repeat (first | (with_reducible first | exact HB.out | apply below_alloc | apply pw_below_drewN | apply below_drew1 | refine below_set ?_ GE221.out) | exact HB.out))) : w.heap.size ≤ gb222)); have n5_ := Aside0.mk ((by rw [hg]; exact Nat.ne_of_lt (blk_lt (g := gb221) (o := .cells #[.string a0_0, .slice A0_1 l0_1.length c0_1, .int .i64 a0_2, .int .i64 a0_3] 32 (0, 0)) (by (with_reducible repeat (first | refine blk_drewN ?_ _ | refine blk_drew ?_ | refine blk_alloc ?_ _)); exact BK221.out)) : gb221 ≠ gb222)); have n6_ := Aside0.mk ((by rw [hg]; exact Nat.ne_of_gt (blk_lt (g := gb221) (o := .cells #[.string a0_0, .slice A0_1 l0_1.length c0_1, .int .i64 a0_2, .int .i64 a0_3] 32 (0, 0)) (by (with_reducible repeat (first | refine blk_drewN ?_ _ | refine blk_drew ?_ | refine blk_alloc ?_ _)); exact BK221.out)) : gb222 ≠ gb221)); clear BK221; clear HB; have BK221 := n0_; have HB := n1_; have BK222 := n2_; have GW222 := n3_; have GE222 := n4_; have NB221_222 := n5_; have NB222_221 := n6_; clear n0_ n1_ n2_ n3_ n4_ n5_ n6_; clear hb hbox hg; have hnb40 := NB221_222.out; have hnc40 := NB222_221.out; have hcz41_0 : w39.cell? ⟨gb221, 0, none⟩ = some (.string a0_0) := (blk_cell BK221.out 0).trans rfl; have hcz41_1 : w39.cell? ⟨gb221, 1, none⟩ = some (.slice A0_1 l0_1.length c0_1) := (blk_cell BK221.out 1).trans rfl; have hcz41_2 : w39.cell? ⟨gb221, 2, none⟩ = some (.int .i64 a0_2) := (blk_cell BK221.out 2).trans rfl; have hcz41_3 : w39.cell? ⟨gb221, 3, none⟩ = some (.int .i64 a0_3) := (blk_cell BK221.out 3).trans rfl; have hfz41_0 := blk_frozen BK221.out 0; have hfz41_1 := blk_frozen BK221.out 1; have hfz41_2 := blk_frozen BK221.out 2; have hfz41_3 := blk_frozen BK221.out 3; have hcz42_0 : w39.cell? ⟨gb222, 0, none⟩ = some (.string a1_0) := (blk_cell BK222.out 0).trans rfl; have hcz42_1 : w39.cell? ⟨gb222, 1, none⟩ = some (.slice A1_1 l1_1.length c1_1) := (blk_cell BK222.out 1).trans rfl; have hcz42_2 : w39.cell? ⟨gb222, 2, none⟩ = some (.int .i64 a1_2) := (blk_cell BK222.out 2).trans rfl; have hcz42_3 : w39.cell? ⟨gb222, 3, none⟩ = some (.int .i64 a1_3) := (blk_cell BK222.out 3).trans rfl; have hfz42_0 := blk_frozen BK222.out 0; have hfz42_1 := blk_frozen BK222.out 1; have hfz42_2 := blk_frozen BK222.out 2; have hfz42_3 := blk_frozen BK222.out 3))
  go_ret
  exact ⟨by first | rfl | (simp [errW_none, errW_some] <;> rfl) | (simp [*, errW_none, errW_some] <;> rfl), by repeat (first | (with_reducible first | exact HB.out | apply below_alloc | apply pw_below_drewN | apply below_drew1 | refine below_set ?_ GE221.out | refine below_set ?_ GE222.out) | exact HB.out)⟩

end Go.Proofs.Ytineooifellnnaa.PAll
