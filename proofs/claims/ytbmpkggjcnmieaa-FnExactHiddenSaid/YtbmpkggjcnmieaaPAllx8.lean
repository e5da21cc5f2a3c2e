-- Written by wip/tools/hp.py over the kit's print (not by hand): functions and walks of All.
import Derived.Test.YtbmpkggjcnmieaaPAllx0
import Derived.Test.YtbmpkggjcnmieaaPAllx1
import Derived.Test.YtbmpkggjcnmieaaPAllx3
import Derived.Test.YtbmpkggjcnmieaaPAllx7
namespace Go.Proofs.Ytbmpkggjcnmieaa.PAll
open Go.RowKit Go.Proofs.YtbmpkggjcnmieaaW.PrintWords Go.Proofs.YtbmpkggjcnmieaaW.PrintLast Go.Proofs.YtbmpkggjcnmieaaW.PrintMore
attribute [local go_sem] max2_int min2_int max_two min_two max_three min_three max_four min_four   -- for this text's walks alone
set_option linter.unusedVariables false
set_option linter.unusedSimpArgs false

/-! ### laws_markClauseS: function 11, by hand: the rows inside the elements are written, too -/
theorem mc_elem {W : World} {base g n cap : Nat} {P : Nat → Prop} {l : List S37} (h : Kd.S k37 37 W base P (.slice (some ⟨g, 0, none⟩) n cap) l) (i : Int) (h0 : 0 ≤ i) (h1 : i < n) :
  ∃ v1 oki, Kd.R k47 47 W base oki v1 ((l.getD i.toNat z37).f1) ∧ Kd.H k37 37 W base P (.slice (some ⟨g, 0, none⟩) n cap) l i oki [.string (l.getD i.toNat z37).f0, v1, .int .i64 (l.getD i.toNat z37).f2, .int .i64 (l.getD i.toNat z37).f3] ∧
   (∀ k, oki k → P k ∧ k ≠ g) ∧
   W.cell? ⟨g, i.toNat * 4, none⟩ = some (.string (l.getD i.toNat z37).f0) ∧ W.cell? ⟨g, i.toNat * 4 + 1, none⟩ = some v1 ∧ W.cell? ⟨g, i.toNat * 4 + 2, none⟩ = some (.int .i64 (l.getD i.toNat z37).f2) ∧ W.cell? ⟨g, i.toNat * 4 + 3, none⟩ = some (.int .i64 (l.getD i.toNat z37).f3) ∧
   (∀ j, W.frozen? ⟨g, i.toNat * 4 + j, none⟩ = false) := by
 obtain ⟨oki, c, hcl, hM, hcc, hfr, hoki, hH⟩ := Kd.S_elem h z37 i h0 h1; obtain ⟨v1, rfl, ge⟩ := k37_openM hM; exact ⟨v1, oki, ge, hH, hoki, hcc 0 _ rfl, hcc 1 _ rfl, hcc 2 _ rfl, hcc 3 _ rfl, hfr⟩
theorem mc_put {W : World} {base g n cap : Nat} {P : Nat → Prop} {l : List S37} (h : Kd.S k37 37 W base P (.slice (some ⟨g, 0, none⟩) n cap) l) (i : Int) (h0 : 0 ≤ i) (h1 : i < n) (j : Nat) (u : Value) (x' : S37)
  (hx : j = 0 ∧ (∃ t, u = .string t ∧ x' = ⟨t, (l.getD i.toNat z37).f1, (l.getD i.toNat z37).f2, (l.getD i.toNat z37).f3⟩) ∨ j = 2 ∧ (∃ t, u = .int .i64 t ∧ x' = ⟨(l.getD i.toNat z37).f0, (l.getD i.toNat z37).f1, t, (l.getD i.toNat z37).f3⟩) ∨ j = 3 ∧ (∃ t, u = .int .i64 t ∧ x' = ⟨(l.getD i.toNat z37).f0, (l.getD i.toNat z37).f1, (l.getD i.toNat z37).f2, t⟩)) :
  Kd.S k37 37 (W.setCell ⟨g, i.toNat * 4 + j, none⟩ u) base P (.slice (some ⟨g, 0, none⟩) n cap) (l.set i.toNat x') ∧ W.grownBy (W.setCell ⟨g, i.toNat * 4 + j, none⟩ u) (some g) := by
 obtain ⟨v1, oki, ge, hH, hoki, _⟩ := mc_elem h i h0 h1; have hH' : Kd.H k37 37 W base (fun k => P k ∧ ¬ (fun _ : Nat => False) k) (.slice (some ⟨g, 0, none⟩) n cap) l i oki _ := Kd.H_mono hH (fun k hk => ⟨hk, fun h => h⟩)
 rcases hx with ⟨rfl, t, rfl, rfl⟩ | ⟨rfl, t, rfl, rfl⟩ | ⟨rfl, t, rfl, rfl⟩
 ·exact Kd.S_seg hH' h0 h1 (seg := [.string t]) (j := 0) (show 1 ≤ 4 by decide) (x' := ⟨t, _, _, _⟩) (k37_mkM W base oki ⟨t, (l.getD i.toNat z37).f1, (l.getD i.toNat z37).f2, (l.getD i.toNat z37).f3⟩ ge) (fun _ hk => .inl hk) (fun _ hk => hk.elim)
 ·exact Kd.S_seg hH' h0 h1 (seg := [.int .i64 t]) (j := 2) (show 3 ≤ 4 by decide) (x' := ⟨_, _, t, _⟩) (k37_mkM W base oki ⟨(l.getD i.toNat z37).f0, (l.getD i.toNat z37).f1, t, (l.getD i.toNat z37).f3⟩ ge) (fun _ hk => .inl hk) (fun _ hk => hk.elim)
 ·exact Kd.S_seg hH' h0 h1 (seg := [.int .i64 t]) (j := 3) (show 4 ≤ 4 by decide) (x' := ⟨_, _, _, t⟩) (k37_mkM W base oki ⟨(l.getD i.toNat z37).f0, (l.getD i.toNat z37).f1, (l.getD i.toNat z37).f2, t⟩ ge) (fun _ hk => .inl hk) (fun _ hk => hk.elim)
/-- What an element leads to has been written: the element put back. -/
theorem mc_back {W W1 : World} {base g n cap : Nat} {P oki : Nat → Prop} {l : List S37} {i : Int} {v1 : Value} {r ys : List S47}
  (hg : Kd.R k47 47 W base oki v1 ys) (hH : Kd.H k37 37 W base P (.slice (some ⟨g, 0, none⟩) n cap) l i oki [.string (l.getD i.toNat z37).f0, v1, .int .i64 (l.getD i.toNat z37).f2, .int .i64 (l.getD i.toNat z37).f3])
  {ok1 : Nat → Prop} (hy : Kd.R k47 47 W1 base ok1 v1 r) (hk : Kept W W1 (fun k_ => some k_ = v1.ownBlock)) :
  Kd.S k37 37 W1 base P (.slice (some ⟨g, 0, none⟩) n cap) (l.set i.toNat ⟨(l.getD i.toNat z37).f0, r, (l.getD i.toNat z37).f2, (l.getD i.toNat z37).f3⟩) := by
 refine Kd.H_back (okp := oki) (Kd.H_step hH (fun k _ hn hlt => hk.2 k hlt (fun e => hn (hg.1 k e.symm)))) (k37_mkM W1 base oki ⟨(l.getD i.toNat z37).f0, r, (l.getD i.toNat z37).f2, (l.getD i.toNat z37).f3⟩ (Kd.R_reok rfl hy (fun k e => hg.1 k e))) (fun _ h => h)
theorem mc_kept {w W W1 : World} {v v1 : Value} {e1 : TypeId} (h : Kept w W (fun k_ => some k_ = v.ownBlock ∨ ∃ cells, w.heap[k_]? = some (.cells cells e1 (0, 0)))) (hk : Kept W W1 (fun k_ => some k_ = v1.ownBlock)) (ht : ∀ k, v1.ownBlock = some k → ∃ cells, W.heap[k]? = some (.cells cells e1 (0, 0))) :
  Kept w W1 (fun k_ => some k_ = v.ownBlock ∨ ∃ cells, w.heap[k_]? = some (.cells cells e1 (0, 0))) := by
 refine ⟨Nat.le_trans h.1 hk.1, fun k hlt hn => ?_⟩; have e := h.2 k hlt hn
 rw [hk.2 k (Nat.lt_of_lt_of_le hlt h.1) (fun he => hn (.inr (by
  obtain ⟨cells, hc⟩ := ht k he.symm
  exact ⟨cells, by rw [← e]; exact hc⟩))), e]
theorem mc_grown {w W W1 : World} {g n cap : Nat} {S : Nat → Prop} (h : Kept w W (fun k_ => some k_ = (Value.slice (some ⟨g, 0, none⟩) n cap).ownBlock ∨ S k_)) (hg : W.grownBy W1 (some g)) : Kept w W1 (fun k_ => some k_ = (Value.slice (some ⟨g, 0, none⟩) n cap).ownBlock ∨ S k_) :=
 Kept.of_grown hg h (fun k_ e_ => by rw [← e_]; exact Or.inl (by simp [Value.ownBlock]))
theorem mc_map {l : List S37} {i : Nat} (h : i < l.length) (x' : S37) (hx : x'.f1 = (l.getD i z37).f1) : (l.set i x').map (·.f1) = l.map (·.f1) := by
 rw [List.map_set, hx, List.getD_eq_getElem?_getD, List.getElem?_eq_getElem h]; show (l.map (·.f1)).set i l[i].f1 = l.map (·.f1)
 have : l[i].f1 = (l.map (·.f1))[i]'(by simpa using h) := by simp
 rw [this, List.set_getElem_self]
theorem mc_drop {l : List S37} {i : Nat} (x' : S37) : ((l.set i x').map (·.f1)).drop (i + 1) = (l.map (·.f1)).drop (i + 1) := by
 rw [List.map_set, List.drop_set_of_lt (by omega)]
theorem mc_get {l : List S37} {i : Nat} (h : i < l.length) (x : S37) : (l.set i x).getD i z37 = x := by
 rw [List.getD_eq_getElem?_getD, List.getElem?_set_self h]; rfl
theorem mc_put1 {W : World} {base g n cap : Nat} {P : Nat → Prop} {l : List S37} (h : Kd.S k37 37 W base P (.slice (some ⟨g, 0, none⟩) n cap) l) (i : Int) (h0 : 0 ≤ i) (h1 : i < n) (hl : i.toNat < l.length) (j : Nat) (u : Value)
  (hx : j = 0 ∧ (∃ t, u = .string t) ∨ j = 2 ∧ (∃ t, u = .int .i64 t) ∨ j = 3 ∧ (∃ t, u = .int .i64 t)) :
  ∃ l' : List S37, l'.length = l.length ∧ (l'.getD i.toNat z37).f1 = (l.getD i.toNat z37).f1 ∧ (l'.map (·.f1)).drop (i.toNat + 1) = (l.map (·.f1)).drop (i.toNat + 1) ∧
   Kd.S k37 37 (W.setCell ⟨g, i.toNat * 4 + j, none⟩ u) base P (.slice (some ⟨g, 0, none⟩) n cap) l' ∧ W.grownBy (W.setCell ⟨g, i.toNat * 4 + j, none⟩ u) (some g) := by
 rcases hx with ⟨rfl, t, rfl⟩ | ⟨rfl, t, rfl⟩ | ⟨rfl, t, rfl⟩
 ·exact ⟨_, by rw [List.length_set], by rw [mc_get hl], mc_drop _, mc_put h i h0 h1 0 _ _ (.inl ⟨rfl, t, rfl, rfl⟩)⟩
 ·exact ⟨_, by rw [List.length_set], by rw [mc_get hl], mc_drop _, mc_put h i h0 h1 2 _ _ (.inr (.inl ⟨rfl, t, rfl, rfl⟩))⟩
 ·exact ⟨_, by rw [List.length_set], by rw [mc_get hl], mc_drop _, mc_put h i h0 h1 3 _ _ (.inr (.inr ⟨rfl, t, rfl, rfl⟩))⟩
def laws_markClauseS.go (k : Nat) : List (List S47) → Int → Option Int
 | [], a => some a
 | x :: xs, a => (laws_markText.f k a).bind fun _ => (laws_markTermS.f k x (wrap64 (a + 1))).bind fun t => laws_markClauseS.go k xs (wrap64 (wrap64 (t.1 + 1) + 1))
def laws_markClauseS.f (k : Nat) (l0 : List S37) (a1 : Int) : Option Int := laws_markClauseS.go k (l0.map (·.f1)) a1
theorem laws_markClauseS.mono_g (k : Nat) : ∀ l a, LeO (laws_markClauseS.go k l a) (laws_markClauseS.go (k + 1) l a)
 | [], a => LeO.refl _
 | x :: xs, a => LeO.bind (laws_markText.mono _ k) (fun _ => LeO.bind (laws_markTermS.mono _ _ k) (fun t => laws_markClauseS.mono_g k xs _))
theorem laws_markClauseS.mono : ∀ a0 a1 k, LeO (laws_markClauseS.f k a0 a1) (laws_markClauseS.f (k + 1) a0 a1) := fun a0 a1 k => laws_markClauseS.mono_g k _ a1
set_option maxHeartbeats 8000000 in
set_option maxRecDepth 100000 in
theorem laws_markClauseS.calls (k : Nat) (P0_ : Nat → Prop) (u9000_ : Value) (l0 : List S37) (a1 : Int) (r1 : Int) (w0 w : World) (hB : Below w0.heap.size w0 w) (ho0 : ∃ ok_, Kd.S k37 37 w w0.heap.size ok_ u9000_ l0) (h : laws_markClauseS.f k l0 a1 = some r1) :
  Calls Try.prog 11 #[u9000_, .int .i64 a1] w fun e w' => e = .returned (.int .i64 r1) ∧ Below w0.heap.size w0 w' ∧ Kept w w' (fun k_ => some k_ = u9000_.ownBlock ∨ ∃ cells, w.heap[k_]? = some (.cells cells 47 (0, 0))) := by
 obtain ⟨P, ho⟩ := ho0; obtain ⟨A, cc, rfl⟩ := Kd.S_slice ho; have hlen : l0.length ≤ 9223372036854775807 := (Kd.S_reads' ho).2.2.2.1; have HO := Aside0.mk ho; have HB := Aside0.mk hB; have HK := Aside0.mk (Kept.refl w (fun k_ => some k_ = (Value.slice A l0.length cc).ownBlock ∨ ∃ cells, w.heap[k_]? = some (.cells cells 47 (0, 0)))); have H := Aside0.mk (show laws_markClauseS.go k ((l0.map (·.f1)).drop (0 : Int).toNat) a1 = some r1 from h); clear ho hB h; go_enter Try.func11, Try.ntmps11; go_wp2
 go_loopg [1, 5] l0.length (fun gg s1 s5 wr => ∃ (x5 a : Int) (l : List S37), s1 = .int .i64 a ∧ s5 = .int .i64 x5 ∧ 0 ≤ x5 ∧ x5 ≤ l0.length ∧ l0.length - x5.toNat ≤ gg ∧ Aside0 (l.length = l0.length) ∧ Aside0 (laws_markClauseS.go k ((l.map (·.f1)).drop x5.toNat) a = some r1) ∧ Aside0 (Kd.S k37 37 wr w0.heap.size P (.slice A l0.length cc) l) ∧ Aside0 (Below w0.heap.size w0 wr) ∧ Aside0 (Kept w wr (fun k_ => some k_ = (Value.slice A l0.length cc).ownBlock ∨ ∃ cells, w.heap[k_]? = some (.cells cells 47 (0, 0)))))
 case atStart => exact ⟨0, a1, l0, rfl, rfl, by omega, by omega, by simp, ⟨rfl⟩, H, HO, HB, HK⟩
 case round =>
  clear H HO HB HK; obtain ⟨x5, a, l, rfl, rfl, h0, hle, hgg, HL, H, HO, HB, HK⟩ := hrel; by_cases hlt : x5 < (l0.length : Int)
  ·have c3b0 : decide (x5 < (l0.length : Int)) = true := decide_eq_true hlt; have hl := HL.out; obtain ⟨g, cap, e, gb, gl, _⟩ := Kd.S_form HO.out (by omega); injection e with ea en ec; clear en; subst ea; subst ec; have GB := Aside0.mk gb
   have hil : x5.toNat < l.length := by omega
   have hH := H.out; rw [List.drop_eq_getElem_cons (by rw [List.length_map]; exact hil)] at hH; rw [laws_markClauseS.go] at hH; obtain ⟨t, et, hH1⟩ := Option.bind_eq_some_iff.mp hH; obtain ⟨⟨q1, q2⟩, eq, hH2⟩ := Option.bind_eq_some_iff.mp hH1; rw [List.getElem_map] at eq
   have eg : l[x5.toNat].f1 = (l.getD x5.toNat z37).f1 := by rw [List.getD_eq_getElem?_getD, List.getElem?_eq_getElem hil]; rfl
   rw [eg] at eq; have ET := Aside0.mk et; have EQ := Aside0.mk eq; have HH := Aside0.mk hH2; have NX := Aside0.mk (show wrap64 (x5 + 1) = x5 + 1 by unfold wrap64; omega); have HLT := Aside0.mk hlt; have HZ := Aside0.mk h0; have HIL := Aside0.mk hil; clear hH hH1 hH2 H et eq eg gb gl hl; have HG := Aside0.mk hgg; have p5 := eq_true h0; have q5 := eq_true hlt; clear h0 hlt hle hgg hil
   go_wp2_with (first
    | ((with_reducible refine gate_callee (f := 32) rfl ?_); refine goesL_ (some 15) rfl rfl Try.func32 (by kernel_rfl) rfl #[.int .i64 a] rfl mq ?_; (with_reducible refine (laws_markText.calls k a t _ ET.out).mono ?_); rintro e w2 ⟨rfl, hb⟩; refine ⟨_, rfl, ?_⟩; have n0_ := Aside0.mk (Kd.S_below HO.out hb); have n1_ := Aside0.mk (below_step HB.out hb); have n2_ := Aside0.mk (Kept.below HK.out hb); clear HO HB HK hb; obtain ⟨_, _, _, _, _, hx0, _, _, _, hfx⟩ := mc_elem n0_.out x5 HZ.out HLT.out; have hf0 := hfx 0; clear hfx; (try simp only [Nat.add_zero] at hf0); obtain ⟨l1, z1, z2, z3, z4, z5⟩ := mc_put1 n0_.out x5 HZ.out HLT.out HIL.out 0 (.string t) (.inl ⟨rfl, t, rfl⟩); have Z1 := Aside0.mk z1; have Z2 := Aside0.mk z2; have Z3 := Aside0.mk z3; have Z4 := Aside0.mk z4; have Z5 := Aside0.mk z5; clear z1 z2 z3 z4 z5)
    | ((with_reducible refine gate_store (t := 9) (p := 17) rfl ?_); refine store_event (t := 9) (p := 17) (v := ?vo_0) (w1 := (w2.setCell ⟨g, x5.toNat * 4, none⟩ (.string t))) ?hg ?ho ?hn ?hr ?_; (case ho => rfl); (case hg => rfl); (case hn => rfl); (case hr => first | (go_simp; done) | (go_simp; rfl)); intro w3 hw; have m0_ := Aside0.mk (show Kd.S k37 37 w3 w0.heap.size P _ l1 from by rw [hw]; exact Z4.out); have m1_ := Aside0.mk (show Below w0.heap.size w0 w3 from by rw [hw]; exact below_set n1_.out GB.out); have m2_ := Aside0.mk (mc_grown n2_.out (W1 := w3) (by rw [hw]; exact Z5.out)); clear hx0 hf0 Z4 Z5 n0_ n1_ n2_ hw; obtain ⟨v1, oki, ge, hh, hoki, _, hx1, _, _, _⟩ := mc_elem m0_.out x5 HZ.out HLT.out; rw [Z2.out] at ge; have GE := Aside0.mk ge; have HHo := Aside0.mk hh; clear ge hh hoki)
    | ((with_reducible refine gate_callee (f := 33) rfl ?_); refine goesL_ (some 26) rfl rfl Try.func33 (by kernel_rfl) rfl #[v1, .int .i64 (wrap64 (a + 1))] rfl mq ?_; (with_reducible refine (laws_markTermS.calls k (fun k_ => some k_ = v1.ownBlock) v1 _ (wrap64 (a + 1)) q1 q2 w0 _ m1_.out (Kd.R_tight rfl GE.out) EQ.out).mono ?_); rintro e w4 ⟨rfl, hy, hb, hk⟩; refine ⟨_, rfl, ?_⟩; have s0_ := Aside0.mk (mc_back GE.out HHo.out hy hk); have s1_ := Aside0.mk hb; have s2_ := Aside0.mk (mc_kept m2_.out hk (Kd.R_typed GE.out)); have Y1 := Aside0.mk (show (l1.set x5.toNat ⟨(l1.getD x5.toNat z37).f0, q2, (l1.getD x5.toNat z37).f2, (l1.getD x5.toNat z37).f3⟩).length = l.length from by rw [List.length_set]; exact Z1.out); have Y3 := Aside0.mk (show ((l1.set x5.toNat ⟨(l1.getD x5.toNat z37).f0, q2, (l1.getD x5.toNat z37).f2, (l1.getD x5.toNat z37).f3⟩).map (·.f1)).drop (x5.toNat + 1) = (l.map (·.f1)).drop (x5.toNat + 1) from (mc_drop _).trans Z3.out); clear hy hb hk m0_ m1_ m2_ Z1 Z2 Z3 GE HHo hx1; generalize l1.set x5.toNat ⟨(l1.getD x5.toNat z37).f0, q2, (l1.getD x5.toNat z37).f2, (l1.getD x5.toNat z37).f3⟩ = l2 at *; obtain ⟨_, _, _, _, _, _, _, hx2, _, hfx⟩ := mc_elem s0_.out x5 HZ.out HLT.out; have hf2 := hfx 2; clear hfx; obtain ⟨l3, z1, z2, z3, z4, z5⟩ := mc_put1 s0_.out x5 HZ.out HLT.out (by rw [Y1.out]; exact HIL.out) 2 (.int .i64 q1) (.inr (.inl ⟨rfl, q1, rfl⟩)); have Z1 := Aside0.mk (z1.trans Y1.out); have Z3 := Aside0.mk (z3.trans Y3.out); have Z4 := Aside0.mk z4; have Z5 := Aside0.mk z5; clear z1 z2 z3 z4 z5 Y1 Y3)
    | ((with_reducible refine gate_store (t := 3) (p := 31) rfl ?_); refine store_event (t := 3) (p := 31) (v := ?vo_1) (w1 := (w4.setCell ⟨g, x5.toNat * 4 + 2, none⟩ (.int .i64 q1))) ?hg ?ho ?hn ?hr ?_; (case ho => rfl); (case hg => rfl); (case hn => rfl); (case hr => first | (go_simp; done) | (go_simp; rfl)); intro w5 hw; have t0_ := Aside0.mk (show Kd.S k37 37 w5 w0.heap.size P _ l3 from by rw [hw]; exact Z4.out); have t1_ := Aside0.mk (show Below w0.heap.size w0 w5 from by rw [hw]; exact below_set s1_.out GB.out); have t2_ := Aside0.mk (mc_grown s2_.out (W1 := w5) (by rw [hw]; exact Z5.out)); clear hx2 hf2 Z4 Z5 s0_ s1_ s2_ hw; obtain ⟨_, _, _, _, _, _, _, _, hx3, hfx⟩ := mc_elem t0_.out x5 HZ.out HLT.out; have hf3 := hfx 3; clear hfx; obtain ⟨l4, z1, z2, z3, z4, z5⟩ := mc_put1 t0_.out x5 HZ.out HLT.out (by rw [Z1.out]; exact HIL.out) 3 (.int .i64 (wrap64 (q1 + 1))) (.inr (.inr ⟨rfl, wrap64 (q1 + 1), rfl⟩)); have X1 := Aside0.mk (z1.trans Z1.out); have X3 := Aside0.mk (z3.trans Z3.out); have Z4 := Aside0.mk z4; have Z5 := Aside0.mk z5; clear z1 z2 z3 z4 z5 Z1 Z3)
    | ((with_reducible refine gate_store (t := 3) (p := 38) rfl ?_); refine store_event (t := 3) (p := 38) (v := ?vo_2) (w1 := (w5.setCell ⟨g, x5.toNat * 4 + 3, none⟩ (.int .i64 (wrap64 (q1 + 1))))) ?hg ?ho ?hn ?hr ?_; (case ho => rfl); (case hg => rfl); (case hn => rfl); (case hr => first | (go_simp; done) | (go_simp; rfl)); intro w6 hw; have HO := Aside0.mk (show Kd.S k37 37 w6 w0.heap.size P _ l4 from by rw [hw]; exact Z4.out); have HB := Aside0.mk (show Below w0.heap.size w0 w6 from by rw [hw]; exact below_set t1_.out GB.out); have HK := Aside0.mk (mc_grown t2_.out (W1 := w6) (by rw [hw]; exact Z5.out)); clear hx3 hf3 Z4 Z5 t0_ t1_ t2_ hw))
   go_roundg (l0.length - (x5.toNat + 1))
   case measure => have := HIL.out; have := HL.out; have := HG.out; omega
   case rel => exact ⟨x5 + 1, _, l4, rfl, by rw [NX.out], by have := HZ.out; omega, by have := HLT.out; omega, by have := HZ.out; omega, ⟨X1.out.trans HL.out⟩, ⟨by rw [show (x5 + 1).toNat = x5.toNat + 1 by have := HZ.out; omega, X3.out]; exact HH.out⟩, HO, HB, HK⟩
  ·have c3b0 : decide (x5 < (l0.length : Int)) = false := decide_eq_false hlt; have hH := H.out; rw [List.drop_eq_nil_of_le (by rw [List.length_map, HL.out]; omega), laws_markClauseS.go] at hH; have HR := Aside0.mk (Option.some.inj hH); clear hH hlt; go_wp2; go_ret; exact ⟨by rw [← HR.out]; rfl, HB.out, HK.out⟩

/-! ### laws_markIntS: function 12 -/
def laws_markIntS.l0 : Nat → List Int → Int → Int → Option (Int × List Int)
 | 0, _, _, _ => none
 | k + 1, x0, x1, x5 => if x5 < (x0.length : Int) then (if 0 ≤ x5 then (laws_markIntS.l0 k (x0.set (x5 : Int).toNat x1) (wrap64 (x1 + 1)) (wrap64 (x5 + 1))) else (none)) else (some (x1, x0))
def laws_markIntS.f (k : Nat) (l0 : List Int) (a1 : Int) : Option (Int × List Int) := laws_markIntS.l0 k l0 a1 0
theorem laws_markIntS.mono_l : ∀ k, (∀ y0 y1 y2, LeO (laws_markIntS.l0 k y0 y1 y2) (laws_markIntS.l0 (k + 1) y0 y1 y2))
 | 0 => fun _ _ _ r h => by simp [laws_markIntS.l0] at h
 | k + 1 => by
  have ih0 := laws_markIntS.mono_l k
  ·intro y0 y1 y2; unfold laws_markIntS.l0
   repeat' first
   | (with_reducible exact ih0 _ _ _)
   | (with_reducible exact LeO.refl _)
   | (with_reducible exact LeO.none _)
   | (with_reducible refine LeO.ite ?_ ?_)
   | (with_reducible refine LeO.bind ?_ (fun _ => ?_))
   | exact ih0 _ _ _
   | exact LeO.none _
   | refine LeO.ite ?_ ?_
   | refine LeO.bind ?_ (fun _ => ?_)
theorem laws_markIntS.mono : ∀ a0 a1 k, LeO (laws_markIntS.f k a0 a1) (laws_markIntS.f (k + 1) a0 a1) := by
 intro a0 a1 k; have ih0 := laws_markIntS.mono_l k; unfold laws_markIntS.f
 repeat' first
   | (with_reducible exact ih0 _ _ _)
   | (with_reducible exact LeO.refl _)
   | (with_reducible exact LeO.none _)
   | (with_reducible refine LeO.ite ?_ ?_)
   | (with_reducible refine LeO.bind ?_ (fun _ => ?_))
   | exact ih0 _ _ _
   | exact LeO.none _
   | refine LeO.ite ?_ ?_
   | refine LeO.bind ?_ (fun _ => ?_)
set_option maxHeartbeats 8000000 in
set_option maxRecDepth 100000 in
theorem laws_markIntS.calls (k : Nat) (P0_ : Nat → Prop) (u9000_ : Value) (l0 : List Int) (a1 : Int) (r1 : Int) (r2 : List Int) (w0 w : World) (hB : Below w0.heap.size w0 w) (ho0 : Kd.R (Kd.int .i64) 3 w w0.heap.size P0_ u9000_ l0) (h : laws_markIntS.f k l0 a1 = some (r1, r2)) :
  Calls Try.prog 12 #[u9000_, .int .i64 a1] w fun e w' => e = .returned (.int .i64 r1) ∧ Kd.R (Kd.int .i64) 3 w' w0.heap.size (fun k_ => (P0_ k_ ∨ w.heap.size ≤ k_)) u9000_ r2 ∧ Below w0.heap.size w0 w' ∧ Kept w w' (fun k_ => P0_ k_) := by
 have HO0 := Aside0.mk (show Kd.R (Kd.int .i64) 3 w w0.heap.size (fun k_ => (P0_ k_ ∨ w.heap.size ≤ k_)) u9000_ l0 from Kd.R_mono ho0 (fun k_ hk => (.inl hk))); have HK := Aside0.mk (Kept.refl w (fun k_ => P0_ k_)); have HW0 := Aside0.mk hB.size; have HB := Aside0.mk hB; clear hB; have H : (laws_markIntS.l0 k l0 a1 0) = some (r1, r2) := h; clear h; have H' := Aside0.mk H; clear H; go_enter Try.func12, Try.ntmps12; go_wp2
 go_loopg [1, 5] k (fun kq v1 v5 w' => ∃ (x0_1 : List Int) (x1_1 : Int) (x5_1 : Int), v1 = .int .i64 x1_1 ∧ v5 = .int .i64 x5_1 ∧ Aside0 (laws_markIntS.l0 kq x0_1 x1_1 x5_1 = some (r1, r2)) ∧ Aside0 (kq ≤ k) ∧ Aside0 (Kd.R (Kd.int .i64) 3 w' w0.heap.size (fun k_ => (P0_ k_ ∨ w.heap.size ≤ k_)) u9000_ x0_1) ∧ Aside0 (Kept w w' (fun k_ => P0_ k_)) ∧ Aside0 (Below w0.heap.size w0 w'))
 case atStart => exact ⟨(l0), (a1), (0), (by first | rfl | (simp; done) | (simp [*]; done)), (by first | rfl | (simp; done) | (simp [*]; done)), H', ⟨Nat.le_refl _⟩, ⟨by (with_reducible repeat (first | apply Kd.R_alloc | apply Kd.R_drewN | apply Kd.R_drew)); exact HO0.out⟩, ⟨by repeat (first | (with_reducible first | exact HK.out | apply Kept.alloc | apply Kept.drewN | apply Kept.drew) | exact HK.out)⟩, ⟨qb HB⟩⟩
 case round =>
  clear H'; (try clear c1); (try clear p2); obtain ⟨x0_1, x1_1, x5_1, rfl, rfl, HA, HK1, HO_0, HK, HB⟩ := hrel
  cases gk with
  | zero => exact absurd HA.out (by simp [laws_markIntS.l0])
  | succ k1 =>
   have H := HA.out; clear HA; simp only [laws_markIntS.l0] at H; by_cases c3 : x5_1 < (x0_1.length : Int)
   ·rw [if_pos c3] at H; have c3b0 : decide (x5_1 < (x0_1.length : Int)) = true := decide_eq_true c3; clear c3; by_cases c4 : 0 ≤ x5_1
    ·rw [if_pos c4] at H; have c4b0 : decide (0 ≤ x5_1) = true := decide_eq_true c4; clear c4; obtain ⟨y261, hy261⟩ : ∃ y_ : List Int, y_ = (x0_1.set (x5_1 : Int).toNat x1_1) := ⟨_, rfl⟩
     replace H : (laws_markIntS.l0 k1 y261 (wrap64 (x1_1 + 1)) (wrap64 (x5_1 + 1))) = some (r1, r2) := by first | (rw [hy261]; with_reducible exact H) | (have H2_ := (Option.bind_some _ _).symm.trans H; rw [hy261]; with_reducible exact H2_) | (have H2_ := (Option.bind_some _ _).symm.trans H; with_reducible exact H2_) | with_reducible exact H | (rw [hy261]; exact H) | exact H
     have Ny261 := Aside0.mk hy261; clear hy261; have H' := Aside0.mk H; clear H; obtain ⟨Ao6, co6, eo6⟩ := Kd.R_slice HO_0.out; subst eo6; have p5 : 0 ≤ (x5_1 : Int) := of_decide_eq_true (by first | (with_reducible assumption) | assumption); have q5 : (x5_1 : Int) < ((x0_1.length : Int) : Int) := of_decide_eq_true (by first | (with_reducible assumption) | assumption); obtain ⟨go5, co5, eo5, gb5, gl5, cl5, HG5⟩ := Kd.R_form HO_0.out (by omega)
     (first | cases eo5 | (injection eo5 with ea_ en_ ec_; (first | subst ea_ | (injection ea_ with ea_; subst ea_)); subst ec_; clear en_))
     have GB5 := Aside0.mk gb5; have GG5 := Aside0.mk HG5; clear gb5 gl5 HG5; have HMgo5 := Aside0.mk (show (P0_ go5 ∨ w.heap.size ≤ go5) from (HO_0.out.1 _ rfl)); obtain ⟨hx5_0, hf5_0⟩ := Kd.R_celln 0 HO_0.out (x5_1 : Int) p5 q5; replace p5 := eq_true p5; replace q5 := eq_true q5; have HP7 := Kd.R_putg HO_0.out (x5_1 : Int) x1_1
     go_wp2_with (first | ((with_reducible refine gate_store (t := 3) (p := 15) rfl ?_); refine store_event (t := 3) (p := 15) (v := ?vo_w8) (w1 := (wr.setCell ⟨go5, (x5_1 : Int).toNat, none⟩ (.int .i64 x1_1))) ?hg ?ho ?hn ?hr ?_; (case ho => rfl); (case hg => rfl); (case hn => rfl); (case hr => first | (go_simp; done) | (go_simp; rfl)); intro w8 hw; have hg : wr.grownBy w8 (some go5) := (by rw [hw]; exact HP7.2); have hp_ : Kd.R (Kd.int .i64) 3 w8 w0.heap.size (fun k_ => (P0_ k_ ∨ w.heap.size ≤ k_)) (.slice (some ⟨go5, 0, none⟩) x0_1.length co6) y261 := (by rw [hw, Ny261.out]; exact HP7.1); clear HP7; have n0_ := Aside0.mk (hp_); have n1_ := Aside0.mk ((by rw [hw]; exact below_set (HB.out) GB5.out : Below w0.heap.size w0 w8)); have n2_ := Aside0.mk (Kept.of_grown (S := (fun k_ => P0_ k_)) hg (by repeat (first | (with_reducible first | exact HK.out | apply Kept.alloc | apply Kept.drewN | apply Kept.drew) | exact HK.out)) (fun k_ e_ => (HO_0.out.1 k_ e_))); clear HO_0; clear HB; clear HK; have HO_0 := n0_; have HB := n1_; have HK := n2_; clear n0_ n1_ n2_; clear hg hw hp_))
     go_roundg k1
     case measure => have := HK1.out; omega
     case rel => exact ⟨(y261), (wrap64 (x1_1 + 1)), (wrap64 (x5_1 + 1)), (by first | rfl | (simp; done) | (simp [*]; done)), (by first | rfl | (simp; done) | (simp [*]; done)), H', ⟨by have := HK1.out; omega⟩, ⟨by (with_reducible repeat (first | apply Kd.R_alloc | apply Kd.R_drewN | apply Kd.R_drew)); exact HO_0.out⟩, ⟨by repeat (first | (with_reducible first | exact HK.out | apply Kept.alloc | apply Kept.drewN | apply Kept.drew) | exact HK.out)⟩, ⟨qb HB⟩⟩
    ·rw [if_neg c4] at H; exact absurd H (by simp)
   ·rw [if_neg c3] at H; have c3b0 : decide (x5_1 < (x0_1.length : Int)) = false := decide_eq_false c3; clear c3; simp only [Option.some.injEq, Prod.mk.injEq] at H; obtain ⟨rfl, rfl⟩ := H; obtain ⟨Ao9, co9, eo9⟩ := Kd.R_slice HO_0.out; subst eo9; go_wp2; go_ret; exact ⟨eqq, by (with_reducible repeat (first | apply Kd.R_alloc | apply Kd.R_drewN | apply Kd.R_drew)); exact HO_0.out, by repeat (first | (with_reducible first | exact HB.out | apply below_alloc | apply pw_below_drewN | apply below_drew1) | exact HB.out), by repeat (first | (with_reducible first | exact HK.out | apply Kept.alloc | apply Kept.drewN | apply Kept.drew) | exact HK.out)⟩

/-! ### laws_heldIntS: function 13 -/
def laws_heldIntS.l0 : Nat → List Int → Int → Int → Option (Int)
 | 0, _, _, _ => none
 | k + 1, x0, x1, x5 => if x5 < (x0.length : Int) then (if 0 ≤ x5 then (if (rd x0 x5) = x1 then (laws_heldIntS.l0 k x0 (wrap64 (x1 + 1)) (wrap64 (x5 + 1))) else (some (-1))) else (none)) else (some x1)
def laws_heldIntS.f (k : Nat) (l0 : List Int) (a1 : Int) : Option (Int) := laws_heldIntS.l0 k l0 a1 0
theorem laws_heldIntS.mono_l : ∀ k, (∀ y0 y1 y2, LeO (laws_heldIntS.l0 k y0 y1 y2) (laws_heldIntS.l0 (k + 1) y0 y1 y2))
 | 0 => fun _ _ _ r h => by simp [laws_heldIntS.l0] at h
 | k + 1 => by
  have ih0 := laws_heldIntS.mono_l k
  ·intro y0 y1 y2; unfold laws_heldIntS.l0
   repeat' first
   | (with_reducible exact ih0 _ _ _)
   | (with_reducible exact LeO.refl _)
   | (with_reducible exact LeO.none _)
   | (with_reducible refine LeO.ite ?_ ?_)
   | (with_reducible refine LeO.bind ?_ (fun _ => ?_))
   | exact ih0 _ _ _
   | exact LeO.none _
   | refine LeO.ite ?_ ?_
   | refine LeO.bind ?_ (fun _ => ?_)
theorem laws_heldIntS.mono : ∀ a0 a1 k, LeO (laws_heldIntS.f k a0 a1) (laws_heldIntS.f (k + 1) a0 a1) := by
 intro a0 a1 k; have ih0 := laws_heldIntS.mono_l k; unfold laws_heldIntS.f
 repeat' first
   | (with_reducible exact ih0 _ _ _)
   | (with_reducible exact LeO.refl _)
   | (with_reducible exact LeO.none _)
   | (with_reducible refine LeO.ite ?_ ?_)
   | (with_reducible refine LeO.bind ?_ (fun _ => ?_))
   | exact ih0 _ _ _
   | exact LeO.none _
   | refine LeO.ite ?_ ?_
   | refine LeO.bind ?_ (fun _ => ?_)
set_option maxHeartbeats 8000000 in
set_option maxRecDepth 100000 in
theorem laws_heldIntS.calls (k : Nat) (A0 : Option Addr) (c0 : Nat) (l0 : List Int) (a1 : Int) (r : Int) (w : World) (hr0 : Kd.C (Kd.int .i64) w A0 l0.length l0) (hc0 : l0.length ≤ c0) (h : laws_heldIntS.f k l0 a1 = some r) :
  Calls Try.prog 13 #[.slice A0 l0.length c0, .int .i64 a1] w fun e w' => e = .returned (.int .i64 r) ∧ Drawn0 w w' := by
 have HR0 := Aside0.mk hr0; have HC0 := Aside0.mk hc0; clear hr0 hc0; have H : (laws_heldIntS.l0 k l0 a1 0) = some r := h; clear h; have H' := Aside0.mk H; clear H; go_enter Try.func13, Try.ntmps13; go_wp2
 go_loopg [1, 5] k (fun kq v1 v5 w' => ∃ (x1_1 : Int) (x5_1 : Int), v1 = .int .i64 x1_1 ∧ v5 = .int .i64 x5_1 ∧ Aside0 (laws_heldIntS.l0 kq l0 x1_1 x5_1 = some r) ∧ Aside0 (kq ≤ k) ∧ Drawn0 w w')
 case atStart => exact ⟨(a1), (0), (by first | rfl | (simp; done) | (simp [*]; done)), (by first | rfl | (simp; done) | (simp [*]; done)), H', ⟨Nat.le_refl _⟩, by repeat (first | exact Drawn0.refl _ | apply Drawn0.step)⟩
 case round =>
  clear H'; (try clear c1); (try clear p2); obtain ⟨x1_1, x5_1, rfl, rfl, HA, HK1, ⟨m1, rfl⟩⟩ := hrel
  cases gk with
  | zero => exact absurd HA.out (by simp [laws_heldIntS.l0])
  | succ k1 =>
   have H := HA.out; clear HA; simp only [laws_heldIntS.l0] at H; by_cases c3 : x5_1 < (l0.length : Int)
   ·rw [if_pos c3] at H; have c3b0 : decide (x5_1 < (l0.length : Int)) = true := decide_eq_true c3; clear c3; by_cases c4 : 0 ≤ x5_1
    ·rw [if_pos c4] at H; have c4b0 : decide (0 ≤ x5_1) = true := decide_eq_true c4; clear c4; by_cases c5 : (rd l0 x5_1) = x1_1
     ·rw [if_pos c5] at H; have c5b0 : ((rd l0 x5_1) == x1_1) = true := beq_iff_eq.mpr c5; have c5b1 : ((rd l0 x5_1) != x1_1) = false := bne_eq_false_iff_eq.mpr c5; clear c5; have H' := Aside0.mk H; clear H; have p262 : 0 ≤ (x5_1 : Int) := of_decide_eq_true (by first | (with_reducible assumption) | assumption); have q262 : x5_1 < (l0.length : Int) := of_decide_eq_true (by first | (with_reducible assumption) | assumption); obtain ⟨ad262, e262, hx262_0⟩ := Kd.at_int HR0.out x5_1 p262 q262
      cases e262
      replace p262 := eq_true p262; replace q262 := eq_true q262; go_wp2
      go_roundg k1
      case measure => have := HK1.out; omega
      case rel => exact ⟨(wrap64 (x1_1 + 1)), (wrap64 (x5_1 + 1)), (by first | rfl | (simp; done) | (simp [*]; done)), (by first | rfl | (simp; done) | (simp [*]; done)), H', ⟨by have := HK1.out; omega⟩, by repeat (first | exact Drawn0.refl _ | apply Drawn0.step)⟩
     ·rw [if_neg c5] at H; have c5b0 : ((rd l0 x5_1) == x1_1) = false := beq_eq_false_iff_ne.mpr c5; have c5b1 : ((rd l0 x5_1) != x1_1) = true := bne_iff_ne.mpr c5; obtain rfl := Option.some.inj H; have p262 : 0 ≤ (x5_1 : Int) := of_decide_eq_true (by first | (with_reducible assumption) | assumption); have q262 : x5_1 < (l0.length : Int) := of_decide_eq_true (by first | (with_reducible assumption) | assumption); obtain ⟨ad262, e262, hx262_0⟩ := Kd.at_int HR0.out x5_1 p262 q262
      cases e262
      replace p262 := eq_true p262; replace q262 := eq_true q262; go_wp2; go_ret; exact ⟨by first | rfl | (simp; done) | (simp [*]; done), by repeat (first | exact Drawn0.refl _ | apply Drawn0.step)⟩
    ·rw [if_neg c4] at H; exact absurd H (by simp)
   ·rw [if_neg c3] at H; have c3b0 : decide (x5_1 < (l0.length : Int)) = false := decide_eq_false c3; clear c3; obtain rfl := Option.some.inj H; go_wp2; go_ret; exact ⟨by first | rfl | (simp; done) | (simp [*]; done), by repeat (first | exact Drawn0.refl _ | apply Drawn0.step)⟩

/-! ### laws_FnExactHidden: function 3 -/
mutual
def laws_FnExactHidden.j0 : Nat → List (S54) → List Int → Int → List (S37) → List Int → Int → Bool → Option (Bool)
 | 0, _, _, _, _, _, _, _ => none
 | k + 1, x0, x4, x5, x6, x7, x8, x40 => if x40 = true then (some false) else ((laws_toClauseS.f k x0).bind fun t279 => ((laws_eqClauseS.f k x6 t279).bind fun t282 => (if t282 = true then ((laws_markClauseS.f k x6 1).bind fun t283 => (if t283 < 0 then (laws_FnExactHidden.j1 k x0 x4 x5 x7 true) else ((laws_eqIntS.f k x7 x4).bind fun t284 => (if t284 = true then (laws_FnExactHidden.j1 k x0 x4 x5 x7 (x8 != x5)) else (laws_FnExactHidden.j1 k x0 x4 x5 x7 true))))) else (some false))))
def laws_FnExactHidden.j1 : Nat → List (S54) → List Int → Int → List Int → Bool → Option (Bool)
 | 0, _, _, _, _, _ => none
 | k + 1, x0, x4, x5, x7, x61 => if x61 = true then (some false) else ((laws_markIntS.f k x7 1).bind fun bt285 => ((laws_heldIntS.f k bt285.2 1).bind fun t287 => (if t287 < 0 then (some false) else (if t287 = bt285.1 then ((laws_toClauseS.f k x0).bind fun t288 => ((impl_Hidden.f k t288).bind fun bt291 => ((laws_eqIntS.f k bt291.1 x4).bind fun t295 => (if t295 = true then (laws_FnExactHidden.j2 k bt285.2 bt285.1 (bt291.2 != x5)) else (laws_FnExactHidden.j2 k bt285.2 bt285.1 true))))) else (some false)))))
def laws_FnExactHidden.j2 : Nat → List Int → Int → Bool → Option (Bool)
 | 0, _, _, _ => none
 | k + 1, x7, x10, x87 => if x87 = true then (some false) else ((laws_heldIntS.f k x7 1).bind fun t296 => (if t296 < 0 then (some false) else (if t296 = x10 then (some true) else (some false))))
end
def laws_FnExactHidden.f (k : Nat) (l0 : List (S54)) : Option (Bool) := (laws_szClauseS.f k l0 1048576).bind fun t263 => (if t263 < 0 then (some true) else ((laws_toClauseS.f k l0).bind fun t264 => ((spec_Hidden.f k t264).bind fun bt267 => ((laws_toClauseS.f k l0).bind fun t271 => ((impl_Hidden.f k t271).bind fun bt274 => ((laws_eqIntS.f k bt274.1 bt267.1).bind fun t278 => (if t278 = true then (laws_FnExactHidden.j0 k l0 bt267.1 bt267.2 t271 bt274.1 bt274.2 (bt274.2 != bt267.2)) else (laws_FnExactHidden.j0 k l0 bt267.1 bt267.2 t271 bt274.1 bt274.2 true))))))))
theorem laws_FnExactHidden.mono_l : ∀ k, (∀ y0 y1 y2 y3 y4 y5 y6, LeO (laws_FnExactHidden.j0 k y0 y1 y2 y3 y4 y5 y6) (laws_FnExactHidden.j0 (k + 1) y0 y1 y2 y3 y4 y5 y6)) ∧ (∀ y0 y1 y2 y3 y4, LeO (laws_FnExactHidden.j1 k y0 y1 y2 y3 y4) (laws_FnExactHidden.j1 (k + 1) y0 y1 y2 y3 y4)) ∧ (∀ y0 y1 y2, LeO (laws_FnExactHidden.j2 k y0 y1 y2) (laws_FnExactHidden.j2 (k + 1) y0 y1 y2))
 | 0 => ⟨fun _ _ _ _ _ _ _ r h => by simp [laws_FnExactHidden.j0] at h, fun _ _ _ _ _ r h => by simp [laws_FnExactHidden.j1] at h, fun _ _ _ r h => by simp [laws_FnExactHidden.j2] at h⟩
 | k + 1 => by
  obtain ⟨ih0, ih1, ih2⟩ := laws_FnExactHidden.mono_l k; refine ⟨?_, ?_, ?_⟩
  ·intro y0 y1 y2 y3 y4 y5 y6; unfold laws_FnExactHidden.j0
   repeat' first
   | (with_reducible exact ih0 _ _ _ _ _ _ _)
   | (with_reducible exact ih1 _ _ _ _ _)
   | (with_reducible exact ih2 _ _ _)
   | (with_reducible exact impl_Hidden.mono _ _)
   | (with_reducible exact laws_eqClauseS.mono _ _ _)
   | (with_reducible exact laws_eqIntS.mono _ _ _)
   | (with_reducible exact laws_heldIntS.mono _ _ _)
   | (with_reducible exact laws_markClauseS.mono _ _ _)
   | (with_reducible exact laws_markIntS.mono _ _ _)
   | (with_reducible exact laws_szClauseS.mono _ _ _)
   | (with_reducible exact laws_toClauseS.mono _ _)
   | (with_reducible exact spec_Hidden.mono _ _)
   | (with_reducible exact LeO.refl _)
   | (with_reducible exact LeO.none _)
   | (with_reducible refine LeO.ite ?_ ?_)
   | (with_reducible refine LeO.bind ?_ (fun _ => ?_))
   | exact ih0 _ _ _ _ _ _ _
   | exact ih1 _ _ _ _ _
   | exact ih2 _ _ _
   | exact impl_Hidden.mono _ _
   | exact laws_eqClauseS.mono _ _ _
   | exact laws_eqIntS.mono _ _ _
   | exact laws_heldIntS.mono _ _ _
   | exact laws_markClauseS.mono _ _ _
   | exact laws_markIntS.mono _ _ _
   | exact laws_szClauseS.mono _ _ _
   | exact laws_toClauseS.mono _ _
   | exact spec_Hidden.mono _ _
   | exact LeO.none _
   | refine LeO.ite ?_ ?_
   | refine LeO.bind ?_ (fun _ => ?_)
  ·intro y0 y1 y2 y3 y4; unfold laws_FnExactHidden.j1
   repeat' first
   | (with_reducible exact ih0 _ _ _ _ _ _ _)
   | (with_reducible exact ih1 _ _ _ _ _)
   | (with_reducible exact ih2 _ _ _)
   | (with_reducible exact impl_Hidden.mono _ _)
   | (with_reducible exact laws_eqClauseS.mono _ _ _)
   | (with_reducible exact laws_eqIntS.mono _ _ _)
   | (with_reducible exact laws_heldIntS.mono _ _ _)
   | (with_reducible exact laws_markClauseS.mono _ _ _)
   | (with_reducible exact laws_markIntS.mono _ _ _)
   | (with_reducible exact laws_szClauseS.mono _ _ _)
   | (with_reducible exact laws_toClauseS.mono _ _)
   | (with_reducible exact spec_Hidden.mono _ _)
   | (with_reducible exact LeO.refl _)
   | (with_reducible exact LeO.none _)
   | (with_reducible refine LeO.ite ?_ ?_)
   | (with_reducible refine LeO.bind ?_ (fun _ => ?_))
   | exact ih0 _ _ _ _ _ _ _
   | exact ih1 _ _ _ _ _
   | exact ih2 _ _ _
   | exact impl_Hidden.mono _ _
   | exact laws_eqClauseS.mono _ _ _
   | exact laws_eqIntS.mono _ _ _
   | exact laws_heldIntS.mono _ _ _
   | exact laws_markClauseS.mono _ _ _
   | exact laws_markIntS.mono _ _ _
   | exact laws_szClauseS.mono _ _ _
   | exact laws_toClauseS.mono _ _
   | exact spec_Hidden.mono _ _
   | exact LeO.none _
   | refine LeO.ite ?_ ?_
   | refine LeO.bind ?_ (fun _ => ?_)
  ·intro y0 y1 y2; unfold laws_FnExactHidden.j2
   repeat' first
   | (with_reducible exact ih0 _ _ _ _ _ _ _)
   | (with_reducible exact ih1 _ _ _ _ _)
   | (with_reducible exact ih2 _ _ _)
   | (with_reducible exact impl_Hidden.mono _ _)
   | (with_reducible exact laws_eqClauseS.mono _ _ _)
   | (with_reducible exact laws_eqIntS.mono _ _ _)
   | (with_reducible exact laws_heldIntS.mono _ _ _)
   | (with_reducible exact laws_markClauseS.mono _ _ _)
   | (with_reducible exact laws_markIntS.mono _ _ _)
   | (with_reducible exact laws_szClauseS.mono _ _ _)
   | (with_reducible exact laws_toClauseS.mono _ _)
   | (with_reducible exact spec_Hidden.mono _ _)
   | (with_reducible exact LeO.refl _)
   | (with_reducible exact LeO.none _)
   | (with_reducible refine LeO.ite ?_ ?_)
   | (with_reducible refine LeO.bind ?_ (fun _ => ?_))
   | exact ih0 _ _ _ _ _ _ _
   | exact ih1 _ _ _ _ _
   | exact ih2 _ _ _
   | exact impl_Hidden.mono _ _
   | exact laws_eqClauseS.mono _ _ _
   | exact laws_eqIntS.mono _ _ _
   | exact laws_heldIntS.mono _ _ _
   | exact laws_markClauseS.mono _ _ _
   | exact laws_markIntS.mono _ _ _
   | exact laws_szClauseS.mono _ _ _
   | exact laws_toClauseS.mono _ _
   | exact spec_Hidden.mono _ _
   | exact LeO.none _
   | refine LeO.ite ?_ ?_
   | refine LeO.bind ?_ (fun _ => ?_)
theorem laws_FnExactHidden.mono : ∀ a0 k, LeO (laws_FnExactHidden.f k a0) (laws_FnExactHidden.f (k + 1) a0) := by
 intro a0 k; obtain ⟨ih0, ih1, ih2⟩ := laws_FnExactHidden.mono_l k; unfold laws_FnExactHidden.f
 repeat' first
   | (with_reducible exact ih0 _ _ _ _ _ _ _)
   | (with_reducible exact ih1 _ _ _ _ _)
   | (with_reducible exact ih2 _ _ _)
   | (with_reducible exact impl_Hidden.mono _ _)
   | (with_reducible exact laws_eqClauseS.mono _ _ _)
   | (with_reducible exact laws_eqIntS.mono _ _ _)
   | (with_reducible exact laws_heldIntS.mono _ _ _)
   | (with_reducible exact laws_markClauseS.mono _ _ _)
   | (with_reducible exact laws_markIntS.mono _ _ _)
   | (with_reducible exact laws_szClauseS.mono _ _ _)
   | (with_reducible exact laws_toClauseS.mono _ _)
   | (with_reducible exact spec_Hidden.mono _ _)
   | (with_reducible exact LeO.refl _)
   | (with_reducible exact LeO.none _)
   | (with_reducible refine LeO.ite ?_ ?_)
   | (with_reducible refine LeO.bind ?_ (fun _ => ?_))
   | exact ih0 _ _ _ _ _ _ _
   | exact ih1 _ _ _ _ _
   | exact ih2 _ _ _
   | exact impl_Hidden.mono _ _
   | exact laws_eqClauseS.mono _ _ _
   | exact laws_eqIntS.mono _ _ _
   | exact laws_heldIntS.mono _ _ _
   | exact laws_markClauseS.mono _ _ _
   | exact laws_markIntS.mono _ _ _
   | exact laws_szClauseS.mono _ _ _
   | exact laws_toClauseS.mono _ _
   | exact spec_Hidden.mono _ _
   | exact LeO.none _
   | refine LeO.ite ?_ ?_
   | refine LeO.bind ?_ (fun _ => ?_)
set_option maxHeartbeats 8000000 in
set_option maxRecDepth 100000 in
theorem laws_FnExactHidden.calls (k : Nat) (A0 : Option Addr) (c0 : Nat) (l0 : List (S54)) (r : Bool) (w : World) (hr0 : Kd.C k54 w A0 l0.length l0) (hc0 : l0.length ≤ c0) (h : laws_FnExactHidden.f k l0 = some r) :
  Calls Try.prog 3 #[.slice A0 l0.length c0] w fun e w' => e = .returned (.bool r) ∧ Below w.heap.size w w' := by
 have HR0 := Aside0.mk hr0; have HC0 := Aside0.mk hc0; clear hr0 hc0; have HB := Aside0.mk (Below.refl w.heap.size w); have H : ((laws_szClauseS.f k l0 1048576).bind fun t263 => (if t263 < 0 then (some true) else ((laws_toClauseS.f k l0).bind fun t264 => ((spec_Hidden.f k t264).bind fun bt267 => ((laws_toClauseS.f k l0).bind fun t271 => ((impl_Hidden.f k t271).bind fun bt274 => ((laws_eqIntS.f k bt274.1 bt267.1).bind fun t278 => (if t278 = true then (laws_FnExactHidden.j0 k l0 bt267.1 bt267.2 t271 bt274.1 bt274.2 (bt274.2 != bt267.2)) else (laws_FnExactHidden.j0 k l0 bt267.1 bt267.2 t271 bt274.1 bt274.2 true))))))))) = some r := h; clear h; replace H := Option.bind_eq_some_iff.mp H; obtain ⟨t263, A20, H⟩ := H; replace H : (if t263 < 0 then (some true) else ((laws_toClauseS.f k l0).bind fun t264 => ((spec_Hidden.f k t264).bind fun bt267 => ((laws_toClauseS.f k l0).bind fun t271 => ((impl_Hidden.f k t271).bind fun bt274 => ((laws_eqIntS.f k bt274.1 bt267.1).bind fun t278 => (if t278 = true then (laws_FnExactHidden.j0 k l0 bt267.1 bt267.2 t271 bt274.1 bt274.2 (bt274.2 != bt267.2)) else (laws_FnExactHidden.j0 k l0 bt267.1 bt267.2 t271 bt274.1 bt274.2 true)))))))) = some r := H; have A2 := Aside0.mk A20; clear A20; by_cases c3 : t263 < 0
 ·rw [if_pos c3] at H; have c3b0 : decide (t263 < 0) = true := decide_eq_true c3; clear c3; obtain rfl := Option.some.inj H; go_enter Try.func3, Try.ntmps3
  go_wp2_with (first | ((with_reducible refine gate_callee (f := 5) rfl ?_); refine goesL_ (some 16) rfl rfl Try.func5 (by kernel_rfl) rfl #[.slice A0 l0.length c0, .int .i64 1048576] rfl mq ?_; (with_reducible refine (laws_szClauseS.calls k _ _ l0 1048576 t263 _ ?side1 ?side2 A2.out).mono ?_); (case side1 => repeat (first | exact HR0.out | (with_reducible refine Kd.C_alloc ?_ _) | (with_reducible refine Kd.C_drewN ?_ _) | (with_reducible refine Kd.C_drew ?_))); (case side2 => exact HC0.out); rintro e w4 ⟨rfl, hb⟩; refine ⟨_, rfl, ?_⟩; have n0_ := Aside0.mk (below_step (qb HB) hb); clear HB; have HB := n0_; clear n0_; (try clear hb); (try clear hb2); (try clear hk); (try clear hi)))
  go_ret; exact ⟨eqq, qb HB⟩
 ·rw [if_neg c3] at H; have c3b0 : decide (t263 < 0) = false := decide_eq_false c3; clear c3; replace H := Option.bind_eq_some_iff.mp H; obtain ⟨t264, A50, H⟩ := H; replace H : ((spec_Hidden.f k t264).bind fun bt267 => ((laws_toClauseS.f k l0).bind fun t271 => ((impl_Hidden.f k t271).bind fun bt274 => ((laws_eqIntS.f k bt274.1 bt267.1).bind fun t278 => (if t278 = true then (laws_FnExactHidden.j0 k l0 bt267.1 bt267.2 t271 bt274.1 bt274.2 (bt274.2 != bt267.2)) else (laws_FnExactHidden.j0 k l0 bt267.1 bt267.2 t271 bt274.1 bt274.2 true)))))) = some r := H; have A5 := Aside0.mk A50; clear A50; replace H := Option.bind_eq_some_iff.mp H; obtain ⟨⟨t267, t268⟩, A60, H⟩ := H; replace H : ((laws_toClauseS.f k l0).bind fun t271 => ((impl_Hidden.f k t271).bind fun bt274 => ((laws_eqIntS.f k bt274.1 t267).bind fun t278 => (if t278 = true then (laws_FnExactHidden.j0 k l0 t267 t268 t271 bt274.1 bt274.2 (bt274.2 != t268)) else (laws_FnExactHidden.j0 k l0 t267 t268 t271 bt274.1 bt274.2 true))))) = some r := H; have A6 := Aside0.mk A60; clear A60; replace H := Option.bind_eq_some_iff.mp H; obtain ⟨t271, A70, H⟩ := H; replace H : ((impl_Hidden.f k t271).bind fun bt274 => ((laws_eqIntS.f k bt274.1 t267).bind fun t278 => (if t278 = true then (laws_FnExactHidden.j0 k l0 t267 t268 t271 bt274.1 bt274.2 (bt274.2 != t268)) else (laws_FnExactHidden.j0 k l0 t267 t268 t271 bt274.1 bt274.2 true)))) = some r := H; have A7 := Aside0.mk A70; clear A70; replace H := Option.bind_eq_some_iff.mp H; obtain ⟨⟨t274, t275⟩, A80, H⟩ := H; replace H : ((laws_eqIntS.f k t274 t267).bind fun t278 => (if t278 = true then (laws_FnExactHidden.j0 k l0 t267 t268 t271 t274 t275 (t275 != t268)) else (laws_FnExactHidden.j0 k l0 t267 t268 t271 t274 t275 true))) = some r := H; have A8 := Aside0.mk A80; clear A80; have HC9 := Aside0.mk H; clear H; go_enter Try.func3, Try.ntmps3
  go_upto_region 8 with (first | ((with_reducible refine gate_callee (f := 5) rfl ?_); refine goesL_ (some 16) rfl rfl Try.func5 (by kernel_rfl) rfl #[.slice A0 l0.length c0, .int .i64 1048576] rfl mq ?_; (with_reducible refine (laws_szClauseS.calls k _ _ l0 1048576 t263 _ ?side1 ?side2 A2.out).mono ?_); (case side1 => repeat (first | exact HR0.out | (with_reducible refine Kd.C_alloc ?_ _) | (with_reducible refine Kd.C_drewN ?_ _) | (with_reducible refine Kd.C_drew ?_))); (case side2 => exact HC0.out); rintro e w10 ⟨rfl, hb⟩; refine ⟨_, rfl, ?_⟩; have n0_ := Aside0.mk (below_step (qb HB) hb); clear HB; have HB := n0_; clear n0_; (try clear hb); (try clear hb2); (try clear hk); (try clear hi)) | ((with_reducible refine gate_callee (f := 7) rfl ?_); refine goesL_ (some 21) rfl rfl Try.func7 (by kernel_rfl) rfl #[.slice A0 l0.length c0] rfl mq ?_; (with_reducible refine (laws_toClauseS.calls k _ _ l0 t264 _ ?side1 ?side2 A5.out).mono ?_); (case side1 => repeat (first | exact (Kd.C_below HR0.out HB.out) | (with_reducible refine Kd.C_alloc ?_ _) | (with_reducible refine Kd.C_drewN ?_ _) | (with_reducible refine Kd.C_drew ?_))); (case side2 => exact HC0.out); rintro e w11 ⟨v265, rfl, ho0, hb⟩; refine ⟨_, rfl, ?_⟩; have n0_ := Aside0.mk (Kd.S_lower ho0 (below_size (qb HB))); have n1_ := Aside0.mk (below_step (qb HB) hb); clear HB; have HO266 := n0_; have HB := n1_; clear n0_ n1_; (try clear hb); (try clear hb2); (try clear hk); (try clear hi); (try clear ho0); obtain ⟨Ao12, co12, eo12⟩ := Kd.S_slice HO266.out; subst eo12) | ((with_reducible refine gate_callee (f := 6) rfl ?_); refine goesL_ (some 22) rfl rfl Try.func6 (by kernel_rfl) rfl #[.slice Ao12 t264.length co12] rfl mq ?_; (with_reducible refine (spec_Hidden.calls k _ _ t264 t267 t268 _ ?side1 ?side2 A6.out).mono ?_); (case side1 => repeat (first | exact (Kd.S_reads' HO266.out).2.2 | (with_reducible refine Kd.C_alloc ?_ _) | (with_reducible refine Kd.C_drewN ?_ _) | (with_reducible refine Kd.C_drew ?_))); (case side2 => exact (Kd.S_reads' HO266.out).2.1); rintro e w13 ⟨v269, rfl, ho0, hb⟩; refine ⟨_, rfl, ?_⟩; have n0_ := Aside0.mk (Kd.S_below (qs HO266) hb); have n1_ := Aside0.mk (Kd.R_lower ho0 (below_size (qb HB))); have n2_ := Aside0.mk (below_step (qb HB) hb); clear HO266; clear HB; have HO266 := n0_; have HO270 := n1_; have HB := n2_; clear n0_ n1_ n2_; (try clear hb); (try clear hb2); (try clear hk); (try clear hi); (try clear ho0)) | ((with_reducible refine gate_callee (f := 7) rfl ?_); refine goesL_ (some 26) rfl rfl Try.func7 (by kernel_rfl) rfl #[.slice A0 l0.length c0] rfl mq ?_; (with_reducible refine (laws_toClauseS.calls k _ _ l0 t271 _ ?side1 ?side2 A7.out).mono ?_); (case side1 => repeat (first | exact (Kd.C_below HR0.out HB.out) | (with_reducible refine Kd.C_alloc ?_ _) | (with_reducible refine Kd.C_drewN ?_ _) | (with_reducible refine Kd.C_drew ?_))); (case side2 => exact HC0.out); rintro e w14 ⟨v272, rfl, ho0, hb⟩; refine ⟨_, rfl, ?_⟩; have n0_ := Aside0.mk (Kd.S_elder' (qs HO266) (Kd.S_base ho0) hb); have n1_ := Aside0.mk (Kd.R_below (qr HO270) hb); have n2_ := Aside0.mk (Kd.S_lower (Kd.S_new' ho0 (Kd.S_lt (qs HO266))) (below_size (qb HB))); have n3_ := Aside0.mk (below_step (qb HB) hb); clear HO266; clear HO270; clear HB; have HO266 := n0_; have HO270 := n1_; have HO273 := n2_; have HB := n3_; clear n0_ n1_ n2_ n3_; (try clear hb); (try clear hb2); (try clear hk); (try clear hi); (try clear ho0); obtain ⟨Ao15, co15, eo15⟩ := Kd.S_slice HO273.out; subst eo15) | ((with_reducible refine gate_callee (f := 8) rfl ?_); refine goesL_ (some 29) rfl rfl Try.func8 (by kernel_rfl) rfl #[.slice Ao15 t271.length co15] rfl mq ?_; (with_reducible refine (impl_Hidden.calls k _ _ t271 t274 t275 _ ?side1 ?side2 A8.out).mono ?_); (case side1 => repeat (first | exact (Kd.S_reads' HO273.out).2.2 | (with_reducible refine Kd.C_alloc ?_ _) | (with_reducible refine Kd.C_drewN ?_ _) | (with_reducible refine Kd.C_drew ?_))); (case side2 => exact (Kd.S_reads' HO273.out).2.1); rintro e w16 ⟨v276, rfl, ho0, hb⟩; refine ⟨_, rfl, ?_⟩; have n0_ := Aside0.mk (Kd.S_below (qs HO266) hb); have n1_ := Aside0.mk (Kd.R_elder' (qr HO270) (Kd.R_base ho0) hb); have n2_ := Aside0.mk (Kd.S_below (qs HO273) hb); have n3_ := Aside0.mk (Kd.R_lower (Kd.R_new' ho0 (Kd.R_lt (qr HO270))) (below_size (qb HB))); have n4_ := Aside0.mk (below_step (qb HB) hb); clear HO266; clear HO270; clear HO273; clear HB; have HO266 := n0_; have HO270 := n1_; have HO273 := n2_; have HO277 := n3_; have HB := n4_; clear n0_ n1_ n2_ n3_ n4_; (try clear hb); (try clear hb2); (try clear hk); (try clear hi); (try clear ho0)))
  (try simp only [Act.put, sA, s0, sS])
  go_cut [40] (fun v40 wc => ∃ (kq : Nat) (x40_8 : Bool), v40 = .bool x40_8 ∧ Aside0 (laws_FnExactHidden.j0 kq l0 t267 t268 t271 t274 t275 x40_8 = some r) ∧ Aside0 (kq ≤ k) ∧ Aside0 (Kd.R (Kd.int .i64) 3 wc w.heap.size (fun k_ => some k_ ≠ (v276 : Value).ownBlock) v269 t267) ∧ Aside0 (Kd.S k37 37 wc w.heap.size (fun _ => True) (.slice Ao15 t271.length co15) t271) ∧ Aside0 (Kd.R (Kd.int .i64) 3 wc w.heap.size (fun k_ => some k_ ≠ (v269 : Value).ownBlock) v276 t274) ∧ Aside0 (Below w.heap.size w wc))
  case first =>
   have H := HC9.out; clear HC9; replace H := Option.bind_eq_some_iff.mp H; obtain ⟨t278, A170, H⟩ := H; replace H : (if t278 = true then (laws_FnExactHidden.j0 k l0 t267 t268 t271 t274 t275 (t275 != t268)) else (laws_FnExactHidden.j0 k l0 t267 t268 t271 t274 t275 true)) = some r := H; have A17 := Aside0.mk A170; clear A170; by_cases c18 : t278 = true
   ·subst c18
    have H1 : (laws_FnExactHidden.j0 k l0 t267 t268 t271 t274 t275 (t275 != t268)) = some r := by rw [if_pos rfl] at H; exact H
    clear H; have H := H1; clear H1; have H' := Aside0.mk H; clear H; obtain ⟨Ao19, co19, eo19⟩ := Kd.R_slice HO277.out; subst eo19; obtain ⟨Ao20, co20, eo20⟩ := Kd.R_slice HO270.out; subst eo20
    go_wp2_with (first | ((with_reducible refine gate_callee (f := 9) rfl ?_); refine goesL_ (some 34) rfl rfl Try.func9 (by kernel_rfl) rfl #[.slice Ao19 t274.length co19, .slice Ao20 t267.length co20] rfl mq ?_; (with_reducible refine (laws_eqIntS.calls k _ _ t274 _ _ t267 true _ ?side1 ?side2 ?side3 ?side4 A17.out).mono ?_); (case side1 => repeat (first | exact (Kd.R_reads' HO277.out).2.2 | (with_reducible refine Kd.C_alloc ?_ _) | (with_reducible refine Kd.C_drewN ?_ _) | (with_reducible refine Kd.C_drew ?_))); (case side2 => exact (Kd.R_reads' HO277.out).2.1); (case side3 => repeat (first | exact (Kd.R_reads' HO270.out).2.2 | (with_reducible refine Kd.C_alloc ?_ _) | (with_reducible refine Kd.C_drewN ?_ _) | (with_reducible refine Kd.C_drew ?_))); (case side4 => exact (Kd.R_reads' HO270.out).2.1); rintro e w' ⟨rfl, ⟨nd, rfl⟩⟩; refine ⟨_, rfl, ?_⟩))
    go_meet
    case rel => exact ⟨_, ((t275 != t268)), (by first | rfl | (simp; done) | (simp [*]; done)), H', ⟨by first | omega | exact Nat.le_refl _⟩, ⟨by (with_reducible repeat (first | apply Kd.R_alloc | apply Kd.R_drewN | apply Kd.R_drew)); exact Kd.R_mono HO270.out (fun _ hk => hk.2)⟩, ⟨by (with_reducible repeat (first | apply Kd.S_alloc | apply Kd.S_drewN | apply Kd.S_drew)); exact Kd.S_mono HO273.out (fun _ hk => trivial)⟩, ⟨by (with_reducible repeat (first | apply Kd.R_alloc | apply Kd.R_drewN | apply Kd.R_drew)); exact Kd.R_mono HO277.out (fun _ hk => hk.2)⟩, ⟨qb HB⟩⟩
   ·replace c18 := Bool.eq_false_iff.mpr c18; subst c18
    have H1 : (laws_FnExactHidden.j0 k l0 t267 t268 t271 t274 t275 true) = some r := by rw [if_neg (show ¬ (false = true) by decide)] at H; exact H
    clear H; have H := H1; clear H1; have H' := Aside0.mk H; clear H; obtain ⟨Ao21, co21, eo21⟩ := Kd.R_slice HO277.out; subst eo21; obtain ⟨Ao22, co22, eo22⟩ := Kd.R_slice HO270.out; subst eo22
    go_wp2_with (first | ((with_reducible refine gate_callee (f := 9) rfl ?_); refine goesL_ (some 34) rfl rfl Try.func9 (by kernel_rfl) rfl #[.slice Ao21 t274.length co21, .slice Ao22 t267.length co22] rfl mq ?_; (with_reducible refine (laws_eqIntS.calls k _ _ t274 _ _ t267 false _ ?side1 ?side2 ?side3 ?side4 A17.out).mono ?_); (case side1 => repeat (first | exact (Kd.R_reads' HO277.out).2.2 | (with_reducible refine Kd.C_alloc ?_ _) | (with_reducible refine Kd.C_drewN ?_ _) | (with_reducible refine Kd.C_drew ?_))); (case side2 => exact (Kd.R_reads' HO277.out).2.1); (case side3 => repeat (first | exact (Kd.R_reads' HO270.out).2.2 | (with_reducible refine Kd.C_alloc ?_ _) | (with_reducible refine Kd.C_drewN ?_ _) | (with_reducible refine Kd.C_drew ?_))); (case side4 => exact (Kd.R_reads' HO270.out).2.1); rintro e w' ⟨rfl, ⟨nd, rfl⟩⟩; refine ⟨_, rfl, ?_⟩))
    go_meet
    case rel => exact ⟨_, (true), (by first | rfl | (simp; done) | (simp [*]; done)), H', ⟨by first | omega | exact Nat.le_refl _⟩, ⟨by (with_reducible repeat (first | apply Kd.R_alloc | apply Kd.R_drewN | apply Kd.R_drew)); exact Kd.R_mono HO270.out (fun _ hk => hk.2)⟩, ⟨by (with_reducible repeat (first | apply Kd.S_alloc | apply Kd.S_drewN | apply Kd.S_drew)); exact Kd.S_mono HO273.out (fun _ hk => trivial)⟩, ⟨by (with_reducible repeat (first | apply Kd.R_alloc | apply Kd.R_drewN | apply Kd.R_drew)); exact Kd.R_mono HO277.out (fun _ hk => hk.2)⟩, ⟨qb HB⟩⟩
  case rest =>
   clear HC9; (try clear c1); (try clear p2); (try clear c3); (try clear c3b0); (try clear c5); (try clear c6); (try clear c7); (try clear c8); (try clear c9); (try clear c18); obtain ⟨kq, x40_8, rfl, HA, HJ8, HO_4, HO_6, HO_7, HB⟩ := hcut
   cases kq with
   | zero => exact absurd HA.out (by simp [laws_FnExactHidden.j0])
   | succ kj8 =>
    have H := HA.out; clear HA; simp only [laws_FnExactHidden.j0] at H; by_cases c23 : x40_8 = true
    ·subst c23
     have H1 : (some false) = some r := by rw [if_pos rfl] at H; exact H
     clear H; have H := H1; clear H1; obtain rfl := Option.some.inj H; go_wp2; go_ret; exact ⟨eqq, qb HB⟩
    ·replace c23 := Bool.eq_false_iff.mpr c23; subst c23
     have H1 : ((laws_toClauseS.f kj8 l0).bind fun t279 => ((laws_eqClauseS.f kj8 t271 t279).bind fun t282 => (if t282 = true then ((laws_markClauseS.f kj8 t271 1).bind fun t283 => (if t283 < 0 then (laws_FnExactHidden.j1 kj8 l0 t267 t268 t274 true) else ((laws_eqIntS.f kj8 t274 t267).bind fun t284 => (if t284 = true then (laws_FnExactHidden.j1 kj8 l0 t267 t268 t274 (t275 != t268)) else (laws_FnExactHidden.j1 kj8 l0 t267 t268 t274 true))))) else (some false)))) = some r := by rw [if_neg (show ¬ (false = true) by decide)] at H; exact H
     clear H; have H := H1; clear H1; replace H := Option.bind_eq_some_iff.mp H; obtain ⟨t279, A240, H⟩ := H; replace H : ((laws_eqClauseS.f kj8 t271 t279).bind fun t282 => (if t282 = true then ((laws_markClauseS.f kj8 t271 1).bind fun t283 => (if t283 < 0 then (laws_FnExactHidden.j1 kj8 l0 t267 t268 t274 true) else ((laws_eqIntS.f kj8 t274 t267).bind fun t284 => (if t284 = true then (laws_FnExactHidden.j1 kj8 l0 t267 t268 t274 (t275 != t268)) else (laws_FnExactHidden.j1 kj8 l0 t267 t268 t274 true))))) else (some false))) = some r := H; have A24 := Aside0.mk A240; clear A240; replace H := Option.bind_eq_some_iff.mp H; obtain ⟨t282, A250, H⟩ := H; replace H : (if t282 = true then ((laws_markClauseS.f kj8 t271 1).bind fun t283 => (if t283 < 0 then (laws_FnExactHidden.j1 kj8 l0 t267 t268 t274 true) else ((laws_eqIntS.f kj8 t274 t267).bind fun t284 => (if t284 = true then (laws_FnExactHidden.j1 kj8 l0 t267 t268 t274 (t275 != t268)) else (laws_FnExactHidden.j1 kj8 l0 t267 t268 t274 true))))) else (some false)) = some r := H; have A25 := Aside0.mk A250; clear A250; by_cases c26 : t282 = true
     ·subst c26
      have H1 : ((laws_markClauseS.f kj8 t271 1).bind fun t283 => (if t283 < 0 then (laws_FnExactHidden.j1 kj8 l0 t267 t268 t274 true) else ((laws_eqIntS.f kj8 t274 t267).bind fun t284 => (if t284 = true then (laws_FnExactHidden.j1 kj8 l0 t267 t268 t274 (t275 != t268)) else (laws_FnExactHidden.j1 kj8 l0 t267 t268 t274 true))))) = some r := by rw [if_pos rfl] at H; exact H
      clear H; have H := H1; clear H1; replace H := Option.bind_eq_some_iff.mp H; obtain ⟨t283, A270, H⟩ := H; replace H : (if t283 < 0 then (laws_FnExactHidden.j1 kj8 l0 t267 t268 t274 true) else ((laws_eqIntS.f kj8 t274 t267).bind fun t284 => (if t284 = true then (laws_FnExactHidden.j1 kj8 l0 t267 t268 t274 (t275 != t268)) else (laws_FnExactHidden.j1 kj8 l0 t267 t268 t274 true)))) = some r := H; have A27 := Aside0.mk A270; clear A270; have HC28 := Aside0.mk H; clear H
      go_upto_region 14 with (first | ((with_reducible refine gate_callee (f := 7) rfl ?_); refine goesL_ (some 43) rfl rfl Try.func7 (by kernel_rfl) rfl #[.slice A0 l0.length c0] rfl mq ?_; (with_reducible refine (laws_toClauseS.calls kj8 _ _ l0 t279 _ ?side1 ?side2 A24.out).mono ?_); (case side1 => repeat (first | exact (Kd.C_below HR0.out HB.out) | (with_reducible refine Kd.C_alloc ?_ _) | (with_reducible refine Kd.C_drewN ?_ _) | (with_reducible refine Kd.C_drew ?_))); (case side2 => exact HC0.out); rintro e w29 ⟨v280, rfl, ho0, hb⟩; refine ⟨_, rfl, ?_⟩; have n0_ := Aside0.mk (Kd.R_below (qr HO_4) hb); have n1_ := Aside0.mk (Kd.S_elder' (qs HO_6) (Kd.S_base ho0) hb); have n2_ := Aside0.mk (Kd.R_below (qr HO_7) hb); have n3_ := Aside0.mk (Kd.S_lower (Kd.S_new' ho0 (Kd.S_lt (qs HO_6))) (below_size (qb HB))); have n4_ := Aside0.mk (below_step (qb HB) hb); clear HO_4; clear HO_6; clear HO_7; clear HB; have HO_4 := n0_; have HO_6 := n1_; have HO_7 := n2_; have HO281 := n3_; have HB := n4_; clear n0_ n1_ n2_ n3_ n4_; (try clear hb); (try clear hb2); (try clear hk); (try clear hi); (try clear ho0); obtain ⟨Ao30, co30, eo30⟩ := Kd.S_slice HO281.out; subst eo30) | ((with_reducible refine gate_callee (f := 10) rfl ?_); refine goesL_ (some 44) rfl rfl Try.func10 (by kernel_rfl) rfl #[.slice Ao15 t271.length co15, .slice Ao30 t279.length co30] rfl mq ?_; (with_reducible refine (laws_eqClauseS.calls kj8 _ _ t271 _ _ t279 true _ ?side1 ?side2 ?side3 ?side4 A25.out).mono ?_); (case side1 => repeat (first | exact (Kd.S_reads' HO_6.out).2.2 | (with_reducible refine Kd.C_alloc ?_ _) | (with_reducible refine Kd.C_drewN ?_ _) | (with_reducible refine Kd.C_drew ?_))); (case side2 => exact (Kd.S_reads' HO_6.out).2.1); (case side3 => repeat (first | exact (Kd.S_reads' HO281.out).2.2 | (with_reducible refine Kd.C_alloc ?_ _) | (with_reducible refine Kd.C_drewN ?_ _) | (with_reducible refine Kd.C_drew ?_))); (case side4 => exact (Kd.S_reads' HO281.out).2.1); rintro e w31 ⟨rfl, hb⟩; refine ⟨_, rfl, ?_⟩; have n0_ := Aside0.mk (Kd.R_below (qr HO_4) hb); have n1_ := Aside0.mk (Kd.S_below (qs HO_6) hb); have n2_ := Aside0.mk (Kd.R_below (qr HO_7) hb); have n3_ := Aside0.mk (Kd.S_below (qs HO281) hb); have n4_ := Aside0.mk (below_step (qb HB) hb); clear HO_4; clear HO_6; clear HO_7; clear HO281; clear HB; have HO_4 := n0_; have HO_6 := n1_; have HO_7 := n2_; have HO281 := n3_; have HB := n4_; clear n0_ n1_ n2_ n3_ n4_; (try clear hb); (try clear hb2); (try clear hk); (try clear hi)) | ((with_reducible refine gate_callee (f := 11) rfl ?_); refine goesL_ (some 48) rfl rfl Try.func11 (by kernel_rfl) rfl #[.slice Ao15 t271.length co15, .int .i64 1] rfl mq ?_; (with_reducible refine (laws_markClauseS.calls kj8 (fun k_ => some k_ = (.slice Ao15 t271.length co15 : Value).ownBlock) (.slice Ao15 t271.length co15) t271 1 t283 w _ ?side1 ?side2 A27.out).mono ?_); (case side1 => repeat (first | (with_reducible first | exact HB.out | apply below_alloc | apply pw_below_drewN | apply below_drew1) | exact HB.out)); (case side2 => exact ⟨_, HO_6.out⟩); rintro e w32 ⟨rfl, hb, hkp⟩; refine ⟨_, rfl, ?_⟩; have n0_ := Aside0.mk (Kd.R_mono (ok' := fun k_ => some k_ ≠ (v276 : Value).ownBlock) (Kd.R_keptB ((R_apartT (e' := 47) (Kd.R_apart' HO_4.out (Kd.S_typed HO_6.out) (by decide)) (by decide))) hkp (fun k_ hk_ hs_ => Or.elim hs_ (fun e_ => (hk_.1.2) e_) (fun e_ => (hk_.2) e_))) (fun k_ hk_ => hk_.1.1.1)); have n1_ := Aside0.mk (Kd.R_mono (ok' := fun k_ => some k_ ≠ (v269 : Value).ownBlock) (Kd.R_keptB ((R_apartT (e' := 47) (Kd.R_apart' HO_7.out (Kd.S_typed HO_6.out) (by decide)) (by decide))) hkp (fun k_ hk_ hs_ => Or.elim hs_ (fun e_ => (hk_.1.2) e_) (fun e_ => (hk_.2) e_))) (fun k_ hk_ => hk_.1.1.1)); have n2_ := Aside0.mk (hb); clear HO_4; clear HO_7; clear HB; clear HO_6; clear HO281; have HO_4 := n0_; have HO_7 := n1_; have HB := n2_; clear n0_ n1_ n2_; (try clear hb); (try clear hkp)))
      (try simp only [Act.put, sA, s0, sS])
      go_cut [61] (fun v61 wc => ∃ (kq : Nat) (x61_27 : Bool), v61 = .bool x61_27 ∧ Aside0 (laws_FnExactHidden.j1 kq l0 t267 t268 t274 x61_27 = some r) ∧ Aside0 (kq ≤ kj8) ∧ Aside0 (Kd.R (Kd.int .i64) 3 wc w.heap.size (fun k_ => some k_ ≠ (v276 : Value).ownBlock) v269 t267) ∧ Aside0 (Kd.R (Kd.int .i64) 3 wc w.heap.size (fun k_ => some k_ ≠ (v269 : Value).ownBlock) v276 t274) ∧ Aside0 (Below w.heap.size w wc))
      case first =>
       have H := HC28.out; clear HC28; by_cases c33 : t283 < 0
       ·rw [if_pos c33] at H; have c33b0 : decide (t283 < 0) = true := decide_eq_true c33; clear c33
        (first | rw [c33b0] | (simp only [i64_w, i32_w]; rw [c33b0]) | skip)
        have H' := Aside0.mk H; clear H; go_wp2
        go_meet
        case rel => exact ⟨_, (true), (by first | rfl | (simp; done) | (simp [*]; done)), H', ⟨by have := HJ8.out; first | omega | exact Nat.le_refl _⟩, ⟨by (with_reducible repeat (first | apply Kd.R_alloc | apply Kd.R_drewN | apply Kd.R_drew)); exact HO_4.out⟩, ⟨by (with_reducible repeat (first | apply Kd.R_alloc | apply Kd.R_drewN | apply Kd.R_drew)); exact HO_7.out⟩, ⟨qb HB⟩⟩
       ·rw [if_neg c33] at H; have c33b0 : decide (t283 < 0) = false := decide_eq_false c33; clear c33
        (first | rw [c33b0] | (simp only [i64_w, i32_w]; rw [c33b0]) | skip)
        replace H := Option.bind_eq_some_iff.mp H; obtain ⟨t284, A340, H⟩ := H; replace H : (if t284 = true then (laws_FnExactHidden.j1 kj8 l0 t267 t268 t274 (t275 != t268)) else (laws_FnExactHidden.j1 kj8 l0 t267 t268 t274 true)) = some r := H; have A34 := Aside0.mk A340; clear A340; by_cases c35 : t284 = true
        ·subst c35
         have H1 : (laws_FnExactHidden.j1 kj8 l0 t267 t268 t274 (t275 != t268)) = some r := by rw [if_pos rfl] at H; exact H
         clear H; have H := H1; clear H1; have H' := Aside0.mk H; clear H; obtain ⟨Ao36, co36, eo36⟩ := Kd.R_slice HO_7.out; subst eo36; obtain ⟨Ao37, co37, eo37⟩ := Kd.R_slice HO_4.out; subst eo37
         go_wp2_with (first | (go_at_call 9; (with_reducible refine (laws_eqIntS.calls kj8 _ _ t274 _ _ t267 true _ ?side1 ?side2 ?side3 ?side4 A34.out).mono ?_); (case side1 => repeat (first | exact (Kd.R_reads' HO_7.out).2.2 | (with_reducible refine Kd.C_alloc ?_ _) | (with_reducible refine Kd.C_drewN ?_ _) | (with_reducible refine Kd.C_drew ?_))); (case side2 => exact (Kd.R_reads' HO_7.out).2.1); (case side3 => repeat (first | exact (Kd.R_reads' HO_4.out).2.2 | (with_reducible refine Kd.C_alloc ?_ _) | (with_reducible refine Kd.C_drewN ?_ _) | (with_reducible refine Kd.C_drew ?_))); (case side4 => exact (Kd.R_reads' HO_4.out).2.1); rintro e w' ⟨rfl, ⟨nd, rfl⟩⟩))
         go_meet
         case rel => exact ⟨_, ((t275 != t268)), (by first | rfl | (simp; done) | (simp [*]; done)), H', ⟨by have := HJ8.out; first | omega | exact Nat.le_refl _⟩, ⟨by (with_reducible repeat (first | apply Kd.R_alloc | apply Kd.R_drewN | apply Kd.R_drew)); exact HO_4.out⟩, ⟨by (with_reducible repeat (first | apply Kd.R_alloc | apply Kd.R_drewN | apply Kd.R_drew)); exact HO_7.out⟩, ⟨qb HB⟩⟩
        ·replace c35 := Bool.eq_false_iff.mpr c35; subst c35
         have H1 : (laws_FnExactHidden.j1 kj8 l0 t267 t268 t274 true) = some r := by rw [if_neg (show ¬ (false = true) by decide)] at H; exact H
         clear H; have H := H1; clear H1; have H' := Aside0.mk H; clear H; obtain ⟨Ao38, co38, eo38⟩ := Kd.R_slice HO_7.out; subst eo38; obtain ⟨Ao39, co39, eo39⟩ := Kd.R_slice HO_4.out; subst eo39
         go_wp2_with (first | (go_at_call 9; (with_reducible refine (laws_eqIntS.calls kj8 _ _ t274 _ _ t267 false _ ?side1 ?side2 ?side3 ?side4 A34.out).mono ?_); (case side1 => repeat (first | exact (Kd.R_reads' HO_7.out).2.2 | (with_reducible refine Kd.C_alloc ?_ _) | (with_reducible refine Kd.C_drewN ?_ _) | (with_reducible refine Kd.C_drew ?_))); (case side2 => exact (Kd.R_reads' HO_7.out).2.1); (case side3 => repeat (first | exact (Kd.R_reads' HO_4.out).2.2 | (with_reducible refine Kd.C_alloc ?_ _) | (with_reducible refine Kd.C_drewN ?_ _) | (with_reducible refine Kd.C_drew ?_))); (case side4 => exact (Kd.R_reads' HO_4.out).2.1); rintro e w' ⟨rfl, ⟨nd, rfl⟩⟩))
         go_meet
         case rel => exact ⟨_, (true), (by first | rfl | (simp; done) | (simp [*]; done)), H', ⟨by have := HJ8.out; first | omega | exact Nat.le_refl _⟩, ⟨by (with_reducible repeat (first | apply Kd.R_alloc | apply Kd.R_drewN | apply Kd.R_drew)); exact HO_4.out⟩, ⟨by (with_reducible repeat (first | apply Kd.R_alloc | apply Kd.R_drewN | apply Kd.R_drew)); exact HO_7.out⟩, ⟨qb HB⟩⟩
      case rest =>
       clear HC28; (try clear c1); (try clear c2); (try clear p2); (try clear c3); (try clear c3b0); (try clear c5); (try clear c6); (try clear c7); (try clear c8); (try clear c9); (try clear c10); (try clear c11); (try clear c18); (try clear c23); (try clear c26); (try clear c33); (try clear c33b0); (try clear c35); (try clear p2); obtain ⟨kq, x61_27, rfl, HA, HJ27, HO_4, HO_7, HB⟩ := hcut
       cases kq with
       | zero => exact absurd HA.out (by simp [laws_FnExactHidden.j1])
       | succ kj27 =>
        have H := HA.out; clear HA; simp only [laws_FnExactHidden.j1] at H; by_cases c40 : x61_27 = true
        ·subst c40
         have H1 : (some false) = some r := by rw [if_pos rfl] at H; exact H
         clear H; have H := H1; clear H1; obtain rfl := Option.some.inj H; go_wp2; go_ret; exact ⟨eqq, qb HB⟩
        ·replace c40 := Bool.eq_false_iff.mpr c40; subst c40
         have H1 : ((laws_markIntS.f kj27 t274 1).bind fun bt285 => ((laws_heldIntS.f kj27 bt285.2 1).bind fun t287 => (if t287 < 0 then (some false) else (if t287 = bt285.1 then ((laws_toClauseS.f kj27 l0).bind fun t288 => ((impl_Hidden.f kj27 t288).bind fun bt291 => ((laws_eqIntS.f kj27 bt291.1 t267).bind fun t295 => (if t295 = true then (laws_FnExactHidden.j2 kj27 bt285.2 bt285.1 (bt291.2 != t268)) else (laws_FnExactHidden.j2 kj27 bt285.2 bt285.1 true))))) else (some false))))) = some r := by rw [if_neg (show ¬ (false = true) by decide)] at H; exact H
         clear H; have H := H1; clear H1; replace H := Option.bind_eq_some_iff.mp H; obtain ⟨⟨t285, t286⟩, A410, H⟩ := H; replace H : ((laws_heldIntS.f kj27 t286 1).bind fun t287 => (if t287 < 0 then (some false) else (if t287 = t285 then ((laws_toClauseS.f kj27 l0).bind fun t288 => ((impl_Hidden.f kj27 t288).bind fun bt291 => ((laws_eqIntS.f kj27 bt291.1 t267).bind fun t295 => (if t295 = true then (laws_FnExactHidden.j2 kj27 t286 t285 (bt291.2 != t268)) else (laws_FnExactHidden.j2 kj27 t286 t285 true))))) else (some false)))) = some r := H; have A41 := Aside0.mk A410; clear A410; replace H := Option.bind_eq_some_iff.mp H; obtain ⟨t287, A420, H⟩ := H; replace H : (if t287 < 0 then (some false) else (if t287 = t285 then ((laws_toClauseS.f kj27 l0).bind fun t288 => ((impl_Hidden.f kj27 t288).bind fun bt291 => ((laws_eqIntS.f kj27 bt291.1 t267).bind fun t295 => (if t295 = true then (laws_FnExactHidden.j2 kj27 t286 t285 (bt291.2 != t268)) else (laws_FnExactHidden.j2 kj27 t286 t285 true))))) else (some false))) = some r := H; have A42 := Aside0.mk A420; clear A420; by_cases c43 : t287 < 0
         ·rw [if_pos c43] at H; have c43b0 : decide (t287 < 0) = true := decide_eq_true c43; clear c43; obtain rfl := Option.some.inj H; obtain ⟨Ao44, co44, eo44⟩ := Kd.R_slice HO_7.out; subst eo44
          go_wp2_with (first | ((with_reducible refine gate_callee (f := 12) rfl ?_); refine goesL_ (some 64) rfl rfl Try.func12 (by kernel_rfl) rfl #[.slice Ao44 t274.length co44, .int .i64 1] rfl mq ?_; (with_reducible refine (laws_markIntS.calls kj27 (fun k_ => some k_ = (.slice Ao44 t274.length co44 : Value).ownBlock) (.slice Ao44 t274.length co44) t274 1 t285 t286 w _ ?side1 ?side2 A41.out).mono ?_); (case side1 => repeat (first | (with_reducible first | exact HB.out | apply below_alloc | apply pw_below_drewN | apply below_drew1) | exact HB.out)); (case side2 => exact Kd.R_tight rfl HO_7.out); rintro e w45 ⟨rfl, hy0, hb, hkp⟩; refine ⟨_, rfl, ?_⟩; have n0_ := Aside0.mk (Kd.R_mono (ok' := fun k_ => some k_ ≠ (.slice Ao44 t274.length co44 : Value).ownBlock) (Kd.R_keptB (HO_4.out) hkp (fun k_ hk_ hs_ => (hk_) hs_)) (fun k_ hk_ => hk_.1)); have n1_ := Aside0.mk (Kd.R_reok rfl hy0 (fun k_ e_ => HO_7.out.1 k_ e_)); have n2_ := Aside0.mk (hb); clear HO_4; clear HO_7; clear HB; have HO_4 := n0_; have HO_7 := n1_; have HB := n2_; clear n0_ n1_ n2_; (try clear hb); (try clear hkp); (try clear hy0)) | ((with_reducible refine gate_callee (f := 13) rfl ?_); refine goesL_ (some 67) rfl rfl Try.func13 (by kernel_rfl) rfl #[.slice Ao44 t286.length co44, .int .i64 1] rfl (by (try simp only [List.map_toArray, List.map_cons, List.map_nil]); first | done | (rw [show t286.length = t274.length from (Kd.R_reads' HO_7.out).1.symm] <;> rfl) | rfl | (simp only [List.length_drop, List.length_take]; rfl)) ?_; (with_reducible refine (laws_heldIntS.calls kj27 _ _ t286 1 t287 _ ?side1 ?side2 A42.out).mono ?_); (case side1 => repeat (first | exact (Kd.R_reads' HO_7.out).2.2 | (with_reducible refine Kd.C_alloc ?_ _) | (with_reducible refine Kd.C_drewN ?_ _) | (with_reducible refine Kd.C_drew ?_))); (case side2 => rw [show t286.length = t274.length from (Kd.R_reads' HO_7.out).1.symm]; exact (Kd.R_reads' HO_7.out).2.1); rintro e w' ⟨rfl, ⟨nd, rfl⟩⟩; refine ⟨_, rfl, ?_⟩))
          go_ret; exact ⟨eqq, qb HB⟩
         ·rw [if_neg c43] at H; have c43b0 : decide (t287 < 0) = false := decide_eq_false c43; clear c43; by_cases c46 : t287 = t285
          ·rw [if_pos c46] at H; have c46b0 : (t287 == t285) = true := beq_iff_eq.mpr c46; have c46b1 : (t287 != t285) = false := bne_eq_false_iff_eq.mpr c46; clear c46; replace H := Option.bind_eq_some_iff.mp H; obtain ⟨t288, A470, H⟩ := H; replace H : ((impl_Hidden.f kj27 t288).bind fun bt291 => ((laws_eqIntS.f kj27 bt291.1 t267).bind fun t295 => (if t295 = true then (laws_FnExactHidden.j2 kj27 t286 t285 (bt291.2 != t268)) else (laws_FnExactHidden.j2 kj27 t286 t285 true)))) = some r := H; have A47 := Aside0.mk A470; clear A470; replace H := Option.bind_eq_some_iff.mp H; obtain ⟨⟨t291, t292⟩, A480, H⟩ := H; replace H : ((laws_eqIntS.f kj27 t291 t267).bind fun t295 => (if t295 = true then (laws_FnExactHidden.j2 kj27 t286 t285 (t292 != t268)) else (laws_FnExactHidden.j2 kj27 t286 t285 true))) = some r := H; have A48 := Aside0.mk A480; clear A480; have HC49 := Aside0.mk H; clear H; obtain ⟨Ao50, co50, eo50⟩ := Kd.R_slice HO_7.out; subst eo50
           go_upto_region 25 with (first | ((with_reducible refine gate_callee (f := 12) rfl ?_); refine goesL_ (some 64) rfl rfl Try.func12 (by kernel_rfl) rfl #[.slice Ao50 t274.length co50, .int .i64 1] rfl mq ?_; (with_reducible refine (laws_markIntS.calls kj27 (fun k_ => some k_ = (.slice Ao50 t274.length co50 : Value).ownBlock) (.slice Ao50 t274.length co50) t274 1 t285 t286 w _ ?side1 ?side2 A41.out).mono ?_); (case side1 => repeat (first | (with_reducible first | exact HB.out | apply below_alloc | apply pw_below_drewN | apply below_drew1) | exact HB.out)); (case side2 => exact Kd.R_tight rfl HO_7.out); rintro e w51 ⟨rfl, hy0, hb, hkp⟩; refine ⟨_, rfl, ?_⟩; have n0_ := Aside0.mk (Kd.R_mono (ok' := fun k_ => some k_ ≠ (.slice Ao50 t274.length co50 : Value).ownBlock) (Kd.R_keptB (HO_4.out) hkp (fun k_ hk_ hs_ => (hk_) hs_)) (fun k_ hk_ => hk_.1)); have n1_ := Aside0.mk (Kd.R_reok rfl hy0 (fun k_ e_ => HO_7.out.1 k_ e_)); have n2_ := Aside0.mk (hb); clear HO_4; clear HO_7; clear HB; have HO_4 := n0_; have HO_7 := n1_; have HB := n2_; clear n0_ n1_ n2_; (try clear hb); (try clear hkp); (try clear hy0)) | ((with_reducible refine gate_callee (f := 13) rfl ?_); refine goesL_ (some 67) rfl rfl Try.func13 (by kernel_rfl) rfl #[.slice Ao50 t286.length co50, .int .i64 1] rfl (by (try simp only [List.map_toArray, List.map_cons, List.map_nil]); first | done | (rw [show t286.length = t274.length from (Kd.R_reads' HO_7.out).1.symm] <;> rfl) | rfl | (simp only [List.length_drop, List.length_take]; rfl)) ?_; (with_reducible refine (laws_heldIntS.calls kj27 _ _ t286 1 t287 _ ?side1 ?side2 A42.out).mono ?_); (case side1 => repeat (first | exact (Kd.R_reads' HO_7.out).2.2 | (with_reducible refine Kd.C_alloc ?_ _) | (with_reducible refine Kd.C_drewN ?_ _) | (with_reducible refine Kd.C_drew ?_))); (case side2 => rw [show t286.length = t274.length from (Kd.R_reads' HO_7.out).1.symm]; exact (Kd.R_reads' HO_7.out).2.1); rintro e w' ⟨rfl, ⟨nd, rfl⟩⟩; refine ⟨_, rfl, ?_⟩) | ((with_reducible refine gate_callee (f := 7) rfl ?_); refine goesL_ (some 75) rfl rfl Try.func7 (by kernel_rfl) rfl #[.slice A0 l0.length c0] rfl mq ?_; (with_reducible refine (laws_toClauseS.calls kj27 _ _ l0 t288 _ ?side1 ?side2 A47.out).mono ?_); (case side1 => repeat (first | exact (Kd.C_below HR0.out (qb HB)) | (with_reducible refine Kd.C_alloc ?_ _) | (with_reducible refine Kd.C_drewN ?_ _) | (with_reducible refine Kd.C_drew ?_))); (case side2 => exact HC0.out); rintro e w52 ⟨v289, rfl, ho0, hb⟩; refine ⟨_, rfl, ?_⟩; have n0_ := Aside0.mk (Kd.R_below (qr HO_4) hb); have n1_ := Aside0.mk (Kd.R_below (qr HO_7) hb); have n2_ := Aside0.mk (Kd.S_lower ho0 (below_size (qb HB))); have n3_ := Aside0.mk (below_step (qb HB) hb); clear HO_4; clear HO_7; clear HB; have HO_4 := n0_; have HO_7 := n1_; have HO290 := n2_; have HB := n3_; clear n0_ n1_ n2_ n3_; (try clear hb); (try clear hb2); (try clear hk); (try clear hi); (try clear ho0); obtain ⟨Ao53, co53, eo53⟩ := Kd.S_slice HO290.out; subst eo53) | ((with_reducible refine gate_callee (f := 8) rfl ?_); refine goesL_ (some 76) rfl rfl Try.func8 (by kernel_rfl) rfl #[.slice Ao53 t288.length co53] rfl mq ?_; (with_reducible refine (impl_Hidden.calls kj27 _ _ t288 t291 t292 _ ?side1 ?side2 A48.out).mono ?_); (case side1 => repeat (first | exact (Kd.S_reads' HO290.out).2.2 | (with_reducible refine Kd.C_alloc ?_ _) | (with_reducible refine Kd.C_drewN ?_ _) | (with_reducible refine Kd.C_drew ?_))); (case side2 => exact (Kd.S_reads' HO290.out).2.1); rintro e w54 ⟨v293, rfl, ho0, hb⟩; refine ⟨_, rfl, ?_⟩; have n0_ := Aside0.mk (Kd.R_elder' (qr HO_4) (Kd.R_base ho0) hb); have n1_ := Aside0.mk (Kd.R_elder' (qr HO_7) (Kd.R_base ho0) hb); have n2_ := Aside0.mk (Kd.S_below (qs HO290) hb); have n3_ := Aside0.mk (Kd.R_lower (Kd.R_new' (Kd.R_new' ho0 (Kd.R_lt (qr HO_4))) (Kd.R_lt (qr HO_7))) (below_size (qb HB))); have n4_ := Aside0.mk (below_step (qb HB) hb); clear HO_4; clear HO_7; clear HO290; clear HB; have HO_4 := n0_; have HO_7 := n1_; have HO290 := n2_; have HO294 := n3_; have HB := n4_; clear n0_ n1_ n2_ n3_ n4_; (try clear hb); (try clear hb2); (try clear hk); (try clear hi); (try clear ho0)))
           (try simp only [Act.put, sA, s0, sS])
           go_cut [87] (fun v87 wc => ∃ (kq : Nat) (x87_48 : Bool), v87 = .bool x87_48 ∧ Aside0 (laws_FnExactHidden.j2 kq t286 t285 x87_48 = some r) ∧ Aside0 (kq ≤ kj27) ∧ Aside0 (Kd.R (Kd.int .i64) 3 wc w.heap.size (fun _ => True) (.slice Ao50 t274.length co50) t286) ∧ Aside0 (Below w.heap.size w wc))
           case first =>
            have H := HC49.out; clear HC49; replace H := Option.bind_eq_some_iff.mp H; obtain ⟨t295, A550, H⟩ := H; replace H : (if t295 = true then (laws_FnExactHidden.j2 kj27 t286 t285 (t292 != t268)) else (laws_FnExactHidden.j2 kj27 t286 t285 true)) = some r := H; have A55 := Aside0.mk A550; clear A550; by_cases c56 : t295 = true
            ·subst c56
             have H1 : (laws_FnExactHidden.j2 kj27 t286 t285 (t292 != t268)) = some r := by rw [if_pos rfl] at H; exact H
             clear H; have H := H1; clear H1; have H' := Aside0.mk H; clear H; obtain ⟨Ao57, co57, eo57⟩ := Kd.R_slice HO294.out; subst eo57; obtain ⟨Ao58, co58, eo58⟩ := Kd.R_slice HO_4.out; subst eo58
             go_wp2_with (first | ((with_reducible refine gate_callee (f := 9) rfl ?_); refine goesL_ (some 81) rfl rfl Try.func9 (by kernel_rfl) rfl #[.slice Ao57 t291.length co57, .slice Ao58 t267.length co58] rfl mq ?_; (with_reducible refine (laws_eqIntS.calls kj27 _ _ t291 _ _ t267 true _ ?side1 ?side2 ?side3 ?side4 A55.out).mono ?_); (case side1 => repeat (first | exact (Kd.R_reads' HO294.out).2.2 | (with_reducible refine Kd.C_alloc ?_ _) | (with_reducible refine Kd.C_drewN ?_ _) | (with_reducible refine Kd.C_drew ?_))); (case side2 => exact (Kd.R_reads' HO294.out).2.1); (case side3 => repeat (first | exact (Kd.R_reads' HO_4.out).2.2 | (with_reducible refine Kd.C_alloc ?_ _) | (with_reducible refine Kd.C_drewN ?_ _) | (with_reducible refine Kd.C_drew ?_))); (case side4 => exact (Kd.R_reads' HO_4.out).2.1); rintro e w' ⟨rfl, ⟨nd, rfl⟩⟩; refine ⟨_, rfl, ?_⟩))
             go_meet
             case rel => exact ⟨_, ((t292 != t268)), (by first | rfl | (simp; done) | (simp [*]; done)), H', ⟨by have := HJ8.out; have := HJ27.out; first | omega | exact Nat.le_refl _⟩, ⟨by (with_reducible repeat (first | apply Kd.R_alloc | apply Kd.R_drewN | apply Kd.R_drew)); exact Kd.R_mono HO_7.out (fun _ hk => trivial)⟩, ⟨qb HB⟩⟩
            ·replace c56 := Bool.eq_false_iff.mpr c56; subst c56
             have H1 : (laws_FnExactHidden.j2 kj27 t286 t285 true) = some r := by rw [if_neg (show ¬ (false = true) by decide)] at H; exact H
             clear H; have H := H1; clear H1; have H' := Aside0.mk H; clear H; obtain ⟨Ao59, co59, eo59⟩ := Kd.R_slice HO294.out; subst eo59; obtain ⟨Ao60, co60, eo60⟩ := Kd.R_slice HO_4.out; subst eo60
             go_wp2_with (first | ((with_reducible refine gate_callee (f := 9) rfl ?_); refine goesL_ (some 81) rfl rfl Try.func9 (by kernel_rfl) rfl #[.slice Ao59 t291.length co59, .slice Ao60 t267.length co60] rfl mq ?_; (with_reducible refine (laws_eqIntS.calls kj27 _ _ t291 _ _ t267 false _ ?side1 ?side2 ?side3 ?side4 A55.out).mono ?_); (case side1 => repeat (first | exact (Kd.R_reads' HO294.out).2.2 | (with_reducible refine Kd.C_alloc ?_ _) | (with_reducible refine Kd.C_drewN ?_ _) | (with_reducible refine Kd.C_drew ?_))); (case side2 => exact (Kd.R_reads' HO294.out).2.1); (case side3 => repeat (first | exact (Kd.R_reads' HO_4.out).2.2 | (with_reducible refine Kd.C_alloc ?_ _) | (with_reducible refine Kd.C_drewN ?_ _) | (with_reducible refine Kd.C_drew ?_))); (case side4 => exact (Kd.R_reads' HO_4.out).2.1); rintro e w' ⟨rfl, ⟨nd, rfl⟩⟩; refine ⟨_, rfl, ?_⟩))
             go_meet
             case rel => exact ⟨_, (true), (by first | rfl | (simp; done) | (simp [*]; done)), H', ⟨by have := HJ8.out; have := HJ27.out; first | omega | exact Nat.le_refl _⟩, ⟨by (with_reducible repeat (first | apply Kd.R_alloc | apply Kd.R_drewN | apply Kd.R_drew)); exact Kd.R_mono HO_7.out (fun _ hk => trivial)⟩, ⟨qb HB⟩⟩
           case rest =>
            clear HC49; (try clear c1); (try clear c2); (try clear p2); (try clear c3); (try clear c3b0); (try clear c4); (try clear c5); (try clear c6); (try clear c7); (try clear c8); (try clear c9); (try clear c10); (try clear c11); (try clear c12); (try clear c13); (try clear c18); (try clear c23); (try clear c26); (try clear c33); (try clear c33b0); (try clear c35); (try clear c40); (try clear c43); (try clear c43b0); (try clear c46); (try clear c46b0); (try clear c46b1); (try clear c56); (try clear p2); obtain ⟨kq, x87_48, rfl, HA, HJ48, HO_7, HB⟩ := hcut; have hl7_48 := (Kd.R_reads' HO_7.out).1; rw [hl7_48] at HO_7
            (try simp only [hl7_48])
            cases kq with
            | zero => exact absurd HA.out (by simp [laws_FnExactHidden.j2])
            | succ kj48 =>
             have H := HA.out; clear HA; simp only [laws_FnExactHidden.j2] at H; by_cases c61 : x87_48 = true
             ·subst c61
              have H1 : (some false) = some r := by rw [if_pos rfl] at H; exact H
              clear H; have H := H1; clear H1; obtain rfl := Option.some.inj H; go_wp2; go_ret; exact ⟨eqq, qb HB⟩
             ·replace c61 := Bool.eq_false_iff.mpr c61; subst c61
              have H1 : ((laws_heldIntS.f kj48 t286 1).bind fun t296 => (if t296 < 0 then (some false) else (if t296 = t285 then (some true) else (some false)))) = some r := by rw [if_neg (show ¬ (false = true) by decide)] at H; exact H
              clear H; have H := H1; clear H1; replace H := Option.bind_eq_some_iff.mp H; obtain ⟨t296, A620, H⟩ := H; replace H : (if t296 < 0 then (some false) else (if t296 = t285 then (some true) else (some false))) = some r := H; have A62 := Aside0.mk A620; clear A620; by_cases c63 : t296 < 0
              ·rw [if_pos c63] at H; have c63b0 : decide (t296 < 0) = true := decide_eq_true c63; clear c63; obtain rfl := Option.some.inj H
               go_wp2_with (first | ((with_reducible refine gate_callee (f := 13) rfl ?_); refine goesL_ (some 90) rfl rfl Try.func13 (by kernel_rfl) rfl #[.slice Ao50 t286.length co50, .int .i64 1] rfl mq ?_; (with_reducible refine (laws_heldIntS.calls kj48 _ _ t286 1 t296 _ ?side1 ?side2 A62.out).mono ?_); (case side1 => repeat (first | exact (Kd.R_reads' HO_7.out).2.2 | (with_reducible refine Kd.C_alloc ?_ _) | (with_reducible refine Kd.C_drewN ?_ _) | (with_reducible refine Kd.C_drew ?_))); (case side2 => exact (Kd.R_reads' HO_7.out).2.1); rintro e w' ⟨rfl, ⟨nd, rfl⟩⟩; refine ⟨_, rfl, ?_⟩))
               go_ret; exact ⟨eqq, qb HB⟩
              ·rw [if_neg c63] at H; have c63b0 : decide (t296 < 0) = false := decide_eq_false c63; clear c63; by_cases c64 : t296 = t285
               ·rw [if_pos c64] at H; have c64b0 : (t296 == t285) = true := beq_iff_eq.mpr c64; have c64b1 : (t296 != t285) = false := bne_eq_false_iff_eq.mpr c64; clear c64; obtain rfl := Option.some.inj H
                go_wp2_with (first | ((with_reducible refine gate_callee (f := 13) rfl ?_); refine goesL_ (some 90) rfl rfl Try.func13 (by kernel_rfl) rfl #[.slice Ao50 t286.length co50, .int .i64 1] rfl mq ?_; (with_reducible refine (laws_heldIntS.calls kj48 _ _ t286 1 t296 _ ?side1 ?side2 A62.out).mono ?_); (case side1 => repeat (first | exact (Kd.R_reads' HO_7.out).2.2 | (with_reducible refine Kd.C_alloc ?_ _) | (with_reducible refine Kd.C_drewN ?_ _) | (with_reducible refine Kd.C_drew ?_))); (case side2 => exact (Kd.R_reads' HO_7.out).2.1); rintro e w' ⟨rfl, ⟨nd, rfl⟩⟩; refine ⟨_, rfl, ?_⟩))
                go_ret; exact ⟨eqq, qb HB⟩
               ·rw [if_neg c64] at H; have c64b0 : (t296 == t285) = false := beq_eq_false_iff_ne.mpr c64; have c64b1 : (t296 != t285) = true := bne_iff_ne.mpr c64; obtain rfl := Option.some.inj H
                go_wp2_with (first | ((with_reducible refine gate_callee (f := 13) rfl ?_); refine goesL_ (some 90) rfl rfl Try.func13 (by kernel_rfl) rfl #[.slice Ao50 t286.length co50, .int .i64 1] rfl mq ?_; (with_reducible refine (laws_heldIntS.calls kj48 _ _ t286 1 t296 _ ?side1 ?side2 A62.out).mono ?_); (case side1 => repeat (first | exact (Kd.R_reads' HO_7.out).2.2 | (with_reducible refine Kd.C_alloc ?_ _) | (with_reducible refine Kd.C_drewN ?_ _) | (with_reducible refine Kd.C_drew ?_))); (case side2 => exact (Kd.R_reads' HO_7.out).2.1); rintro e w' ⟨rfl, ⟨nd, rfl⟩⟩; refine ⟨_, rfl, ?_⟩))
                go_ret; exact ⟨eqq, qb HB⟩
          ·rw [if_neg c46] at H; have c46b0 : (t287 == t285) = false := beq_eq_false_iff_ne.mpr c46; have c46b1 : (t287 != t285) = true := bne_iff_ne.mpr c46; obtain rfl := Option.some.inj H; obtain ⟨Ao65, co65, eo65⟩ := Kd.R_slice HO_7.out; subst eo65
           go_wp2_with (first | ((with_reducible refine gate_callee (f := 12) rfl ?_); refine goesL_ (some 64) rfl rfl Try.func12 (by kernel_rfl) rfl #[.slice Ao65 t274.length co65, .int .i64 1] rfl mq ?_; (with_reducible refine (laws_markIntS.calls kj27 (fun k_ => some k_ = (.slice Ao65 t274.length co65 : Value).ownBlock) (.slice Ao65 t274.length co65) t274 1 t285 t286 w _ ?side1 ?side2 A41.out).mono ?_); (case side1 => repeat (first | (with_reducible first | exact HB.out | apply below_alloc | apply pw_below_drewN | apply below_drew1) | exact HB.out)); (case side2 => exact Kd.R_tight rfl HO_7.out); rintro e w66 ⟨rfl, hy0, hb, hkp⟩; refine ⟨_, rfl, ?_⟩; have n0_ := Aside0.mk (Kd.R_mono (ok' := fun k_ => some k_ ≠ (.slice Ao65 t274.length co65 : Value).ownBlock) (Kd.R_keptB (HO_4.out) hkp (fun k_ hk_ hs_ => (hk_) hs_)) (fun k_ hk_ => hk_.1)); have n1_ := Aside0.mk (Kd.R_reok rfl hy0 (fun k_ e_ => HO_7.out.1 k_ e_)); have n2_ := Aside0.mk (hb); clear HO_4; clear HO_7; clear HB; have HO_4 := n0_; have HO_7 := n1_; have HB := n2_; clear n0_ n1_ n2_; (try clear hb); (try clear hkp); (try clear hy0)) | ((with_reducible refine gate_callee (f := 13) rfl ?_); refine goesL_ (some 67) rfl rfl Try.func13 (by kernel_rfl) rfl #[.slice Ao65 t286.length co65, .int .i64 1] rfl (by (try simp only [List.map_toArray, List.map_cons, List.map_nil]); first | done | (rw [show t286.length = t274.length from (Kd.R_reads' HO_7.out).1.symm] <;> rfl) | rfl | (simp only [List.length_drop, List.length_take]; rfl)) ?_; (with_reducible refine (laws_heldIntS.calls kj27 _ _ t286 1 t287 _ ?side1 ?side2 A42.out).mono ?_); (case side1 => repeat (first | exact (Kd.R_reads' HO_7.out).2.2 | (with_reducible refine Kd.C_alloc ?_ _) | (with_reducible refine Kd.C_drewN ?_ _) | (with_reducible refine Kd.C_drew ?_))); (case side2 => rw [show t286.length = t274.length from (Kd.R_reads' HO_7.out).1.symm]; exact (Kd.R_reads' HO_7.out).2.1); rintro e w' ⟨rfl, ⟨nd, rfl⟩⟩; refine ⟨_, rfl, ?_⟩))
           go_ret; exact ⟨eqq, qb HB⟩
     ·replace c26 := Bool.eq_false_iff.mpr c26; subst c26
      have H1 : (some false) = some r := by rw [if_neg (show ¬ (false = true) by decide)] at H; exact H
      clear H; have H := H1; clear H1; obtain rfl := Option.some.inj H
      go_wp2_with (first | ((with_reducible refine gate_callee (f := 7) rfl ?_); refine goesL_ (some 43) rfl rfl Try.func7 (by kernel_rfl) rfl #[.slice A0 l0.length c0] rfl mq ?_; (with_reducible refine (laws_toClauseS.calls kj8 _ _ l0 t279 _ ?side1 ?side2 A24.out).mono ?_); (case side1 => repeat (first | exact (Kd.C_below HR0.out HB.out) | (with_reducible refine Kd.C_alloc ?_ _) | (with_reducible refine Kd.C_drewN ?_ _) | (with_reducible refine Kd.C_drew ?_))); (case side2 => exact HC0.out); rintro e w67 ⟨v280, rfl, ho0, hb⟩; refine ⟨_, rfl, ?_⟩; have n0_ := Aside0.mk (Kd.R_below (qr HO_4) hb); have n1_ := Aside0.mk (Kd.S_elder' (qs HO_6) (Kd.S_base ho0) hb); have n2_ := Aside0.mk (Kd.R_below (qr HO_7) hb); have n3_ := Aside0.mk (Kd.S_lower (Kd.S_new' ho0 (Kd.S_lt (qs HO_6))) (below_size (qb HB))); have n4_ := Aside0.mk (below_step (qb HB) hb); clear HO_4; clear HO_6; clear HO_7; clear HB; have HO_4 := n0_; have HO_6 := n1_; have HO_7 := n2_; have HO281 := n3_; have HB := n4_; clear n0_ n1_ n2_ n3_ n4_; (try clear hb); (try clear hb2); (try clear hk); (try clear hi); (try clear ho0); obtain ⟨Ao68, co68, eo68⟩ := Kd.S_slice HO281.out; subst eo68) | ((with_reducible refine gate_callee (f := 10) rfl ?_); refine goesL_ (some 44) rfl rfl Try.func10 (by kernel_rfl) rfl #[.slice Ao15 t271.length co15, .slice Ao68 t279.length co68] rfl mq ?_; (with_reducible refine (laws_eqClauseS.calls kj8 _ _ t271 _ _ t279 false _ ?side1 ?side2 ?side3 ?side4 A25.out).mono ?_); (case side1 => repeat (first | exact (Kd.S_reads' HO_6.out).2.2 | (with_reducible refine Kd.C_alloc ?_ _) | (with_reducible refine Kd.C_drewN ?_ _) | (with_reducible refine Kd.C_drew ?_))); (case side2 => exact (Kd.S_reads' HO_6.out).2.1); (case side3 => repeat (first | exact (Kd.S_reads' HO281.out).2.2 | (with_reducible refine Kd.C_alloc ?_ _) | (with_reducible refine Kd.C_drewN ?_ _) | (with_reducible refine Kd.C_drew ?_))); (case side4 => exact (Kd.S_reads' HO281.out).2.1); rintro e w69 ⟨rfl, hb⟩; refine ⟨_, rfl, ?_⟩; have n0_ := Aside0.mk (Kd.R_below (qr HO_4) hb); have n1_ := Aside0.mk (Kd.S_below (qs HO_6) hb); have n2_ := Aside0.mk (Kd.R_below (qr HO_7) hb); have n3_ := Aside0.mk (Kd.S_below (qs HO281) hb); have n4_ := Aside0.mk (below_step (qb HB) hb); clear HO_4; clear HO_6; clear HO_7; clear HO281; clear HB; have HO_4 := n0_; have HO_6 := n1_; have HO_7 := n2_; have HO281 := n3_; have HB := n4_; clear n0_ n1_ n2_ n3_ n4_; (try clear hb); (try clear hb2); (try clear hk); (try clear hi)))
      go_ret; exact ⟨eqq, qb HB⟩

end Go.Proofs.Ytbmpkggjcnmieaa.PAll
