/- FnTaxes is true for every code of bytes: longer ones are let by by the law's own guard; drawn rows are right and have a rate for each class on the drawn day, so the program tells a book; its rows are the sums of the lines, class by class, and do not hang on the order of the lines. -/
import Derived.Test.YtgmohjegijndeaaPAllx0
import Derived.Test.YtgmohjegijndeaaPAllx11
import Derived.Test.YtgmohjegijndeaaPAllx3
import Derived.Test.YtgmohjegijndeaaTaxDraw
import Derived.Test.YtgmohjegijndeaaTaxSums
import Derived.Test.YtgmohjegijndeaaTaxTurn
import Derived.Test.YtgmohjegijndeaaRndNear
namespace Go.Proofs.Ytgmohjegijndeaa.Pure
open Go.RowKit Go.Proofs.Ytgmohjegijndeaa Go.Proofs.Ytgmohjegijndeaa.PAll Go.Proofs.YtgmohjegijndeaaW.PrintWords Go.Proofs.YtgmohjegijndeaaW.PrintLast

theorem rdBTaxLine {l : List S45} {i : Nat} (h : i < l.length) : rd_T45 l (i : Int) = l[i] := by
  unfold rd_T45
  rw [Int.toNat_natCast, List.getD_eq_getElem?_getD, List.getElem?_eq_getElem h]; rfl

theorem rdBTaxSum {l : List S47} {i : Nat} (h : i < l.length) : rd_T47 l (i : Int) = l[i] := by
  unfold rd_T47
  rw [Int.toNat_natCast, List.getD_eq_getElem?_getD, List.getElem?_eq_getElem h]; rfl

def north : ByteArray := ⟨#[110, 111, 114, 116, 104]⟩

/-- What the law asks of a row of the book. -/
structure RowOK (rows : List S66) (day : Int) (b : S47) : Prop where
  parts : b.f2 + b.f3 = b.f1
  money : -1000000000 ≤ b.f1 ∧ b.f1 ≤ 1000000000
  rate : ∃ n d : Int, (∀ k, 4500 ≤ k → impl_TaxAt.f k rows b.f0 north day = some (n, d, 0)) ∧ (0 ≤ n ∧ n ≤ 10000) ∧ (1 ≤ d ∧ d ≤ 10000) ∧ -(d + n) ≤ 2 * (b.f3 * (d + n) - b.f1 * n) ∧ 2 * (b.f3 * (d + n) - b.f1 * n) ≤ d + n

theorem law_rows (rows : List S66) (day : Int) (book : List S47) (hlen : book.length ≤ 9) (ha : book.Pairwise (fun a b => a.f0 < b.f0)) (hr : ∀ b ∈ book, RowOK rows day b) : ∀ d i k, i + d = book.length → 2 * d + 4600 < k →
    laws_FnTaxes.l1 k rows day book (tot (book.drop i)) book (i : Int) = some true := by
  intro d
  induction d with
  | zero =>
    intro i k hi hk
    obtain ⟨k, rfl⟩ : ∃ m, k = m + 1 := ⟨k - 1, by omega⟩
    rw [laws_FnTaxes.l1, if_neg (by omega), List.drop_eq_nil_of_le (by omega)]
    rfl
  | succ d ih =>
    intro i k hi hk
    obtain ⟨k, rfl⟩ : ∃ m, k = m + 2 := ⟨k - 2, by omega⟩
    have hib : i < book.length := by omega
    have R := hr _ (List.getElem_mem hib)
    have hp : i = 0 ∨ (0 < i ∧ (book[i-1]'(by omega)).f0 < book[i].f0) := by
      rcases Nat.eq_zero_or_pos i with h | h
      · exact .inl h
      · exact .inr ⟨h, (List.pairwise_iff_getElem.1 ha) (i-1) i (by omega) hib (by omega)⟩
    have ts := tot_small 1000000000 (book.drop (i + 1)) (fun x hx => (hr x (List.mem_of_mem_drop hx)).money)
    rw [List.length_drop] at ts
    have it := ih (i + 1) k (by omega) (by omega)
    obtain ⟨n, dd, hT, n0, d0, g0, g1⟩ := R.rate
    have mo := R.money
    rw [show (k + 2) = (k + 1) + 1 from rfl, laws_FnTaxes.l1, if_pos (by omega), if_pos (by omega), rdBTaxSum hib]
    have hT' := hT (k + 1) (by omega)
    unfold north at hT'
    rw [hT']
    simp only [Option.bind_some]
    rw [if_pos trivial, if_pos (by omega), if_neg (by simp)]
    have hb := R.parts
    rw [w64 (x := book[i].f2 + book[i].f3) (by omega) (by omega), if_pos hb]
    have fin : laws_FnTaxes.j3 (k + 1) rows day book (tot (book.drop i)) book (i : Int) false book[i].f0 book[i].f1 book[i].f2 book[i].f3 n dd = some true := by
      have m1 := mul_bd mo.1 mo.2 n0.1 n0.2 (by omega)
      rw [laws_FnTaxes.j3, if_neg (by decide), w64 (x := dd + n) (by omega) (by omega)]
      generalize hq : book[i].f3 * (dd + n) = q at *
      generalize hq2 : book[i].f1 * n = q2 at *
      rw [w64 (x := q) (by omega) (by omega), w64 (x := q2) (by omega) (by omega), w64 (x := q - q2) (by omega) (by omega), w64 (x := 2 * (q - q2)) (by omega) (by omega), w64 (x := -(2 * (q - q2))) (by omega) (by omega), if_neg (by omega), if_neg (by omega)]
      have hd : tot (book.drop i) = book[i].f1 + tot (book.drop (i + 1)) := by rw [List.drop_eq_getElem_cons hib, tot]
      rw [hd, w64 (by omega) (by omega), w64 (x := (i : Int) + 1) (by omega) (by omega), show book[i].f1 + tot (book.drop (i + 1)) - book[i].f1 = tot (book.drop (i + 1)) by omega]
      exact it
    rcases hp with h | ⟨h, h'⟩
    · rw [if_neg (by omega)]; exact fin
    · rw [if_pos (by omega), w64 (x := (i : Int) - 1) (by omega) (by omega), if_pos (by omega), if_pos (by omega), show (i : Int) - 1 = ((i - 1 : Nat) : Int) by omega, rdBTaxSum (by omega), decide_eq_false (by omega)]
      exact fin

theorem law_turn (rows : List S66) (lines : List S45) (day : Int) (book : List S47) (hl : lines.length ≤ 12) (hx : ∀ x ∈ lines, -5000 ≤ x.f1 ∧ x.f1 ≤ 5000) (hb : bookB rows north day lines = (book, 0)) (hgo : ∀ k, 4700 ≤ k → laws_FnTaxes.l1 k rows day book (totL lines) book 0 = some true) :
    ∀ m k, m ≤ lines.length → m + 4710 < k → laws_FnTaxes.l0 k rows lines day book ((lines.drop m).reverse) (totL (lines.drop m)) ((m : Int) - 1) = some true := by
  intro m
  induction m with
  | zero =>
    intro k _ hk
    obtain ⟨k, rfl⟩ : ∃ m, k = m + 2 := ⟨k - 2, by omega⟩
    have e := implBook_is rows north day lines.reverse (k + 1) (by omega)
    rw [bookB_reverse, hb] at e
    unfold north at e
    rw [show (k + 2) = (k + 1) + 1 from rfl, laws_FnTaxes.l0, if_neg (by omega), List.drop_zero, e]
    simp only [Option.bind_some]
    rw [if_pos trivial, laws_FnTaxes.j1]
    rw [if_neg (by simp)]
    exact hgo k (by omega)
  | succ m ih =>
    intro k hm hk
    obtain ⟨k, rfl⟩ : ∃ m, k = m + 1 := ⟨k - 1, by omega⟩
    have hml : m < lines.length := by omega
    have it := ih k (by omega) (by omega)
    have hd : lines.drop m = lines[m] :: lines.drop (m + 1) := List.drop_eq_getElem_cons hml
    have hs := totL_small (lines.drop (m + 1)) (fun x h => hx x (List.mem_of_mem_drop h))
    have hs0 := hx _ (List.getElem_mem hml)
    rw [List.length_drop] at hs
    rw [laws_FnTaxes.l0, show ((m + 1 : Nat) : Int) - 1 = (m : Int) by omega, if_pos (by omega), if_pos (by omega), if_pos (by omega), if_pos (by rw [List.length_reverse, List.length_drop]; omega), rdBTaxLine hml, w64 (x := totL (lines.drop (m + 1)) + lines[m].f1) (by omega) (by omega), w64 (x := (m : Int) - 1) (by omega) (by omega)]
    rw [hd, List.reverse_cons, totL, show lines[m].f1 + totL (lines.drop (m + 1)) = totL (lines.drop (m + 1)) + lines[m].f1 by omega] at it
    exact it

theorem implAt_is (rows : List S66) (c day : Int) (ht : taxesB rows = true) (k : Nat) (hk : 4500 ≤ k) : impl_TaxAt.f k rows c north day = some (taxAtB rows c north day) := by
  obtain ⟨k, rfl⟩ : ∃ m, k = m + 1 := ⟨k - 1, by omega⟩
  have hl := taxesB_len ht
  unfold impl_TaxAt.f impl_TaxRow_29.f
  rw [texts_is]
  simp only [Option.bind_some]
  rw [decide_eq_true (show (rows.length : Int) ≤ 4096 by omega), if_pos rfl, decide_eq_true (show north.size ≤ 65536 by decide), impl_TaxAt.j0]
  simp only [Bool.not_true, Bool.false_eq_true, if_false]
  rw [implTaxes_is _ _ (by omega), ht]
  simp only [Option.bind_some, if_true]
  rw [implTaxAt_is rows c north day (taxGo_all rows rows 0 hl.2)]
  simp only [Option.bind_some]

theorem cov_rate (rows : List S66) (c day : Int) (own : ByteArray) (h : cov rows c day = true) : (taxAtB rows c own day).2.2 = 0 := by
  have hb := (firstAt_any (fitT c ⟨#[]⟩ day) rows 0 (by omega)).2 h
  unfold taxAtB
  simp only
  by_cases ga : firstAt (fitT c own day) rows 0 ≥ 0
  · rw [if_pos ga]
  · rw [if_neg ga, if_pos hb]

theorem FnTaxes : laws_FnTaxes.Pure := by
  intro l0 _ _ hb
  by_cases hl : (l0.length : Int) > 1048576
  · refine ⟨0, ?_⟩
    unfold laws_FnTaxes.f
    rw [if_pos hl]
  obtain ⟨K, ⟨rows, lines, day⟩, D, hk⟩ := taxesOf_ends (l := l0) (by omega) hb
  have Drows : taxesB rows = true := D.rows
  have Dfull : ∀ c d, 1 ≤ c → c ≤ 3 → 0 ≤ d → d < 200 → cov rows c d = true := D.full
  have Dfew : lines.length ≤ 12 := D.few
  have Dline : ∀ x ∈ lines, goodLine x := D.line
  have Dday : 0 ≤ day ∧ day < 200 := ⟨D.day0, D.day1⟩
  have hall : lines.all lineB = true := by
    rw [List.all_eq_true]; intro x hx
    have := Dline x hx
    unfold goodLine at this
    unfold lineB
    rw [decide_eq_true (by omega), decide_eq_true (by omega)]; rfl
  have hx5 : ∀ x ∈ lines, -5000 ≤ x.f1 ∧ x.f1 ≤ 5000 := fun x hx => by
    have := Dline x hx
    unfold goodLine at this
    omega
  have hlr := taxesB_len Drows
  have hcl : ∀ c : Int, hasAt lines c = true → 1 ≤ c ∧ c ≤ 3 := by
    intro c h
    unfold hasAt at h
    rw [List.any_eq_true] at h
    obtain ⟨x, hx, he⟩ := h
    have := Dline x hx
    unfold goodLine at this
    have he' := of_decide_eq_true he
    omega
  have hcl0 : ∀ c : Nat, hasAt lines (c : Int) = true → (taxAtB rows (c : Int) north day).2.2 = 0 ∧ moneyB (sumAt lines (c : Int)) = true := by
    intro c h
    have h2 := hcl c h
    have sm := sumAt_small lines (c : Int) hx5
    refine ⟨cov_rate rows c day north (Dfull c day h2.1 h2.2 Dday.1 Dday.2), ?_⟩
    unfold moneyB
    rw [decide_eq_true (by omega)]
  have B : bookB rows north day lines = (bookRows (fun c => taxAtB rows (c : Int) north day) (fun c => sumAt lines (c : Int)) (fun c => hasAt lines (c : Int)) 9 1, 0) := by
    unfold bookB
    rw [if_pos ⟨by omega, by decide, by omega⟩, if_pos Drows, if_pos hall, bookGo_rows _ _ _ 9 1 [] (fun c _ _ h => hcl0 c h), List.nil_append]
  have hasc := bookRows_asc (fun c => taxAtB rows (c : Int) north day) (fun c => sumAt lines (c : Int)) (fun c => hasAt lines (c : Int)) 9 1
  have hlen := bookRows_len (fun c => taxAtB rows (c : Int) north day) (fun c => sumAt lines (c : Int)) (fun c => hasAt lines (c : Int)) 9 1
  have htot := tot_rows (fun c => taxAtB rows (c : Int) north day) lines 9 1
  rw [cls_all lines hall] at htot
  have hmem := bookRows_mem (fun c => taxAtB rows (c : Int) north day) (fun c => sumAt lines (c : Int)) (fun c => hasAt lines (c : Int)) 9 1
  generalize bookRows (fun c => taxAtB rows (c : Int) north day) (fun c => sumAt lines (c : Int)) (fun c => hasAt lines (c : Int)) 9 1 = book at *
  have hR : ∀ b ∈ book, RowOK rows day b := by
    intro b hbm
    obtain ⟨c, _, _, hT, rfl⟩ := hmem b hbm
    have h0 := hcl0 c hT
    have sm := sumAt_small lines (c : Int) hx5
    have hrb := rateB_bd (taxAtB_rate rows (c : Int) north day (taxGo_all rows rows 0 hlr.2) h0.1)
    have hn := rnd_near (sumAt lines (c : Int) * (taxAtB rows (c : Int) north day).1) ((taxAtB rows (c : Int) north day).2.1 + (taxAtB rows (c : Int) north day).1) (by omega)
    refine ⟨?_, ?_, (taxAtB rows (c : Int) north day).1, (taxAtB rows (c : Int) north day).2.1, fun k hk => ?_, hrb.1, hrb.2, ?_, ?_⟩
    · unfold sumRow splitB; simp only; omega
    · unfold sumRow splitB; simp only; omega
    · have e : taxAtB rows (c : Int) north day = ((taxAtB rows (c : Int) north day).1, (taxAtB rows (c : Int) north day).2.1, (0 : Int)) := by
        have := h0.1
        generalize taxAtB rows (c : Int) north day = t at *
        obtain ⟨a, b, d⟩ := t
        simp only at this
        rw [this]
      have := implAt_is rows (c : Int) day Drows k hk
      rw [e] at this
      exact this
    · exact hn.1
    · exact hn.2
  refine ⟨K + 6000, ?_⟩
  unfold laws_FnTaxes.f
  have hk1 := hk (K + 6000) (by omega)
  simp only at hk1
  rw [if_neg hl, hk1]
  simp only [Option.bind_some]
  rw [implTaxes_is rows _ (by omega), Drows]
  simp only [Option.bind_some, if_true]
  have e := implBook_is rows north day lines (K + 6000) (by omega)
  rw [B] at e
  unfold north at e
  rw [e]
  simp only [Option.bind_some]
  rw [if_pos trivial, w64 (by omega) (by omega)]
  have hgo : ∀ k, 4700 ≤ k → laws_FnTaxes.l1 k rows day book (totL lines) book 0 = some true := by
    intro k hk
    have := law_rows rows day book hlen hasc hR book.length 0 k (by omega) (by omega)
    rw [List.drop_zero, htot] at this
    exact this
  have := law_turn rows lines day book Dfew hx5 B hgo lines.length (K + 6000) (by omega) (by omega)
  rw [List.drop_eq_nil_of_le (by omega), List.reverse_nil, totL] at this
  exact this

end Go.Proofs.Ytgmohjegijndeaa.Pure
