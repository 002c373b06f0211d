/-
  Layer 20: statements as they are read, by rules; what the printed functions answer; something is always read.
-/
import Derived.Test.YtepekanlplbciaaQPs4
namespace Go.Proofs.Ytepekanlplbciaa.Q
open Go Go.AX

/-! ### the lists of statements -/
section
variable {ρ : Type} (k : Nat)

theorem li_api_Column__p0_fcolumn (kx : List (SColumn) → Sreader → Option ρ) : ∀ n, parse_list_api_Column__p0_fcolumn_l1 k kx n = gLi k (parse_reader_column_p0 k) id 32 kx n
  | 0 => rfl
  | n + 1 => by funext l r; simp only [parse_list_api_Column__p0_fcolumn_l1, parse_list_api_Column__p0_fcolumn_l1_b, gLi, li_api_Column__p0_fcolumn kx n]; try rfl
theorem li_string__p0_fname (kx : List (ByteArray) → Sreader → Option ρ) : ∀ n, parse_list_string__p0_fname_l1 k kx n = gLi k (parse_reader_name_p0 k) id 16 kx n
  | 0 => rfl
  | n + 1 => by funext l r; simp only [parse_list_string__p0_fname_l1, parse_list_string__p0_fname_l1_b, gLi, li_string__p0_fname kx n]; try rfl
theorem li_api_Expr__p0_fwhole (kx : List (TExpr) → Sreader → Option ρ) : ∀ n, parse_list_api_Expr__p0_fwhole_l1 k kx n = gLi k (parse_reader_whole_p0 k) SExpr.t 96 kx n
  | 0 => rfl
  | n + 1 => by funext l r; simp only [parse_list_api_Expr__p0_fwhole_l1, parse_list_api_Expr__p0_fwhole_l1_b, gLi, li_api_Expr__p0_fwhole kx n]; try rfl
theorem li_Lapi_Expr__p0_finsert_1 (kx : List (List TExpr) → Sreader → Option ρ) : ∀ n, parse_list_Lapi_Expr__p0_finsert_1_l1 k kx n = gLi k (parse_reader_insert_1_q0 k) id 24 kx n
  | 0 => rfl
  | n + 1 => by funext l r; simp only [parse_list_Lapi_Expr__p0_finsert_1_l1, parse_list_Lapi_Expr__p0_finsert_1_l1_b, gLi, li_Lapi_Expr__p0_finsert_1 kx n]; try rfl
theorem li_api_Set__p0_fupdate_1 (kx : List (SSet) → Sreader → Option ρ) : ∀ n, parse_list_api_Set__p0_fupdate_1_l1 k kx n = gLi k (parse_reader_update_1_q0 k) id 112 kx n
  | 0 => rfl
  | n + 1 => by funext l r; simp only [parse_list_api_Set__p0_fupdate_1_l1, parse_list_api_Set__p0_fupdate_1_l1_b, gLi, li_api_Set__p0_fupdate_1 kx n]; try rfl
theorem li_api_Order__p0_fquery_1 (kx : List (SOrder) → Sreader → Option ρ) : ∀ n, parse_list_api_Order__p0_fquery_1_l1 k kx n = gLi k (parse_reader_query_1_q0 k) id 104 kx n
  | 0 => rfl
  | n + 1 => by funext l r; simp only [parse_list_api_Order__p0_fquery_1_l1, parse_list_api_Order__p0_fquery_1_l1_b, gLi, li_api_Order__p0_fquery_1 kx n]; try rfl
end
theorem lst {α β : Type} {one : Sreader → β → Sreader → Prop} {el : β → α} {nx : Nat → Sreader → Option (β × Sreader)} (h1 : NoMore one) (hx : ∀ r a r1, r.f0.length ≤ 100000 → one r a r1 → Ev1 fun k => nx k r = some (a, r1)) (w : Nat) (hw : w ≤ 300) {q : List α} {r r' : Sreader} (h : PL one el [] r q r') (hl : r.f0.length ≤ 100000) :
    Ev1 fun k => gLi k (nx k) el w (fun l t => some (l, t)) k [] r = some (q, r') := by
  obtain ⟨D, g⟩ := gLi_eq (ρ := List α × Sreader) h1 hx w hw h (by simpa using hl)
  exact ⟨D, fun k hk => g k k hk hk _⟩
theorem PN_eq (r : Sreader) (s : ByteArray) (r' : Sreader) (_ : r.f0.length ≤ 100000) (h : PN r s r') : Ev1 fun k => parse_reader_name_p0 k r = some (s, r') := .of fun k hk => by rw [name_eq k (by omega)]; exact congrArg some h
theorem PC_eq (r : Sreader) (s : SColumn) (r' : Sreader) (_ : r.f0.length ≤ 100000) (h : PC r s r') : Ev1 fun k => parse_reader_column_p0 k r = some (s, r') := .of fun k hk => by rw [column_eq k (by omega)]; exact congrArg some h
theorem must1 (k : Nat) (hk : 100 ≤ k) (s : ByteArray) (r : Sreader) : parse_reader_must_p0 k [s] r = some ((), mustR [s] r) := must_eq k _ (by simp) (by simp; omega) r
theorem must2 (k : Nat) (hk : 100 ≤ k) (s t : ByteArray) (r : Sreader) : parse_reader_must_p0 k [s, t] r = some ((), mustR [s, t] r) := must_eq k _ (by simp) (by simp; omega) r
/-- Lists between parentheses. -/
theorem cols_eq {r r3 : Sreader} {q : List SColumn} (h : PL PC id [] (mustR [kOpen] r) q r3) (hl : r.f0.length ≤ 100000) : Ev1 fun k => parse_in_Lapi_Column__p0_fcreate_1 k r = some (q, mustR [kClose] r3) := by
  have hm := mustR_len [kOpen] r
  refine (lst (nx := parse_reader_column_p0) PC_len PC_eq 32 (by omega) h (by omega)).imp fun k hk g => ?_
  unfold parse_in_Lapi_Column__p0_fcreate_1 parse_reader_create_1_q0 parse_list_api_Column__p0_fcolumn
  rw [must1 k hk, some_bind, li_api_Column__p0_fcolumn]
  dsimp only
  rw [g, some_bind, some_bind, must1 k hk]; rfl
theorem nms_eq {r r3 : Sreader} {q : List ByteArray} (h : PL PN id [] r q r3) (hl : r.f0.length ≤ 100000) : Ev1 fun k => parse_list_string__p0_fname k r = some (q, r3) := by
  refine (lst (nx := parse_reader_name_p0) PN_len PN_eq 16 (by omega) h hl).imp fun k hk g => ?_
  unfold parse_list_string__p0_fname
  rw [li_string__p0_fname]
  exact g
theorem names_eq {r r3 : Sreader} {q : List ByteArray} (h : PL PN id [] (mustR [kOpen] r) q r3) (hl : r.f0.length ≤ 100000) : Ev1 fun k => parse_reader_names_p0 k r = some (q, mustR [kClose] r3) := by
  have hm := mustR_len [kOpen] r
  refine (nms_eq h (by omega)).imp fun k hk g => ?_
  unfold parse_reader_names_p0 parse_in_string__p0_fnames_1 parse_reader_names_1_q0
  rw [must1 k hk, some_bind, g]
  simp only [some_bind]
  rw [must1 k hk]; rfl
theorem exprs_eq {r r3 : Sreader} {q : List TExpr} (h : PL PW SExpr.t [] r q r3) (hl : r.f0.length ≤ 100000) : Ev1 fun k => parse_list_api_Expr__p0_fwhole k r = some (q, r3) := by
  refine (lst (nx := parse_reader_whole_p0) PW_len (fun _ _ _ _ h => whole_eq h) 96 (by omega) h hl).imp fun k hk g => ?_
  unfold parse_list_api_Expr__p0_fwhole
  rw [li_api_Expr__p0_fwhole]
  exact g
/-- A row. -/
def PRow (r : Sreader) (q : List TExpr) (r' : Sreader) : Prop := ∃ r3, PL PW SExpr.t [] (mustR [kOpen] r) q r3 ∧ r' = mustR [kClose] r3
theorem PRow_len : NoMore PRow := fun r q r' ⟨r3, h, he⟩ => by
  have h1 := mustR_len [kOpen] r
  have h2 := mustR_len [kClose] r3
  have h3 := (PL_len PW_len h).1
  rw [he]; omega
theorem PRow_tot : AlwaysR PRow := fun r => by
  obtain ⟨q, r3, h⟩ := PL_tot (el := SExpr.t) PW_len PW_tot _ [] (mustR [kOpen] r) (Nat.le_refl _)
  exact ⟨q, _, r3, h, rfl⟩
theorem row_eq (r : Sreader) (q : List TExpr) (r' : Sreader) (hl : r.f0.length ≤ 100000) (h : PRow r q r') : Ev1 fun k => parse_reader_insert_1_q0 k r = some (q, r') := by
  obtain ⟨r3, h, rfl⟩ := h
  have hm := mustR_len [kOpen] r
  refine (exprs_eq h (by omega)).imp fun k hk g => ?_
  unfold parse_reader_insert_1_q0 parse_in_Lapi_Expr__p0_finsert_1_1 parse_reader_insert_1_1_q0
  rw [must1 k hk, some_bind, g]
  simp only [some_bind]
  rw [must1 k hk]; rfl
/-- A new value. -/
def PSet (r : Sreader) (x : SSet) (r' : Sreader) : Prop := ∃ e, PW (mustR [kEq] (nameR r).2) e r' ∧ x = ⟨(nameR r).1, e⟩
theorem PSet_len : NoMore PSet := fun r x r' ⟨e, h, _⟩ => by
  have h1 := nameR_len r
  have h2 := mustR_len [kEq] (nameR r).2
  have h3 := PW_len _ _ _ h
  omega
theorem PSet_tot : AlwaysR PSet := fun r => by
  obtain ⟨e, r', h⟩ := PW_tot (mustR [kEq] (nameR r).2)
  exact ⟨_, r', e, h, rfl⟩
theorem set_eq (r : Sreader) (x : SSet) (r' : Sreader) (_ : r.f0.length ≤ 100000) (h : PSet r x r') : Ev1 fun k => parse_reader_update_1_q0 k r = some (x, r') := by
  obtain ⟨e, h, rfl⟩ := h
  refine (whole_eq h).imp fun k hk g => ?_
  unfold parse_reader_update_1_q0
  rw [name_eq k (by omega), some_bind, must1 k hk, some_bind, g]; rfl
/-- A key of an order. -/
def POrd (r : Sreader) (x : SOrder) (r' : Sreader) : Prop := ∃ e r1, PW r e r1 ∧ x = ⟨e, hd r1 kDesc⟩ ∧ r' = bif hd r1 kDesc then tl r1 else r1
theorem POrd_len : NoMore POrd := fun r x r' ⟨e, r1, h, _, he⟩ => by
  have h1 := PW_len _ _ _ h
  have h2 := tl_len r1
  rw [he]
  cases hd r1 kDesc with
  | true => rw [cond_true]; omega
  | false => exact h1
theorem POrd_tot : AlwaysR POrd := fun r => by
  obtain ⟨e, r1, h⟩ := PW_tot r
  exact ⟨_, _, e, r1, h, rfl, rfl⟩
theorem ord_eq (r : Sreader) (x : SOrder) (r' : Sreader) (_ : r.f0.length ≤ 100000) (h : POrd r x r') : Ev1 fun k => parse_reader_query_1_q0 k r = some (x, r') := by
  obtain ⟨e, r1, h, rfl, rfl⟩ := h
  refine (whole_eq h).imp fun k hk g => ?_
  unfold parse_reader_query_1_q0
  rw [g, some_bind, got_eq]; rfl
/-- A condition, or none. -/
inductive PWh : Sreader → List TExpr → Sreader → Prop
  | some {r r' : Sreader} {e : SExpr} : hd r kWhere = true → PW (tl r) e r' → PWh r [e.t] r'
  | none {r : Sreader} : hd r kWhere = false → PWh r [] r
theorem PWh_len : NoMore PWh := fun r x r' h => by
  cases h with
  | some _ h => have := PW_len _ _ _ h; have := tl_len r; omega
  | none _ => exact Nat.le_refl _
theorem PWh_tot : AlwaysR PWh := fun r => by
  cases h : hd r kWhere with
  | true =>
    obtain ⟨e, r', g⟩ := PW_tot (tl r)
    exact ⟨_, _, .some h g⟩
  | false => exact ⟨_, _, .none h⟩
theorem where_eq {r r' : Sreader} {l : List TExpr} (h : PWh r l r') : Ev1 fun k => parse_reader_where_p0 k r = some (l, r') := by
  cases h with
  | some hh h =>
    refine (whole_eq h).imp fun k hk g => ?_
    unfold parse_reader_where_p0
    rw [got_eq, some_bind, hh]
    simp only [cond_true]
    rw [g]; rfl
  | none hh =>
    refine .of fun k hk => ?_
    unfold parse_reader_where_p0
    rw [got_eq, some_bind, hh]; rfl

/-! ### what is made -/

inductive PCr : Sreader → SStmt → Sreader → Prop
  | table {q r3 : Sreader} {cols : List SColumn} : hd q kTable = true → PL PC id [] (mustR [kOpen] (nameR (tl q)).2) cols r3 →
      PCr q (⟨1, (nameR (tl q)).1, ByteArray.empty, false, cols, [], [], [], [], false, [], [], []⟩ : SStmt) (mostR (cols.length : Int) 16 (mustR [kClose] r3))
  | virt {q r6 : Sreader} {ns : List ByteArray} : hd q kTable = false → hd q kVirtual = true → PL PN id [] (mustR [kOpen] (mustR [kUsing, kRtree] (nameR (mustR [kTable] (tl q))).2)) ns r6 →
      PCr q (⟨2, (nameR (mustR [kTable] (tl q))).1, ByteArray.empty, false, (ns.map fun n => (⟨n, 2, true⟩ : SColumn)), [], [], [], [], false, [], [], []⟩ : SStmt) (bif (ns.length : Int) != 5 then badR (mustR [kClose] r6) else mustR [kClose] r6)
  | index {q r6 : Sreader} {ns : List ByteArray} : hd q kTable = false → hd q kVirtual = false → PL PN id [] (mustR [kOpen] (nameR (mustR [kOn] (nameR (mustR [kIndex] (bif hd q kUnique then tl q else q))).2)).2) ns r6 →
      PCr q (⟨3, (nameR (mustR [kIndex] (bif hd q kUnique then tl q else q))).1, (nameR (mustR [kOn] (nameR (mustR [kIndex] (bif hd q kUnique then tl q else q))).2)).1, (hd q kUnique), [], ns, [], [], [], false, [], [], []⟩ : SStmt) (mostR (ns.length : Int) 16 (mustR [kClose] r6))
theorem PCr_len : NoMore PCr := fun q s r' h => by
  have t1 := tl_len q
  cases h with
  | @table r3 cols _ h =>
    have h1 := nameR_len (tl q)
    have h2 := mustR_len [kOpen] (nameR (tl q)).2
    have h3 := mustR_len [kClose] r3
    have h4 := (PL_len PC_len h).1
    show (mustR [kClose] r3).f0.length ≤ _; omega
  | @virt r6 ns _ _ h =>
    have h0 := mustR_len [kTable] (tl q)
    have h1 := nameR_len (mustR [kTable] (tl q))
    have h2 := mustR_len [kUsing, kRtree] (nameR (mustR [kTable] (tl q))).2
    have h3 := mustR_len [kOpen] (mustR [kUsing, kRtree] (nameR (mustR [kTable] (tl q))).2)
    have h4 := (PL_len PN_len h).1
    have h5 := mustR_len [kClose] r6
    cases ((ns.length : Int) != 5) with
    | true => show (mustR [kClose] r6).f0.length ≤ _; omega
    | false => show (mustR [kClose] r6).f0.length ≤ _; omega
  | @index r6 ns _ _ h =>
    have h0 : (bif hd q kUnique then tl q else q).f0.length ≤ q.f0.length := by
      cases hd q kUnique with
      | true => rw [cond_true]; omega
      | false => exact Nat.le_refl _
    generalize (bif hd q kUnique then tl q else q) = q1 at h0 h
    have h1 := mustR_len [kIndex] q1
    have h2 := nameR_len (mustR [kIndex] q1)
    have h3 := mustR_len [kOn] (nameR (mustR [kIndex] q1)).2
    have h4 := nameR_len (mustR [kOn] (nameR (mustR [kIndex] q1)).2)
    have h5 := mustR_len [kOpen] (nameR (mustR [kOn] (nameR (mustR [kIndex] q1)).2)).2
    have h6 := (PL_len PN_len h).1
    have h7 := mustR_len [kClose] r6
    show (mustR [kClose] r6).f0.length ≤ _; omega
theorem PCr_tot : AlwaysR PCr := fun q => by
  cases h : hd q kTable with
  | true =>
    obtain ⟨c, r3, g⟩ := PL_tot (el := id) PC_len PC_tot _ [] (mustR [kOpen] (nameR (tl q)).2) (Nat.le_refl _)
    exact ⟨_, _, .table h g⟩
  | false =>
    cases h2 : hd q kVirtual with
    | true =>
      obtain ⟨c, r3, g⟩ := PL_tot (el := id) PN_len PN_tot _ [] (mustR [kOpen] (mustR [kUsing, kRtree] (nameR (mustR [kTable] (tl q))).2)) (Nat.le_refl _)
      exact ⟨_, _, .virt h h2 g⟩
    | false =>
      obtain ⟨c, r3, g⟩ := PL_tot (el := id) PN_len PN_tot _ [] (mustR [kOpen] (nameR (mustR [kOn] (nameR (mustR [kIndex] (bif hd q kUnique then tl q else q))).2)).2) (Nat.le_refl _)
      exact ⟨_, _, .index h h2 g⟩
/-- The columns of a box of four sides. -/
theorem virt_l17 {ρ : Type} (k : Nat) (kx : Int → ByteArray → ByteArray → Bool → List SColumn → List ByteArray → List (List TExpr) → List SSet → List ByteArray → Bool → List TExpr → List TExpr → List SOrder → Sreader → Option ρ)
    (ns : List ByteArray) (hn : ns.length ≤ 200000) (s0 : Int) (s1 s2 : ByteArray) (s3 : Bool) (s5 : List ByteArray) (s6 : List (List TExpr)) (s7 : List SSet) (s8 : List ByteArray) (s9 : Bool) (s10 s11 : List TExpr) (s12 : List SOrder) (r : Sreader) :
    ∀ (d n i : Nat) (c : List SColumn), i + d = ns.length → d < n → c.length = i → parse_reader_create_p0_l17 k kx n ns (ns.length : Int) (i : Int) s0 s1 s2 s3 c s5 s6 s7 s8 s9 s10 s11 s12 r =
      kx s0 s1 s2 s3 (c ++ (ns.drop i).map fun n => (⟨n, 2, true⟩ : SColumn)) s5 s6 s7 s8 s9 s10 s11 s12 r
  | 0, n + 1, i, c, hi, _, _ => by
    simp only [parse_reader_create_p0_l17, parse_reader_create_p0_l17_b]
    rw [decide_eq_false (by omega), cond_false, List.drop_eq_nil_of_le (by omega), List.map_nil, List.append_nil]
  | d + 1, n + 1, i, c, hi, hd', hc => by
    simp only [parse_reader_create_p0_l17, parse_reader_create_p0_l17_b]
    have hlt : i < ns.length := by omega
    rw [decide_eq_true (by omega), cond_true, chk_pos (by omega), Int.toNat_natCast, getD_get _ i _ hlt, chk_pos (by simp only [List.length_cons, List.length_nil]; omega), w64n (by omega),
      virt_l17 k kx ns hn s0 s1 s2 s3 s5 s6 s7 s8 s9 s10 s11 s12 r d n (i + 1) _ (by omega) (by omega) (by simp [hc]), List.drop_eq_getElem_cons hlt, List.map_cons, List.append_assoc]
    rfl
theorem create_eq {q r' : Sreader} {s : SStmt} (hl : q.f0.length ≤ 100000) (h : PCr q s r') : Ev1 fun k => parse_reader_create_p0 k q = some (s, r') := by
  have t1 := tl_len q
  cases h with
  | @table r3 cols hh h =>
    have h1 := nameR_len (tl q)
    refine (cols_eq h (by omega)).imp fun k hk g => ?_
    unfold parse_reader_create_p0
    rw [got_eq, some_bind, hh]
    simp only [cond_true]
    rw [name_eq k (by omega), some_bind, g, some_bind, most_eq]; rfl
  | @virt r6 ns hh hh2 h =>
    have h0 := mustR_len [kTable] (tl q)
    have h1 := nameR_len (mustR [kTable] (tl q))
    have h2 := mustR_len [kUsing, kRtree] (nameR (mustR [kTable] (tl q))).2
    have hm := mustR_len [kOpen] (mustR [kUsing, kRtree] (nameR (mustR [kTable] (tl q))).2)
    have hlen := (PL_len PN_len h).2
    simp only [List.length_nil] at hlen
    have hns : ns.length ≤ 200000 := by omega
    obtain ⟨D, g⟩ := names_eq h (by omega)
    refine ⟨D + ns.length + 100, fun k hk => ?_⟩
    show _ = _
    have g := g k (by omega)
    unfold parse_reader_create_p0
    rw [got_eq, some_bind, hh]
    simp only [cond_false]
    rw [got_eq, some_bind, hh2]
    simp only [cond_true]
    rw [must1 k (by omega), some_bind, name_eq k (by omega), some_bind, must2 k (by omega), some_bind, g, some_bind]
    refine (virt_l17 k _ ns hns _ _ _ _ _ _ _ _ _ _ _ _ _ ns.length k 0 [] (by omega) (by omega) rfl).trans ?_
    rw [List.drop_zero, List.nil_append, List.length_map]
    cases ((ns.length : Int) != 5) <;> rfl
  | @index r6 ns hh hh2 h =>
    have hq : (bif hd q kUnique then tl q else q).f0.length ≤ q.f0.length := by
      cases hd q kUnique with
      | true => rw [cond_true]; omega
      | false => exact Nat.le_refl _
    have h1 := mustR_len [kIndex] (bif hd q kUnique then tl q else q)
    have h2 := nameR_len (mustR [kIndex] (bif hd q kUnique then tl q else q))
    have h3 := mustR_len [kOn] (nameR (mustR [kIndex] (bif hd q kUnique then tl q else q))).2
    have h4 := nameR_len (mustR [kOn] (nameR (mustR [kIndex] (bif hd q kUnique then tl q else q))).2)
    refine (names_eq h (by omega)).imp fun k hk g => ?_
    unfold parse_reader_create_p0
    rw [got_eq, some_bind, hh]
    simp only [cond_false]
    rw [got_eq, some_bind, hh2]
    simp only [cond_false]
    rw [got_eq, some_bind, must1 k hk, some_bind, name_eq k (by omega), some_bind, must1 k hk, some_bind, name_eq k (by omega), some_bind, g, some_bind, most_eq]; rfl

/-! ### questions -/
inductive PQ : Sreader → SStmt → Sreader → Prop
  | mk {q r2 r4 r5 r8 : Sreader} {out wh : List TExpr} {frm : List ByteArray} {ord : List SOrder} :
      ((hd q kStar = true ∧ out = [] ∧ r2 = tl q) ∨ (hd q kStar = false ∧ PL PW SExpr.t [] q out r2)) → PL PN id [] (mustR [kFrom] r2) frm r4 → PWh r4 wh r5 →
      ((hd r5 kOrder = true ∧ PL POrd id [] (mustR [kBy] (tl r5)) ord r8) ∨ (hd r5 kOrder = false ∧ ord = [] ∧ r8 = r5)) →
      PQ q (⟨9, ByteArray.empty, ByteArray.empty, false, [], [], [], [], frm, (hd q kStar), out, wh, ord⟩ : SStmt) (mostR (ord.length : Int) 16 (mostR (frm.length : Int) 3 (mostR (out.length : Int) 16 r8)))
theorem PQ_len : NoMore PQ := fun q s r' h => by
  cases h with
  | @mk r2 r4 r5 r8 out wh frm ord h1 h2 h3 h4 =>
    have a1 : r2.f0.length ≤ q.f0.length := by
      rcases h1 with ⟨_, _, rfl⟩ | ⟨_, h⟩
      · rw [tl_len]; omega
      · exact (PL_len PW_len h).1
    have a2 := mustR_len [kFrom] r2
    have a3 := (PL_len PN_len h2).1
    have a4 := PWh_len _ _ _ h3
    have a5 : r8.f0.length ≤ r5.f0.length := by
      rcases h4 with ⟨_, h⟩ | ⟨_, _, rfl⟩
      · have b1 := (PL_len POrd_len h).1
        have b2 := mustR_len [kBy] (tl r5)
        have b3 := tl_len r5
        omega
      · exact Nat.le_refl _
    show r8.f0.length ≤ _; omega
theorem PQ_tot : AlwaysR PQ := fun q => by
  have h1 : ∃ out r2, (hd q kStar = true ∧ out = [] ∧ r2 = tl q) ∨ (hd q kStar = false ∧ PL PW SExpr.t [] q out r2) := by
    cases hd q kStar with
    | true => exact ⟨_, _, .inl ⟨rfl, rfl, rfl⟩⟩
    | false =>
      obtain ⟨l, r, g⟩ := PL_tot (el := SExpr.t) PW_len PW_tot _ [] q (Nat.le_refl _)
      exact ⟨l, r, .inr ⟨rfl, g⟩⟩
  obtain ⟨out, r2, h1⟩ := h1
  obtain ⟨frm, r4, h2⟩ := PL_tot (el := id) PN_len PN_tot _ [] (mustR [kFrom] r2) (Nat.le_refl _)
  obtain ⟨wh, r5, h3⟩ := PWh_tot r4
  have h4 : ∃ ord r8, (hd r5 kOrder = true ∧ PL POrd id [] (mustR [kBy] (tl r5)) ord r8) ∨ (hd r5 kOrder = false ∧ ord = [] ∧ r8 = r5) := by
    cases hd r5 kOrder with
    | true =>
      obtain ⟨l, r, g⟩ := PL_tot (el := id) POrd_len POrd_tot _ [] (mustR [kBy] (tl r5)) (Nat.le_refl _)
      exact ⟨l, r, .inl ⟨rfl, g⟩⟩
    | false => exact ⟨_, _, .inr ⟨rfl, rfl, rfl⟩⟩
  obtain ⟨ord, r8, h4⟩ := h4
  exact ⟨_, _, .mk h1 h2 h3 h4⟩
theorem ords_eq {r r3 : Sreader} {q : List SOrder} (h : PL POrd id [] r q r3) (hl : r.f0.length ≤ 100000) : Ev1 fun k => parse_list_api_Order__p0_fquery_1 k r = some (q, r3) := by
  refine (lst (nx := parse_reader_query_1_q0) POrd_len ord_eq 104 (by omega) h hl).imp fun k hk g => ?_
  unfold parse_list_api_Order__p0_fquery_1
  rw [li_api_Order__p0_fquery_1]
  exact g
theorem query_j4 {r2 r4 r5 r8 : Sreader} {wh : List TExpr} {frm : List ByteArray} {ord : List SOrder} (hl : r2.f0.length ≤ 100000) (h2 : PL PN id [] (mustR [kFrom] r2) frm r4) (h3 : PWh r4 wh r5)
    (h4 : (hd r5 kOrder = true ∧ PL POrd id [] (mustR [kBy] (tl r5)) ord r8) ∨ (hd r5 kOrder = false ∧ ord = [] ∧ r8 = r5)) (out : List TExpr) (star : Bool) (t2 : SStmt) :
    Ev1 fun k => parse_reader_query_p0_j4 k (fun a b => some (a, b)) t2 (⟨9, ByteArray.empty, ByteArray.empty, false, [], [], [], [], [], star, out, [], []⟩ : SStmt) r2 = some ((⟨9, ByteArray.empty, ByteArray.empty, false, [], [], [], [], frm, star, out, wh, ord⟩ : SStmt), mostR (ord.length : Int) 16 (mostR (frm.length : Int) 3 (mostR (out.length : Int) 16 r8))) := by
  have a2 := mustR_len [kFrom] r2
  have a3 := (PL_len PN_len h2).1
  have a4 := PWh_len _ _ _ h3
  obtain ⟨D1, g1⟩ := nms_eq h2 (by omega)
  obtain ⟨D2, g2⟩ := where_eq h3
  rcases h4 with ⟨hh, h⟩ | ⟨hh, rfl, rfl⟩
  · have b2 := mustR_len [kBy] (tl r5)
    have b3 := tl_len r5
    obtain ⟨D3, g3⟩ := ords_eq h (by omega)
    refine ⟨D1 + D2 + D3 + 100, fun k hk => ?_⟩
    show _ = _
    unfold parse_reader_query_p0_j4
    rw [must1 k (by omega), some_bind, g1 k (by omega), some_bind, g2 k (by omega), some_bind, got_eq, some_bind, hh]
    simp only [cond_true]
    rw [must1 k (by omega), some_bind, g3 k (by omega), some_bind]
    unfold parse_reader_query_p0_j10
    rw [most_eq, some_bind, most_eq, some_bind, most_eq]; rfl
  · refine ⟨D1 + D2 + 100, fun k hk => ?_⟩
    show _ = _
    unfold parse_reader_query_p0_j4
    rw [must1 k (by omega), some_bind, g1 k (by omega), some_bind, g2 k (by omega), some_bind, got_eq, some_bind, hh]
    simp only [cond_false]
    unfold parse_reader_query_p0_j10
    rw [most_eq, some_bind, most_eq, some_bind, most_eq]; rfl
theorem query_eq {q r' : Sreader} {s : SStmt} (hl : q.f0.length ≤ 100000) (h : PQ q s r') : Ev1 fun k => parse_reader_query_p0 k q = some (s, r') := by
  cases h with
  | @mk r2 r4 r5 r8 out wh frm ord h1 h2 h3 h4 =>
    rcases h1 with ⟨hh, rfl, rfl⟩ | ⟨hh, h⟩
    · have t1 := tl_len q
      refine (query_j4 (by omega) h2 h3 h4 [] true (⟨0, ByteArray.empty, ByteArray.empty, false, [], [], [], [], [], false, [], [], []⟩ : SStmt)).imp fun k hk g => ?_
      unfold parse_reader_query_p0
      rw [got_eq, some_bind, hh]
      simp only [Bool.not_true, cond_false, cond_true]
      exact g
    · have t1 := (PL_len PW_len h).1
      obtain ⟨D1, g1⟩ := exprs_eq h hl
      obtain ⟨D2, g2⟩ := query_j4 (by omega) h2 h3 h4 out false (⟨0, ByteArray.empty, ByteArray.empty, false, [], [], [], [], [], false, [], [], []⟩ : SStmt)
      refine ⟨D1 + D2, fun k hk => ?_⟩
      show _ = _
      unfold parse_reader_query_p0
      rw [got_eq, some_bind, hh]
      simp only [Bool.not_false, cond_false, cond_true]
      rw [g1 k (by omega), some_bind]
      exact g2 k (by omega)

/-! ### statements -/
noncomputable def stL : List Soper := [⟨kCreate, 1⟩, ⟨kDrop, 2⟩, ⟨kInsert, 3⟩, ⟨kDelete, 4⟩, ⟨kUpdate, 5⟩, ⟨kSelect, 6⟩, ⟨kBegin, 7⟩, ⟨kCommit, 8⟩, ⟨kRollback, 9⟩]
noncomputable def dropR (q : Sreader) : SStmt × Sreader := bif hd q kTable then ((⟨4, (nameR (tl q)).1, ByteArray.empty, false, [], [], [], [], [], false, [], [], []⟩ : SStmt), (nameR (tl q)).2) else ((⟨5, (nameR (mustR [kIndex] q)).1, ByteArray.empty, false, [], [], [], [], [], false, [], [], []⟩ : SStmt), (nameR (mustR [kIndex] q)).2)
def rowsR (l : List (List TExpr)) (r : Sreader) : Sreader := l.foldl (fun r x => mostR (x.length : Int) 16 r) r
inductive PS : Sreader → SStmt → Sreader → Prop
  | none {r : Sreader} : findOp stL r = none → PS r (⟨0, ByteArray.empty, ByteArray.empty, false, [], [], [], [], [], false, [], [], []⟩ : SStmt) (badR r)
  | create {r r' : Sreader} {s : SStmt} : findOp stL r = some 1 → PCr (tl r) s r' → PS r s r'
  | drop {r : Sreader} : findOp stL r = some 2 → PS r (dropR (tl r)).1 (dropR (tl r)).2
  | insert {r r4 : Sreader} {rows : List (List TExpr)} : findOp stL r = some 3 → PL PRow id [] (mustR [kValues] (nameR (mustR [kInto] (tl r))).2) rows r4 → PS r (⟨6, ByteArray.empty, (nameR (mustR [kInto] (tl r))).1, false, [], [], rows, [], [], false, [], [], []⟩ : SStmt) (rowsR rows r4)
  | delete {r r' : Sreader} {wh : List TExpr} : findOp stL r = some 4 → PWh (nameR (mustR [kFrom] (tl r))).2 wh r' → PS r (⟨7, ByteArray.empty, (nameR (mustR [kFrom] (tl r))).1, false, [], [], [], [], [], false, [], wh, []⟩ : SStmt) r'
  | update {r r3 r' : Sreader} {sets : List SSet} {wh : List TExpr} : findOp stL r = some 5 → PL PSet id [] (mustR [kSet] (nameR (tl r)).2) sets r3 → PWh (mostR (sets.length : Int) 16 r3) wh r' → PS r (⟨8, ByteArray.empty, (nameR (tl r)).1, false, [], [], [], sets, [], false, [], wh, []⟩ : SStmt) r'
  | select {r r' : Sreader} {s : SStmt} : findOp stL r = some 6 → PQ (tl r) s r' → PS r s r'
  | begin {r : Sreader} : findOp stL r = some 7 → PS r (⟨10, ByteArray.empty, ByteArray.empty, false, [], [], [], [], [], false, [], [], []⟩ : SStmt) (tl r)
  | commit {r : Sreader} : findOp stL r = some 8 → PS r (⟨11, ByteArray.empty, ByteArray.empty, false, [], [], [], [], [], false, [], [], []⟩ : SStmt) (tl r)
  | rollback {r : Sreader} : findOp stL r = some 9 → PS r (⟨12, ByteArray.empty, ByteArray.empty, false, [], [], [], [], [], false, [], [], []⟩ : SStmt) (tl r)
theorem st_cases {r : Sreader} {n : Int} (h : findOp stL r = some n) : n = 1 ∨ n = 2 ∨ n = 3 ∨ n = 4 ∨ n = 5 ∨ n = 6 ∨ n = 7 ∨ n = 8 ∨ n = 9 := by
  unfold stL at h
  simp only [findOp] at h
  repeat' (split at h)
  all_goals (repeat' (first | (cases h; done) | (revert h; cases hd r _ <;> intro h <;> simp only [cond_true, cond_false] at h)))
  all_goals simp_all
theorem PS_tot : AlwaysR PS := fun r => by
  cases h : findOp stL r with
  | none => exact ⟨_, _, .none h⟩
  | some n =>
    rcases st_cases h with rfl | rfl | rfl | rfl | rfl | rfl | rfl | rfl | rfl
    · obtain ⟨s, r', g⟩ := PCr_tot (tl r); exact ⟨_, _, .create h g⟩
    · exact ⟨_, _, .drop h⟩
    · obtain ⟨l, r4, g⟩ := PL_tot (el := id) PRow_len PRow_tot _ [] (mustR [kValues] (nameR (mustR [kInto] (tl r))).2) (Nat.le_refl _)
      exact ⟨_, _, .insert h g⟩
    · obtain ⟨l, r4, g⟩ := PWh_tot (nameR (mustR [kFrom] (tl r))).2
      exact ⟨_, _, .delete h g⟩
    · obtain ⟨l, r3, g⟩ := PL_tot (el := id) PSet_len PSet_tot _ [] (mustR [kSet] (nameR (tl r)).2) (Nat.le_refl _)
      obtain ⟨w, r4, g2⟩ := PWh_tot (mostR (l.length : Int) 16 r3)
      exact ⟨_, _, .update h g g2⟩
    · obtain ⟨s, r', g⟩ := PQ_tot (tl r); exact ⟨_, _, .select h g⟩
    · exact ⟨_, _, .begin h⟩
    · exact ⟨_, _, .commit h⟩
    · exact ⟨_, _, .rollback h⟩
theorem rowsR_len (l : List (List TExpr)) : ∀ r : Sreader, (rowsR l r).f0 = r.f0 := by
  induction l with
  | nil => intro r; rfl
  | cons x l ih => intro r; exact (ih (mostR (x.length : Int) 16 r)).trans rfl
theorem dropR_len (q : Sreader) : (dropR q).2.f0.length ≤ q.f0.length := by
  have h1 := nameR_len (tl q)
  have h2 := nameR_len (mustR [kIndex] q)
  have h3 := mustR_len [kIndex] q
  have h4 := tl_len q
  unfold dropR
  cases hd q kTable with
  | true => show (nameR (tl q)).2.f0.length ≤ _; omega
  | false => show (nameR (mustR [kIndex] q)).2.f0.length ≤ _; omega
theorem PS_len : NoMore PS := fun r s r' h => by
  have t1 := tl_len r
  cases h with
  | none _ => exact Nat.le_refl _
  | create _ h => have := PCr_len _ _ _ h; omega
  | drop _ => have := dropR_len (tl r); omega
  | insert _ h =>
    have h1 := mustR_len [kInto] (tl r)
    have h2 := nameR_len (mustR [kInto] (tl r))
    have h3 := mustR_len [kValues] (nameR (mustR [kInto] (tl r))).2
    have h4 := (PL_len PRow_len h).1
    rw [rowsR_len]; omega
  | delete _ h =>
    have h1 := mustR_len [kFrom] (tl r)
    have h2 := nameR_len (mustR [kFrom] (tl r))
    have h3 := PWh_len _ _ _ h
    omega
  | @update r3 _ sets wh _ h g =>
    have h1 := nameR_len (tl r)
    have h2 := mustR_len [kSet] (nameR (tl r)).2
    have h3 := (PL_len PSet_len h).1
    have h4 := PWh_len _ _ _ g
    have h5 : (mostR (sets.length : Int) 16 r3).f0.length = r3.f0.length := rfl
    omega
  | select _ h => have := PQ_len _ _ _ h; omega
  | begin _ => omega
  | commit _ => omega
  | rollback _ => omega
theorem rows_eq {r r3 : Sreader} {q : List (List TExpr)} (h : PL PRow id [] r q r3) (hl : r.f0.length ≤ 100000) : Ev1 fun k => parse_list_Lapi_Expr__p0_finsert_1 k r = some (q, r3) := by
  refine (lst (nx := parse_reader_insert_1_q0) PRow_len row_eq 24 (by omega) h hl).imp fun k hk g => ?_
  unfold parse_list_Lapi_Expr__p0_finsert_1
  rw [li_Lapi_Expr__p0_finsert_1]
  exact g
theorem sets_eq {r r3 : Sreader} {q : List SSet} (h : PL PSet id [] r q r3) (hl : r.f0.length ≤ 100000) : Ev1 fun k => parse_list_api_Set__p0_fupdate_1 k r = some (q, r3) := by
  refine (lst (nx := parse_reader_update_1_q0) PSet_len set_eq 112 (by omega) h hl).imp fun k hk g => ?_
  unfold parse_list_api_Set__p0_fupdate_1
  rw [li_api_Set__p0_fupdate_1]
  exact g
theorem ins_l6 {ρ : Type} (k : Nat) (kx : SStmt → SStmt → Sreader → Option ρ) (l : List (List TExpr)) (hl : l.length ≤ 200000) (a b : SStmt) : ∀ (d n i : Nat) (r : Sreader), i + d = l.length → d < n →
    parse_reader_insert_p0_l6 k kx n l (l.length : Int) (i : Int) a b r = kx a b (rowsR (l.drop i) r)
  | 0, n + 1, i, r, hi, _ => by
    simp only [parse_reader_insert_p0_l6, parse_reader_insert_p0_l6_b]
    rw [decide_eq_false (by omega), cond_false, List.drop_eq_nil_of_le (by omega)]; rfl
  | d + 1, n + 1, i, r, hi, hn => by
    simp only [parse_reader_insert_p0_l6, parse_reader_insert_p0_l6_b]
    have hlt : i < l.length := by omega
    rw [decide_eq_true (by omega), cond_true, chk_pos (by omega), Int.toNat_natCast, getD_get _ i _ hlt, most_eq, some_bind, w64n (by omega), List.drop_eq_getElem_cons hlt]
    exact ins_l6 k kx l hl a b d n (i + 1) _ (by omega) (by omega)
theorem stmt_unf (k : Nat) (hk : 100 ≤ k) (r : Sreader) : parse_reader_statement_p0 k r = match findOp stL r with
    | none => some ((⟨0, ByteArray.empty, ByteArray.empty, false, [], [], [], [], [], false, [], [], []⟩ : SStmt), badR r)
    | some n => if n = 1 then (parse_reader_create_p0 k (tl r)).bind fun x => some (x.1, x.2) else if n = 2 then (parse_reader_drop_p0 k (tl r)).bind fun x => some (x.1, x.2) else if n = 3 then (parse_reader_insert_p0 k (tl r)).bind fun x => some (x.1, x.2)
      else if n = 4 then (parse_reader_where_p0 k (nameR (mustR [kFrom] (tl r))).2).bind fun x => some ((⟨7, ByteArray.empty, (nameR (mustR [kFrom] (tl r))).1, false, [], [], [], [], [], false, [], x.1, []⟩ : SStmt), x.2)
      else if n = 5 then (parse_reader_update_p0 k (tl r)).bind fun x => some (x.1, x.2) else if n = 6 then (parse_reader_query_p0 k (tl r)).bind fun x => some (x.1, x.2)
      else if n = 7 then some ((⟨10, ByteArray.empty, ByteArray.empty, false, [], [], [], [], [], false, [], [], []⟩ : SStmt), tl r) else if n = 8 then some ((⟨11, ByteArray.empty, ByteArray.empty, false, [], [], [], [], [], false, [], [], []⟩ : SStmt), tl r) else some ((⟨12, ByteArray.empty, ByteArray.empty, false, [], [], [], [], [], false, [], [], []⟩ : SStmt), tl r) := by
  unfold parse_reader_statement_p0 stL
  simp only [findOp, got_eq, some_bind]
  cases hd r kCreate with
  | true => rfl
  | false =>
    simp only [cond_false, got_eq, some_bind]
    cases hd r kDrop with
    | true => rfl
    | false =>
      simp only [cond_false, got_eq, some_bind]
      cases hd r kInsert with
      | true => rfl
      | false =>
        simp only [cond_false, got_eq, some_bind]
        cases hd r kDelete with
        | true =>
          simp only [cond_true]
          rw [must1 k hk, some_bind, name_eq k (by omega), some_bind]
          rfl
        | false =>
          simp only [cond_false, got_eq, some_bind]
          cases hd r kUpdate with
          | true => rfl
          | false =>
            simp only [cond_false, got_eq, some_bind]
            cases hd r kSelect with
            | true => rfl
            | false =>
              simp only [cond_false, got_eq, some_bind]
              cases hd r kBegin with
              | true => rfl
              | false =>
                simp only [cond_false, got_eq, some_bind]
                cases hd r kCommit with
                | true => rfl
                | false =>
                  simp only [cond_false, got_eq, some_bind]
                  cases hd r kRollback with
                  | true => rfl
                  | false => rfl
theorem stmt_eq {r r' : Sreader} {s : SStmt} (hl : r.f0.length ≤ 100000) (h : PS r s r') : Ev1 fun k => parse_reader_statement_p0 k r = some (s, r') := by
  have t1 := tl_len r
  cases h with
  | none hh => exact .of fun k hk => by rw [stmt_unf k hk, hh]
  | create hh h => exact (create_eq (by omega) h).imp fun k hk g => by rw [stmt_unf k hk, hh]; simp only [if_true]; rw [g]; rfl
  | drop hh =>
    refine .of fun k hk => ?_
    rw [stmt_unf k hk, hh]
    show ((parse_reader_drop_p0 k (tl r)).bind fun x => some (x.1, x.2)) = _
    unfold parse_reader_drop_p0 dropR
    rw [got_eq, some_bind]
    cases hd (tl r) kTable with
    | true =>
      simp only [cond_true]
      rw [name_eq k (by omega)]; rfl
    | false =>
      simp only [cond_false]
      rw [must1 k hk, some_bind, name_eq k (by omega)]; rfl
  | @insert r4 rows hh h =>
    have h1 := mustR_len [kInto] (tl r)
    have h2 := nameR_len (mustR [kInto] (tl r))
    have h3 := mustR_len [kValues] (nameR (mustR [kInto] (tl r))).2
    have h4 := (PL_len PRow_len h).2
    simp only [List.length_nil] at h4
    obtain ⟨D, g⟩ := rows_eq h (by omega)
    refine ⟨D + rows.length + 100, fun k hk => ?_⟩
    show _ = _
    rw [stmt_unf k (by omega), hh]
    show ((parse_reader_insert_p0 k (tl r)).bind fun x => some (x.1, x.2)) = _
    unfold parse_reader_insert_p0
    rw [must1 k (by omega), some_bind, name_eq k (by omega), some_bind, must1 k (by omega), some_bind, g k (by omega), some_bind]
    refine (congrArg (fun z => Option.bind z _) (ins_l6 k _ rows (by omega) _ _ rows.length k 0 r4 (by omega) (by omega))).trans ?_
    rw [List.drop_zero]; rfl
  | delete hh h =>
    exact (where_eq h).imp fun k hk g => by
      rw [stmt_unf k hk, hh]
      show ((parse_reader_where_p0 k (nameR (mustR [kFrom] (tl r))).2).bind fun x => _) = _
      rw [g]; rfl
  | @update r3 _ sets wh hh h g =>
    have h1 := nameR_len (tl r)
    have h2 := mustR_len [kSet] (nameR (tl r)).2
    obtain ⟨D1, g1⟩ := sets_eq h (by omega)
    obtain ⟨D2, g2⟩ := where_eq g
    refine ⟨D1 + D2 + 100, fun k hk => ?_⟩
    show _ = _
    rw [stmt_unf k (by omega), hh]
    show ((parse_reader_update_p0 k (tl r)).bind fun x => some (x.1, x.2)) = _
    unfold parse_reader_update_p0
    rw [name_eq k (by omega), some_bind, must1 k (by omega), some_bind, g1 k (by omega), some_bind, most_eq, some_bind, g2 k (by omega)]; rfl
  | select hh h =>
    exact (query_eq (by omega) h).imp fun k hk g => by
      rw [stmt_unf k hk, hh]
      show ((parse_reader_query_p0 k (tl r)).bind fun x => _) = _
      rw [g]; rfl
  | begin hh => exact .of fun k hk => by rw [stmt_unf k hk, hh]; rfl
  | commit hh => exact .of fun k hk => by rw [stmt_unf k hk, hh]; rfl
  | rollback hh => exact .of fun k hk => by rw [stmt_unf k hk, hh]; rfl
end Go.Proofs.Ytepekanlplbciaa.Q
