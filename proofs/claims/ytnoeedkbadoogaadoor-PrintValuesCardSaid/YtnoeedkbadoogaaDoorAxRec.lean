/-
  What an argument's datum says of its cells, for types that hold themselves: the same laws, for data of at most so great a size.
-/
import Derived.Test.YtnoeedkbadoogaaDoorAxRow
namespace Go.AX
open Go Go.Deep Go.ChangeShapes Go.WideShapes
variable {X : Univ} {P : Program}

structure RdN {α : Type} (X : Univ) (P : Program) (N : Nat) (t : TypeId) (sg : α → List (PV X.U)) (ok : α → Prop) : Prop where
  rd : ∀ {H : Type} {enc : TypeId × Value → H} {w : World} {base : Nat} {spare : Nat → Bool} {held : Bool} {fuel : Nat} {cs : List Value} {x : DataW H × List MemPlace},
    DataW.trod enc P w base spare held fuel t cs = some x → SizeOf.sizeOf x.1 ≤ N → (∀ n ∈ x.1.weights P t, n ≤ reachBytes) → ∃ v, CS X (clOf w) w (sg v) cs ∧ ok v
theorem RdN.of {α : Type} {N : Nat} {t : TypeId} {sg : α → List (PV X.U)} {ok : α → Prop} (h : Rd X P t sg ok) : RdN X P N t sg ok := ⟨fun h1 _ h2 => h.rd h1 h2⟩
theorem Rd.ofN {α : Type} {t : TypeId} {sg : α → List (PV X.U)} {ok : α → Prop} (h : ∀ N, RdN X P N t sg ok) : Rd X P t sg ok := ⟨fun h1 h2 => (h _).rd h1 (Nat.le_refl _) h2⟩
theorem RdN.mono {α : Type} {N M : Nat} {t : TypeId} {sg : α → List (PV X.U)} {ok : α → Prop} (h : RdN X P N t sg ok) (hm : M ≤ N) : RdN X P M t sg ok := ⟨fun h1 h3 h2 => h.rd h1 (Nat.le_trans h3 hm) h2⟩
theorem RdN.imp {α : Type} {N : Nat} {t : TypeId} {sg : α → List (PV X.U)} {ok ok' : α → Prop} (h : RdN X P N t sg ok) (hi : ∀ x, ok x → ok' x) : RdN X P N t sg ok' :=
  ⟨fun h1 h3 h2 => let ⟨v, a, b⟩ := h.rd h1 h3 h2; ⟨v, a, hi v b⟩⟩
theorem RdN.zero {α : Type} {t : TypeId} {sg : α → List (PV X.U)} {ok : α → Prop} : RdN X P 0 t sg ok :=
  ⟨fun {H enc w base spare held fuel cs x} _ h _ => by
    have : 0 < SizeOf.sizeOf x.1 := by cases x.1 <;> simp <;> omega
    omega⟩
theorem Rd.map {α β : Type} {t : TypeId} {sg : α → List (PV X.U)} {sg' : β → List (PV X.U)} {ok : α → Prop} {ok' : β → Prop} (h : Rd X P t sg ok) (f : α → β) (hs : ∀ x, sg x = sg' (f x)) (ho : ∀ x, ok x → ok' (f x)) : Rd X P t sg' ok' :=
  ⟨fun h1 h2 => let ⟨v, a, b⟩ := h.rd h1 h2; ⟨f v, by rw [← hs]; exact a, ho v b⟩⟩

theorem RdN.slice {α : Type} {N : Nat} {t e : TypeId} {sg : α → List (PV X.U)} {ok : α → Prop} {g : α → PV X.U} {C : List α → X.U} {d : α} {n B : Nat} (ht : P.underlying t = some (.slice e)) (hC : P.cellsOf e = n) (hn : 0 < n) (hB : P.bytesOf e = B)
    (hv : ∀ l, X.view (C l) = .sl l.length fun i => g (l.getD i d)) (hz : ∀ l, X.esz (C l) = n) (hel : El X g sg) (he : RdN X P N e sg ok) :
    RdN X P (N + 1) t (fun l => [.typ (C l)]) (fun l => (l.length * B ≤ 140737488351232 ∧ l.length ≤ 9223372036854775807) ∧ ∀ x ∈ l, ok x) :=
  ⟨fun {H enc w base spare held fuel cs x} h hN hs => by
    have hw1 : ∀ l, (PV.typ (C l) : PV X.U).segW X = 1 := fun l => by simp [PV.segW, hv]
    rcases open_slice ht h with ⟨rfl, rfl⟩ | ⟨a, len, cap, m, k, D, Pl, rfl, _, hl, hm, hmm, rfl, hi⟩
    · refine ⟨[], cs_one (.sl (vs := []) (hv []) rfl (fun i h => by simp at h) (Nat.le_refl _) (fun v hv => by cases hv) (.inl rfl)) ⟨by rw [hw1]; rfl, fun x hx => by simp [Value.cells] at hx; subst hx; rfl⟩ rfl, by simp, fun x hx => by simp at hx⟩
    · have hlm : len ≤ m := by rw [hmm]; split <;> omega
      have hsz : ∀ i, i < len → SizeOf.sizeOf (D i) ≤ N := fun i hlt => by
        have h1 : SizeOf.sizeOf (D i) < SizeOf.sizeOf ((List.range len).map D) := List.sizeOf_lt_of_mem (List.mem_map.2 ⟨i, List.mem_range.2 hlt, rfl⟩)
        simp only [DataW.slice.sizeOf_spec] at hN
        omega
      obtain ⟨q, hql, hp⟩ := chooseL (α := α × Value) (n := len) (p := fun i y => ∃ cs', w.cells? base (a.add (i * P.cellsOf e)) (P.cellsOf e) = some cs' ∧ VP X (clOf w) w (g y.1) y.2 ∧ y.2.cells.toList = cs' ∧ (∀ x ∈ cs', x.oneCell' = true) ∧ ok y.1) (fun i hlt => by
        obtain ⟨cs', hc, ht'⟩ := hi i (by omega)
        obtain ⟨v, hk, ho⟩ := he.rd ht' (hsz i hlt) (fun k hk => hs k (by
          simp only [DataW.weights, ht, List.mem_cons, List.mem_append]
          exact .inr (.inl (weightsAll_mem (l := (List.range len).map D) (i := i) (by simp [hlt]) k hk))))
        obtain ⟨c, h1, h2, h3⟩ := hel _ _ _ _ hk
        exact ⟨(v, c), cs', hc, h1, h2, h3, ho⟩)
      subst hql
      have hvq : X.view (C (q.map (·.1))) = .sl q.length fun i => g ((q.map (·.1)).getD i d) := by rw [hv, List.length_map]
      refine ⟨q.map (·.1), cs_one (.sl (vs := q.map (·.2)) hvq (by simp) (fun i hlt => ?_) hl (fun v hv => ?_) ?_) ⟨by rw [hw1]; rfl, fun x hx => by simp [Value.cells] at hx; subst hx; rfl⟩ rfl, ⟨?_, ?_⟩, fun x hx => ?_⟩
      · have hlt' : i < q.length := by simpa using hlt
        obtain ⟨_, _, h1, _⟩ := hp i q[i] (by simp [hlt'])
        simpa [hlt'] using h1
      · obtain ⟨y, hy, rfl⟩ := List.mem_map.1 hv
        obtain ⟨i, hi', rfl⟩ := List.mem_iff_getElem.1 hy
        obtain ⟨cs', hc, _, h2, h3, _⟩ := hp i q[i] (by simp [hi'])
        rw [hz]
        obtain ⟨_, hcl, _⟩ := World.cells?_some hc
        exact ⟨by rw [← Array.length_toList, h2, hcl, hC], fun x hx => h3 x (by rw [← h2]; exact hx)⟩
      · rw [hz]
        by_cases hq : q = []
        · left; simp [hq]
        right
        have cellAt : ∀ i y, q[i]? = some y → ∀ j c, y.2.cells.toList[j]? = some c → w.cell? ((a.add (i * n)).add j) = some c := by
          intro i y hy j c hj
          obtain ⟨cs', hc, _, h2, _, _⟩ := hp i y hy
          obtain ⟨_, hcl, hat⟩ := World.cells?_some hc
          rw [h2] at hj
          have hjl : j < P.cellsOf e := by
            rcases Nat.lt_or_ge j cs'.length with h' | h'
            · omega
            · rw [List.getElem?_eq_none h'] at hj; cases hj
          rw [← hC, hat j hjl, hj]
        have hsp : a.spot = none := by
          obtain ⟨y, hy⟩ : ∃ y, q[0]? = some y := by cases q with | nil => exact absurd rfl hq | cons y r => exact ⟨y, rfl⟩
          obtain ⟨cs', hc, _, h2, _, _⟩ := hp 0 y hy
          obtain ⟨_, hcl, _⟩ := World.cells?_some hc
          have h0 : 0 < cs'.length := by omega
          have := cellAt 0 y hy 0 cs'[0] (by rw [h2]; simp [h0])
          have := (clOf_lt this).1
          simpa [Addr.add] using this
        refine ⟨a, rfl, hsp, fun i v hv => ⟨rfl, fun j c hj => ?_⟩⟩
        rw [List.getElem?_map] at hv
        cases hy : q[i]? with
        | none => rw [hy] at hv; cases hv
        | some y =>
          rw [hy] at hv; simp only [Option.map_some, Option.some.injEq] at hv; subst hv
          have hadd : (a.add (i * n)).add j = ⟨a.block, a.off + i * n + j, none⟩ := by
            have : ∀ (b : Addr) (k : Nat), b.spot = none → b.add k = ⟨b.block, b.off + k, none⟩ := fun b k hb => by
              unfold Addr.add
              split
              · rename_i h0; subst h0; cases b; simp_all
              · rfl
            rw [this a _ hsp, this _ _ rfl]
          have := cellAt i y hy j c hj
          rw [hadd] at this
          obtain ⟨h1, h2, h3⟩ := clOf_lt this
          exact ⟨h2, h3⟩
      · have := hs _ (by
          simp only [DataW.weights, ht]
          exact List.mem_cons_self)
        rw [hB] at this
        simp only [List.length_map, List.length_range, reachBytes] at this
        rw [List.length_map]
        exact Nat.le_trans (Nat.mul_le_mul_right B (by omega)) this
      · rw [List.length_map]; unfold maxLen at hm; omega
      · obtain ⟨y, hy, rfl⟩ := List.mem_map.1 hx
        obtain ⟨i, hi', rfl⟩ := List.mem_iff_getElem.1 hy
        obtain ⟨_, _, _, _, _, ho⟩ := hp i q[i] (by simp [hi'])
        exact ho⟩

/-- The fields fs of a struct, from cell o on. -/
structure RdFN {α : Type} (X : Univ) (P : Program) (N : Nat) (fs : List Field) (o n : Nat) (sg : α → List (PV X.U)) (ok : α → Prop) : Prop where
  rd : ∀ {H : Type} {enc : TypeId × Value → H} {w : World} {base : Nat} {spare : Nat → Bool} {held : Bool} {k : Nat} {cs : List Value} {xs : List (DataW H × List MemPlace)},
    cs.length = o + n → xs.length = fs.length → (∀ x ∈ xs, SizeOf.sizeOf x.1 ≤ N) → (∀ (i : Nat) (f : Field), fs[i]? = some f → DataW.trod enc P w base spare held k f.type ((cs.drop f.offset).take (P.cellsOf f.type)) = xs[i]?) →
    (∀ n ∈ DataW.weightsEach P (fs.map (·.type)) (xs.map (·.1)), n ≤ reachBytes) → ∃ v, CS X (clOf w) w (sg v) (cs.drop o) ∧ ok v
theorem RdFN.one {α : Type} {N : Nat} {f : Field} {o n : Nat} {sg : α → List (PV X.U)} {ok : α → Prop} (ho : f.offset = o) (hC : P.cellsOf f.type = n) (h : RdN X P N f.type sg ok) : RdFN X P N [f] o n sg ok :=
  ⟨fun {H enc w base spare held k cs xs} hl hx hN hf hs => by
    match xs, hx with
    | [x], _ =>
      have := hf 0 f rfl
      rw [ho, hC, List.take_of_length_le (by simp; omega)] at this
      exact h.rd this (hN x (by simp)) (fun k hk => hs k (by simp [DataW.weightsEach, hk]))⟩
theorem RdFN.cons {α β : Type} {N : Nat} {f : Field} {fs : List Field} {o n m : Nat} {a : α → List (PV X.U)} {b : β → List (PV X.U)} {ok : α → Prop} {ok' : β → Prop} (ho : f.offset = o) (hC : P.cellsOf f.type = n) (h : RdN X P N f.type a ok) (h' : RdFN X P N fs (o + n) m b ok') :
    RdFN X P N (f :: fs) o (n + m) (fun x : α × β => a x.1 ++ b x.2) (fun x => ok x.1 ∧ ok' x.2) :=
  ⟨fun {H enc w base spare held k cs xs} hl hx hN hf hs => by
    match xs, hx, hN with
    | x :: xs, hx, hN =>
      have h0 := hf 0 f rfl
      rw [ho, hC] at h0
      simp only [List.map_cons, DataW.weightsEach, List.mem_append] at hs
      obtain ⟨u, ⟨us, hu1, hu2⟩, hou⟩ := h.rd h0 (hN x (by simp)) (fun k hk => hs k (.inl hk))
      obtain ⟨v, ⟨vs, hv1, hv2⟩, hov⟩ := h'.rd (cs := cs) (xs := xs) (by omega) (by simpa using hx) (fun y hy => hN y (by simp [hy])) (fun i g hg => by simpa using hf (i + 1) g (by simpa using hg)) (fun k hk => hs k (.inr hk))
      refine ⟨(u, v), ⟨us ++ vs, hu1.append hv1, ?_⟩, hou, hov⟩
      rw [flat_append, hu2, hv2, ← List.drop_drop, List.take_append_drop]⟩
theorem RdN.struct {α β : Type} {N : Nat} {t : TypeId} {fs : Array Field} {n : Nat} {sg : α → List (PV X.U)} {sg' : β → List (PV X.U)} {ok : α → Prop} (f : β → α) (hsur : ∀ v, ∃ x, f x = v) (hsg : ∀ x, sg (f x) = sg' x) (ht : P.underlying t = some (.struct fs)) (hC : P.cellsOf t = n) (h : RdFN X P N fs.toList 0 n sg ok) :
    RdN X P (N + 1) t sg' (fun x => ok (f x)) :=
  ⟨fun {H enc w base spare held fuel cs x} h1 hN hs => by
    obtain ⟨xs, k, rfl, rfl, hl, hxl, hf⟩ := DataW.trod_struct ht h1
    have hsz : ∀ y ∈ xs, SizeOf.sizeOf y.1 ≤ N := fun y hy => by
      have h1 : SizeOf.sizeOf y.1 < SizeOf.sizeOf (xs.map (·.1)) := List.sizeOf_lt_of_mem (List.mem_map.2 ⟨y, hy, rfl⟩)
      simp only [DataW.agg.sizeOf_spec] at hN
      omega
    obtain ⟨v, hv, hov⟩ := h.rd (cs := cs) (xs := xs) (k := k) (by omega) (by simpa using hxl) hsz (fun i g hg => hf i g (by simpa using hg)) (fun k hk => hs k (by simp only [DataW.weights, ht]; exact hk))
    obtain ⟨y, rfl⟩ := hsur v
    exact ⟨y, by rw [List.drop_zero, hsg] at hv; exact hv, hov⟩⟩
end Go.AX
