/-
  What an argument's datum says of its cells: plain data, with the bounds of all numbers, texts and rows inside.
-/
import Derived.Deep.Slices
import Derived.Deep.Fields
import Derived.ChangeSame
import Derived.ChangeArms
import Derived.SizedLaws
import Derived.Test.YtepekanlplbciaaAxRel
namespace Go.AX
open Go Go.Deep Go.ChangeShapes Go.WideShapes
variable {X : Univ} {P : Program}

def clOf (w : World) (b : Nat) : Nat := match w.heap[b]? with | some (.cells a _ _) => a.size | _ => 0
theorem clOf_lt {w : World} {a : Addr} {v : Value} (h : w.cell? a = some v) : a.spot = none ∧ a.off < clOf w a.block ∧ w.cell? ⟨a.block, a.off, none⟩ = some v := by
  unfold World.cell? at h
  split at h
  · rename_i c _ _ hb
    split at h
    · cases h
    · rename_i hs
      have hs : a.spot = none := by cases hq : a.spot <;> simp_all
      have hlt := (Array.getElem?_eq_some_iff.1 h).1
      exact ⟨hs, by simp [clOf, hb, hlt], by simp [World.cell?, hb, h]⟩
  · cases h

/-- Parts that stand in these cells. -/
def CS (X : Univ) (cl : Nat → Nat) (w : World) (sg : List (PV X.U)) (cs : List Value) : Prop := ∃ vs, VPs X cl w sg vs ∧ flat vs = cs

structure Rd {α : Type} (X : Univ) (P : Program) (t : TypeId) (sg : α → List (PV X.U)) (ok : α → Prop) : Prop where
  rd : ∀ {H : Type} {enc : TypeId × Value → H} {w : World} {base : Nat} {spare : Nat → Bool} {held : Bool} {fuel : Nat} {cs : List Value} {x : DataW H × List MemPlace},
    DataW.trod enc P w base spare held fuel t cs = some x → (∀ n ∈ x.1.weights P t, n ≤ reachBytes) → ∃ v, CS X (clOf w) w (sg v) cs ∧ ok v
/-- A value of its own cells. -/
def El {α : Type} (X : Univ) (g : α → PV X.U) (sg : α → List (PV X.U)) : Prop :=
  ∀ (cl : Nat → Nat) (w : World) (v : α) (cs : List Value), CS X cl w (sg v) cs → ∃ c, VP X cl w (g v) c ∧ c.cells.toList = cs ∧ ∀ x ∈ cs, x.oneCell' = true

theorem Rd.imp {α : Type} {t : TypeId} {sg : α → List (PV X.U)} {ok ok' : α → Prop} (h : Rd X P t sg ok) (hi : ∀ x, ok x → ok' x) : Rd X P t sg ok' :=
  ⟨fun h1 h2 => let ⟨v, a, b⟩ := h.rd h1 h2; ⟨v, a, hi v b⟩⟩

theorem cs_one {cl : Nat → Nat} {w : World} {p : PV X.U} {c : Value} (h : VP X cl w p c) (ho : oc c (p.segW X)) (hc : c.cells = #[c]) : CS X cl w [p] [c] :=
  ⟨[c], .cons h ho .nil, by simp [flat, hc]⟩
theorem Rd.int {t : TypeId} {k : IntKind} (ht : P.underlying t = some (.int k)) : Rd X P t (fun n : Int => [.int k n]) (fun n => (Lit.int k n).wf = true) :=
  ⟨fun h _ => by
    obtain ⟨n, rfl, rfl, hw⟩ := DataW.trod_int ht h
    exact ⟨n, cs_one (.int k n) ⟨rfl, fun x hx => by simp [Value.cells] at hx; subst hx; rfl⟩ rfl, hw⟩⟩
theorem Rd.i64 {t : TypeId} (ht : P.underlying t = some (.int .i64)) : Rd X P t (fun n : Int => [.int .i64 n]) (fun n => -9223372036854775808 ≤ n ∧ n < 9223372036854775808) :=
  (Rd.int ht).imp fun n h => by simp [Lit.wf, IntKind.min, IntKind.max, IntKind.signed, IntKind.bits] at h; omega
theorem Rd.u8 {t : TypeId} (ht : P.underlying t = some (.int .u8)) : Rd X P t (fun n : Int => [.int .u8 n]) (fun n => 0 ≤ n ∧ n < 256) :=
  (Rd.int ht).imp fun n h => by simp [Lit.wf, IntKind.min, IntKind.max, IntKind.signed, IntKind.bits] at h; omega
theorem Rd.u32 {t : TypeId} (ht : P.underlying t = some (.int .u32)) : Rd X P t (fun n : Int => [.int .u32 n]) (fun n => 0 ≤ n ∧ n < 4294967296) :=
  (Rd.int ht).imp fun n h => by simp [Lit.wf, IntKind.min, IntKind.max, IntKind.signed, IntKind.bits] at h; omega
theorem Rd.u64 {t : TypeId} (ht : P.underlying t = some (.int .u64)) : Rd X P t (fun n : Int => [.int .u64 n]) (fun n => 0 ≤ n ∧ n < 18446744073709551616) :=
  (Rd.int ht).imp fun n h => by simp [Lit.wf, IntKind.min, IntKind.max, IntKind.signed, IntKind.bits] at h; omega
theorem Rd.bool {t : TypeId} (ht : P.underlying t = some .bool) : Rd X P t (fun b : Bool => [.bool b]) (fun _ => True) :=
  ⟨fun h _ => by
    obtain ⟨n, rfl, rfl⟩ := DataW.trod_bool ht h
    exact ⟨n, cs_one (.bool n) ⟨rfl, fun x hx => by simp [Value.cells] at hx; subst hx; rfl⟩ rfl, trivial⟩⟩
theorem Rd.string {t : TypeId} (ht : P.underlying t = some .string) : Rd X P t (fun s : ByteArray => [.str s]) (fun s => s.size ≤ 140737488351232) :=
  ⟨fun h hs => by
    obtain ⟨s, rfl, rfl, hw⟩ := DataW.trod_string ht h
    refine ⟨s, cs_one (.str s) ⟨rfl, fun x hx => by simp [Value.cells] at hx; subst hx; rfl⟩ rfl, ?_⟩
    have := hs s.data.toList.length (by simp [DataW.weights])
    simpa [reachBytes] using this⟩

theorem El.one {α : Type} (g : α → PV X.U) (h1 : ∀ v, (g v).segW X = 1) (hc : ∀ cl w v c, VP X cl w (g v) c → c.cells = #[c]) : El X g (fun v => [g v]) := by
  intro cl w v cs ⟨vs, h, hf⟩
  cases h with
  | cons h ho hn =>
    cases hn
    subst hf
    rename_i c
    have hcc := hc cl w v c h
    refine ⟨c, h, by simp [flat], fun x hx => ?_⟩
    simp only [flat, List.flatMap_cons, List.flatMap_nil, List.append_nil] at hx
    exact ho.2 x hx
theorem VPs.oneCell {cl : Nat → Nat} {w : World} : ∀ {sg : List (PV X.U)} {vs : List Value}, VPs X cl w sg vs → ∀ x ∈ flat vs, x.oneCell' = true
  | _, _, .nil, x, hx => by cases hx
  | _, _, .cons _ ho hr, x, hx => by
    rw [flat_cons, List.mem_append] at hx
    rcases hx with hx | hx
    · exact ho.2 x hx
    · exact VPs.oneCell hr x hx
theorem El.struct {α : Type} (u : α → X.U) (sg : α → List (PV X.U)) (hv : ∀ v, X.view (u v) = .segs (sg v)) : El X (fun v => .typ (u v)) sg := by
  intro cl w v cs ⟨vs, h, hf⟩
  subst hf
  exact ⟨.agg (flat vs).toArray, .seg (hv v) h, by simp [Value.cells], VPs.oneCell h⟩

theorem chooseL {α : Type} {p : Nat → α → Prop} : ∀ {n : Nat}, (∀ i, i < n → ∃ x, p i x) → ∃ l : List α, l.length = n ∧ ∀ i x, l[i]? = some x → p i x
  | 0, _ => ⟨[], rfl, fun i x h => by simp at h⟩
  | n + 1, h => by
    obtain ⟨l, hl, hp⟩ := chooseL (n := n) (fun i hi => h i (by omega))
    obtain ⟨x, hx⟩ := h n (by omega)
    refine ⟨l ++ [x], by simp [hl], fun i y hy => ?_⟩
    by_cases hi : i < n
    · rw [List.getElem?_append_left (by omega)] at hy
      exact hp i y hy
    · have hlt : i < (l ++ [x]).length := by
        rcases Nat.lt_or_ge i (l ++ [x]).length with h' | h'
        · exact h'
        · rw [List.getElem?_eq_none h'] at hy; cases hy
      have : i = n := by simp [hl] at hlt; omega
      subst this
      rw [List.getElem?_append_right (by omega), hl] at hy
      simp at hy
      subst hy
      exact hx
theorem weightsAll_mem {H : Type} {e : TypeId} : ∀ {l : List (DataW H)} {i : Nat} {d : DataW H}, l[i]? = some d → ∀ n ∈ d.weights P e, n ∈ DataW.weightsAll P e l
  | a :: l, 0, d, hd, n, hn => by
    simp only [List.getElem?_cons_zero, Option.some.injEq] at hd
    subst hd
    simp only [DataW.weightsAll, List.mem_append]
    exact .inl hn
  | a :: l, i + 1, d, hd, n, hn => by
    simp only [List.getElem?_cons_succ] at hd
    simp only [DataW.weightsAll, List.mem_append]
    exact .inr (weightsAll_mem hd n hn)
  | [], _, _, hd, _, _ => by simp at hd

theorem Rd.slice {α : Type} {t e : TypeId} {sg : α → List (PV X.U)} {ok : α → Prop} {g : α → PV X.U} {C : List α → X.U} {d : α} {n B : Nat} (ht : P.underlying t = some (.slice e)) (hC : P.cellsOf e = n) (hn : 0 < n) (hB : P.bytesOf e = B)
    (hv : ∀ l, X.view (C l) = .sl l.length fun i => g (l.getD i d)) (hz : ∀ l, X.esz (C l) = n) (hel : El X g sg) (he : Rd X P e sg ok) :
    Rd X P t (fun l => [.typ (C l)]) (fun l => l.length * B ≤ 140737488351232 ∧ l.length ≤ 9223372036854775807 ∧ ∀ x ∈ l, ok x) :=
  ⟨fun {H enc w base spare held fuel cs x} h hs => by
    have hw1 : ∀ l, (PV.typ (C l) : PV X.U).segW X = 1 := fun l => by simp [PV.segW, hv]
    rcases open_slice ht h with ⟨rfl, rfl⟩ | ⟨a, len, cap, m, k, D, Pl, rfl, _, hl, hm, hmm, rfl, hi⟩
    · refine ⟨[], cs_one (.sl (vs := []) (hv []) rfl (fun i h => by simp at h) (Nat.le_refl _) (fun v hv => by cases hv) (.inl rfl)) ⟨by rw [hw1]; rfl, fun x hx => by simp [Value.cells] at hx; subst hx; rfl⟩ rfl, by simp, by simp, fun x hx => by simp at hx⟩
    · have hlm : len ≤ m := by rw [hmm]; split <;> omega
      obtain ⟨q, hql, hp⟩ := chooseL (α := α × Value) (n := len) (p := fun i y => ∃ cs', w.cells? base (a.add (i * P.cellsOf e)) (P.cellsOf e) = some cs' ∧ VP X (clOf w) w (g y.1) y.2 ∧ y.2.cells.toList = cs' ∧ (∀ x ∈ cs', x.oneCell' = true) ∧ ok y.1) (fun i hlt => by
        obtain ⟨cs', hc, ht'⟩ := hi i (by omega)
        obtain ⟨v, hk, ho⟩ := he.rd ht' (fun k hk => hs k (by
          simp only [DataW.weights, ht, List.mem_cons, List.mem_append]
          exact .inr (.inl (weightsAll_mem (l := (List.range len).map D) (i := i) (by simp [hlt]) k hk))))
        obtain ⟨c, h1, h2, h3⟩ := hel _ _ _ _ hk
        exact ⟨(v, c), cs', hc, h1, h2, h3, ho⟩)
      subst hql
      have hvq : X.view (C (q.map (·.1))) = .sl q.length fun i => g ((q.map (·.1)).getD i d) := by rw [hv, List.length_map]
      refine ⟨q.map (·.1), cs_one (.sl (vs := q.map (·.2)) hvq (by simp) (fun i hlt => ?_) hl (fun v hv => ?_) ?_) ⟨by rw [hw1]; rfl, fun x hx => by simp [Value.cells] at hx; subst hx; rfl⟩ rfl, ?_, ?_, fun x hx => ?_⟩
      · have hlt' : i < q.length := by simpa using hlt
        obtain ⟨_, _, h1, _⟩ := hp i q[i] (by simp [hlt'])
        simpa [hlt'] using h1
      · obtain ⟨y, hy, rfl⟩ := List.mem_map.1 hv
        obtain ⟨i, hi', rfl⟩ := List.mem_iff_getElem.1 hy
        obtain ⟨cs', hc, _, h2, h3, _⟩ := hp i q[i] (by simp [hi'])
        rw [hz]
        obtain ⟨_, hcl, _⟩ := World.cells?_some hc
        exact ⟨by rw [← Array.length_toList, h2, hcl, hC], fun x hx => h3 x (by rw [← h2]; exact hx)⟩
      · rw [hz]
        by_cases hq : q = []
        · left; simp [hq]
        right
        have cellAt : ∀ i y, q[i]? = some y → ∀ j c, y.2.cells.toList[j]? = some c → w.cell? ((a.add (i * n)).add j) = some c := by
          intro i y hy j c hj
          obtain ⟨cs', hc, _, h2, _, _⟩ := hp i y hy
          obtain ⟨_, hcl, hat⟩ := World.cells?_some hc
          rw [h2] at hj
          have hjl : j < P.cellsOf e := by
            rcases Nat.lt_or_ge j cs'.length with h' | h'
            · omega
            · rw [List.getElem?_eq_none h'] at hj; cases hj
          rw [← hC, hat j hjl, hj]
        have hsp : a.spot = none := by
          obtain ⟨y, hy⟩ : ∃ y, q[0]? = some y := by cases q with | nil => exact absurd rfl hq | cons y r => exact ⟨y, rfl⟩
          obtain ⟨cs', hc, _, h2, _, _⟩ := hp 0 y hy
          obtain ⟨_, hcl, _⟩ := World.cells?_some hc
          have h0 : 0 < cs'.length := by omega
          have := cellAt 0 y hy 0 cs'[0] (by rw [h2]; simp [h0])
          have := (clOf_lt this).1
          simpa [Addr.add] using this
        refine ⟨a, rfl, hsp, fun i v hv => ⟨rfl, fun j c hj => ?_⟩⟩
        rw [List.getElem?_map] at hv
        cases hy : q[i]? with
        | none => rw [hy] at hv; cases hv
        | some y =>
          rw [hy] at hv; simp only [Option.map_some, Option.some.injEq] at hv; subst hv
          have hadd : (a.add (i * n)).add j = ⟨a.block, a.off + i * n + j, none⟩ := by
            have : ∀ (b : Addr) (k : Nat), b.spot = none → b.add k = ⟨b.block, b.off + k, none⟩ := fun b k hb => by
              unfold Addr.add
              split
              · rename_i h0; subst h0; cases b; simp_all
              · rfl
            rw [this a _ hsp, this _ _ rfl]
          have := cellAt i y hy j c hj
          rw [hadd] at this
          obtain ⟨h1, h2, h3⟩ := clOf_lt this
          exact ⟨h2, h3⟩
      · have := hs _ (by
          simp only [DataW.weights, ht]
          exact List.mem_cons_self)
        rw [hB] at this
        simp only [List.length_map, List.length_range, reachBytes] at this
        rw [List.length_map]
        exact Nat.le_trans (Nat.mul_le_mul_right B (by omega)) this
      · rw [List.length_map]; unfold maxLen at hm; omega
      · obtain ⟨y, hy, rfl⟩ := List.mem_map.1 hx
        obtain ⟨i, hi', rfl⟩ := List.mem_iff_getElem.1 hy
        obtain ⟨_, _, _, _, _, ho⟩ := hp i q[i] (by simp [hi'])
        exact ho⟩

/-- The fields fs of a struct, from cell o on. -/
structure RdF {α : Type} (X : Univ) (P : Program) (fs : List Field) (o n : Nat) (sg : α → List (PV X.U)) (ok : α → Prop) : Prop where
  rd : ∀ {H : Type} {enc : TypeId × Value → H} {w : World} {base : Nat} {spare : Nat → Bool} {held : Bool} {k : Nat} {cs : List Value} {xs : List (DataW H × List MemPlace)},
    cs.length = o + n → xs.length = fs.length → (∀ (i : Nat) (f : Field), fs[i]? = some f → DataW.trod enc P w base spare held k f.type ((cs.drop f.offset).take (P.cellsOf f.type)) = xs[i]?) →
    (∀ n ∈ DataW.weightsEach P (fs.map (·.type)) (xs.map (·.1)), n ≤ reachBytes) → ∃ v, CS X (clOf w) w (sg v) (cs.drop o) ∧ ok v
theorem VPs.append {cl : Nat → Nat} {w : World} : ∀ {a b : List (PV X.U)} {u v : List Value}, VPs X cl w a u → VPs X cl w b v → VPs X cl w (a ++ b) (u ++ v)
  | _, _, _, _, .nil, h => h
  | _, _, _, _, .cons h1 h2 h3, h => .cons h1 h2 (VPs.append h3 h)
theorem RdF.one {α : Type} {f : Field} {o n : Nat} {sg : α → List (PV X.U)} {ok : α → Prop} (ho : f.offset = o) (hC : P.cellsOf f.type = n) (h : Rd X P f.type sg ok) : RdF X P [f] o n sg ok :=
  ⟨fun {H enc w base spare held k cs xs} hl hx hf hs => by
    match xs, hx with
    | [x], _ =>
      have := hf 0 f rfl
      rw [ho, hC, List.take_of_length_le (by simp; omega)] at this
      exact h.rd this (fun k hk => hs k (by simp [DataW.weightsEach, hk]))⟩
theorem RdF.cons {α β : Type} {f : Field} {fs : List Field} {o n m : Nat} {a : α → List (PV X.U)} {b : β → List (PV X.U)} {ok : α → Prop} {ok' : β → Prop} (ho : f.offset = o) (hC : P.cellsOf f.type = n) (h : Rd X P f.type a ok) (h' : RdF X P fs (o + n) m b ok') :
    RdF X P (f :: fs) o (n + m) (fun x : α × β => a x.1 ++ b x.2) (fun x => ok x.1 ∧ ok' x.2) :=
  ⟨fun {H enc w base spare held k cs xs} hl hx hf hs => by
    match xs, hx with
    | x :: xs, hx =>
      have h0 := hf 0 f rfl
      rw [ho, hC] at h0
      simp only [List.map_cons, DataW.weightsEach, List.mem_append] at hs
      obtain ⟨u, ⟨us, hu1, hu2⟩, hou⟩ := h.rd h0 (fun k hk => hs k (.inl hk))
      obtain ⟨v, ⟨vs, hv1, hv2⟩, hov⟩ := h'.rd (cs := cs) (xs := xs) (by omega) (by simpa using hx) (fun i g hg => by simpa using hf (i + 1) g (by simpa using hg)) (fun k hk => hs k (.inr hk))
      refine ⟨(u, v), ⟨us ++ vs, hu1.append hv1, ?_⟩, hou, hov⟩
      rw [flat_append, hu2, hv2, ← List.drop_drop, List.take_append_drop]⟩
theorem Rd.struct {α β : Type} {t : TypeId} {fs : Array Field} {n : Nat} {sg : α → List (PV X.U)} {sg' : β → List (PV X.U)} {ok : α → Prop} (f : β → α) (hsur : ∀ v, ∃ x, f x = v) (hsg : ∀ x, sg (f x) = sg' x) (ht : P.underlying t = some (.struct fs)) (hC : P.cellsOf t = n) (h : RdF X P fs.toList 0 n sg ok) :
    Rd X P t sg' (fun x => ok (f x)) :=
  ⟨fun {H enc w base spare held fuel cs x} h1 hs => by
    obtain ⟨xs, k, rfl, rfl, hl, hxl, hf⟩ := DataW.trod_struct ht h1
    obtain ⟨v, hv, hov⟩ := h.rd (cs := cs) (xs := xs) (k := k) (by omega) (by simpa using hxl) (fun i g hg => hf i g (by simpa using hg)) (fun k hk => hs k (by simp only [DataW.weights, ht]; exact hk))
    obtain ⟨y, rfl⟩ := hsur v
    exact ⟨y, by rw [List.drop_zero, hsg] at hv; exact hv, hov⟩⟩
end Go.AX
