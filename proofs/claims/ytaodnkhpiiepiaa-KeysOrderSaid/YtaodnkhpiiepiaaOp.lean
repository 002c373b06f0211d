/-
  What an argument's datum says of its cells, kind by kind: a law's parameter read as a list of structs, with the bounds of all numbers, texts and rows inside.
-/
import Derived.Deep.Slices
import Derived.Deep.Fields
import Derived.ChangeSame
import Derived.ChangeArms
import Derived.SizedLaws
import Derived.Test.YtaodnkhpiiepiaaWWords
namespace Go.Proofs.YtaodnkhpiiepiaaG
open Go Go.ChangeShapes Go.WideShapes Go.Deep Go.Proofs.YtaodnkhpiiepiaaW.PrintWords

structure Opn {α : Type} (P : Program) (t : TypeId) (d : Kd α) (ok : α → Prop) : Prop where
  rd : ∀ {H : Type} {enc : TypeId × Value → H} {w : World} {base : Nat} {spare : Nat → Bool} {held : Bool} {fuel : Nat} {cs : List Value} {x : DataW H × List MemPlace},
    DataW.trod enc P w base spare held fuel t cs = some x → (∀ n ∈ x.1.weights P t, n ≤ reachBytes) → ∃ v, d.K w v cs ∧ ok v

theorem Opn.imp {α : Type} {P : Program} {t : TypeId} {d : Kd α} {ok ok' : α → Prop} (h : Opn P t d ok) (hi : ∀ x, ok x → ok' x) : Opn P t d ok' :=
  ⟨fun h1 h2 => let ⟨v, a, b⟩ := h.rd h1 h2; ⟨v, a, hi v b⟩⟩

theorem Opn.int {P : Program} {t : TypeId} {k : IntKind} (ht : P.underlying t = some (.int k)) : Opn P t (Kd.int k) (fun n => (Lit.int k n).wf = true) :=
  ⟨fun h _ => by
    obtain ⟨n, rfl, rfl, hw⟩ := DataW.trod_int ht h
    exact ⟨n, rfl, hw⟩⟩
theorem Opn.u8 {P : Program} {t : TypeId} (ht : P.underlying t = some (.int .u8)) : Opn P t (Kd.int .u8) (fun n => 0 ≤ n ∧ n < 256) :=
  (Opn.int ht).imp fun n h => by simp [Lit.wf, IntKind.min, IntKind.max, IntKind.signed, IntKind.bits] at h; omega
theorem Opn.u32 {P : Program} {t : TypeId} (ht : P.underlying t = some (.int .u32)) : Opn P t (Kd.int .u32) (fun n => 0 ≤ n ∧ n < 4294967296) :=
  (Opn.int ht).imp fun n h => by simp [Lit.wf, IntKind.min, IntKind.max, IntKind.signed, IntKind.bits] at h; omega
theorem Opn.u64 {P : Program} {t : TypeId} (ht : P.underlying t = some (.int .u64)) : Opn P t (Kd.int .u64) (fun n => 0 ≤ n ∧ n < 18446744073709551616) :=
  (Opn.int ht).imp fun n h => by simp [Lit.wf, IntKind.min, IntKind.max, IntKind.signed, IntKind.bits] at h; omega
theorem Opn.i64 {P : Program} {t : TypeId} (ht : P.underlying t = some (.int .i64)) : Opn P t (Kd.int .i64) (fun n => -9223372036854775808 ≤ n ∧ n < 9223372036854775808) :=
  (Opn.int ht).imp fun n h => by simp [Lit.wf, IntKind.min, IntKind.max, IntKind.signed, IntKind.bits] at h; omega
theorem Opn.bool {P : Program} {t : TypeId} (ht : P.underlying t = some .bool) : Opn P t Kd.bool (fun _ => True) :=
  ⟨fun h _ => by
    obtain ⟨n, rfl, rfl⟩ := DataW.trod_bool ht h
    exact ⟨n, rfl, trivial⟩⟩
theorem Opn.string {P : Program} {t : TypeId} (ht : P.underlying t = some .string) : Opn P t Kd.string (fun s => s.size ≤ 140737488351232) :=
  ⟨fun h hs => by
    obtain ⟨s, rfl, rfl, hw⟩ := DataW.trod_string ht h
    refine ⟨s, rfl, ?_⟩
    have := hs s.data.toList.length (by simp [DataW.weights])
    simpa [reachBytes] using this⟩

theorem add_add' (a : Addr) (i j : Nat) : (a.add i).add j = a.add (i + j) := (Go.Deep.add_add a i j)

theorem choose_list {α : Type} {p : Nat → α → Prop} : ∀ {n : Nat}, (∀ i, i < n → ∃ x, p i x) → ∃ l : List α, l.length = n ∧ ∀ i x, l[i]? = some x → p i x
  | 0, _ => ⟨[], rfl, fun i x h => by simp at h⟩
  | n + 1, h => by
    obtain ⟨l, hl, hp⟩ := choose_list (n := n) (fun i hi => h i (by omega))
    obtain ⟨x, hx⟩ := h n (by omega)
    refine ⟨l ++ [x], by simp [hl], fun i y hy => ?_⟩
    by_cases hi : i < n
    · rw [List.getElem?_append_left (by omega)] at hy
      exact hp i y hy
    · have hlt : i < (l ++ [x]).length := by
        rcases Nat.lt_or_ge i (l ++ [x]).length with h' | h'
        · exact h'
        · rw [List.getElem?_eq_none h'] at hy; cases hy
      have : i = n := by simp [hl] at hlt; omega
      subst this
      rw [List.getElem?_append_right (by omega), hl] at hy
      simp at hy
      subst hy
      exact hx

theorem weights_all {H : Type} {P : Program} {e : TypeId} : ∀ {l : List (DataW H)} {i : Nat} {d : DataW H}, l[i]? = some d → ∀ n ∈ d.weights P e, n ∈ DataW.weightsAll P e l
  | a :: l, 0, d, hd, n, hn => by
    simp only [List.getElem?_cons_zero, Option.some.injEq] at hd
    subst hd
    simp only [DataW.weightsAll, List.mem_append]
    exact .inl hn
  | a :: l, i + 1, d, hd, n, hn => by
    simp only [List.getElem?_cons_succ] at hd
    simp only [DataW.weightsAll, List.mem_append]
    exact .inr (weights_all hd n hn)
  | [], _, _, hd, _, _ => by simp at hd

theorem Opn.slice {α : Type} {P : Program} {t e : TypeId} {d : Kd α} {ok : α → Prop} {B : Nat} (ht : P.underlying t = some (.slice e)) (hC : P.cellsOf e = d.sz) (hB : P.bytesOf e = B) (he : Opn P e d ok) :
    Opn P t (Kd.slice e d) (fun l => l.length * B ≤ 140737488351232 ∧ l.length ≤ 9223372036854775807 ∧ ∀ x ∈ l, ok x) :=
  ⟨fun {H enc w base spare held fuel cs x} h hs => by
    rcases open_slice ht h with ⟨rfl, rfl⟩ | ⟨a, len, cap, m, n, D, Pl, rfl, _, hl, hm, hmm, rfl, hi⟩
    · refine ⟨[], ⟨none, 0, rfl, by simp, ?_⟩, by simp, by simp, fun x hx => by simp at hx⟩
      exact ⟨rfl, by simp, fun h => by simp at h⟩
    · have hlm : len ≤ m := by rw [hmm]; split <;> omega
      obtain ⟨l, hll, hp⟩ := choose_list (n := len) (p := fun i (y : α) => ∃ cs', w.cells? base (a.add (i * P.cellsOf e)) (P.cellsOf e) = some cs' ∧ d.K w y cs' ∧ ok y) (fun i hlt => by
        obtain ⟨cs', hc, ht'⟩ := hi i (by omega)
        obtain ⟨v, hk, ho⟩ := he.rd ht' (fun k hk => hs k (by
          simp only [DataW.weights, ht, List.mem_cons, List.mem_append]
          exact .inr (.inl (weights_all (l := (List.range len).map D) (i := i) (by simp [hlt]) k hk))))
        exact ⟨v, cs', hc, hk, ho⟩)
      refine ⟨l, ⟨some a, cap, by rw [hll], by omega, ?_⟩, ?_, ?_, fun x hx => ?_⟩
      · refine ⟨rfl, by unfold maxLen at hm; omega, fun _ => ⟨a, rfl, fun j p hjp => ?_⟩⟩
        obtain ⟨cs', hc, hk, _⟩ := hp j p hjp
        rw [hC] at hc
        obtain ⟨_, hcl, hat⟩ := World.cells?_some hc
        refine ⟨cs', hcl, hk, fun i u hu => ?_⟩
        have hlt : i < d.sz := by
          rcases Nat.lt_or_ge i cs'.length with h' | h'
          · omega
          · rw [List.getElem?_eq_none h'] at hu; cases hu
        rw [← add_add', hat i hlt, hu]
      · have := hs _ (by
          simp only [DataW.weights, ht]
          exact List.mem_cons_self)
        rw [hB] at this
        simp only [List.length_map, List.length_range, reachBytes] at this
        exact Nat.le_trans (Nat.mul_le_mul_right B (by omega)) this
      · unfold maxLen at hm; omega
      · obtain ⟨i, hi', rfl⟩ := List.mem_iff_getElem.1 hx
        obtain ⟨_, _, _, ho⟩ := hp i _ (List.getElem?_eq_getElem hi')
        exact ho⟩

/-- The fields fs of a struct, from cell o on. -/
structure OpF {α : Type} (P : Program) (fs : List Field) (o : Nat) (d : Kd α) (ok : α → Prop) : Prop where
  rd : ∀ {H : Type} {enc : TypeId × Value → H} {w : World} {base : Nat} {spare : Nat → Bool} {held : Bool} {n : Nat} {cs : List Value} {xs : List (DataW H × List MemPlace)},
    cs.length = o + d.sz → xs.length = fs.length → (∀ (i : Nat) (f : Field), fs[i]? = some f → DataW.trod enc P w base spare held n f.type ((cs.drop f.offset).take (P.cellsOf f.type)) = xs[i]?) →
    (∀ n ∈ DataW.weightsEach P (fs.map (·.type)) (xs.map (·.1)), n ≤ reachBytes) → ∃ v, d.K w v (cs.drop o) ∧ ok v

theorem OpF.one {α : Type} {P : Program} {f : Field} {o : Nat} {d : Kd α} {ok : α → Prop} (ho : f.offset = o) (hC : P.cellsOf f.type = d.sz) (h : Opn P f.type d ok) : OpF P [f] o d ok :=
  ⟨fun {H enc w base spare held n cs xs} hl hx hf hs => by
    match xs, hx with
    | [x], _ =>
      have := hf 0 f rfl
      rw [ho, hC, List.take_of_length_le (by simp; omega)] at this
      exact h.rd this (fun k hk => hs k (by simp [DataW.weightsEach, hk]))⟩
theorem OpF.cons {α β : Type} {P : Program} {f : Field} {fs : List Field} {o : Nat} {a : Kd α} {b : Kd β} {ok : α → Prop} {ok' : β → Prop} (ho : f.offset = o) (hC : P.cellsOf f.type = a.sz) (h : Opn P f.type a ok) (h' : OpF P fs (o + a.sz) b ok') :
    OpF P (f :: fs) o (Kd.pair a b) (fun x => ok x.1 ∧ ok' x.2) :=
  ⟨fun {H enc w base spare held n cs xs} hl hx hf hs => by
    match xs, hx with
    | x :: xs, hx =>
      have h0 := hf 0 f rfl
      rw [ho, hC] at h0
      simp only [List.map_cons, DataW.weightsEach, List.mem_append] at hs
      obtain ⟨u, hu, hou⟩ := h.rd h0 (fun k hk => hs k (.inl hk))
      obtain ⟨v, hv, hov⟩ := h'.rd (cs := cs) (xs := xs) (by simp only [Kd.pair] at hl; omega) (by simpa using hx) (fun i g hg => by simpa using hf (i + 1) g (by simpa using hg)) (fun k hk => hs k (.inr hk))
      refine ⟨(u, v), ⟨(cs.drop o).take a.sz, cs.drop (o + a.sz), ?_, hu, hv⟩, hou, hov⟩
      rw [← List.drop_drop, List.take_append_drop]⟩
theorem Opn.struct {α β : Type} {P : Program} {t : TypeId} {fs : Array Field} {d : Kd α} {ok : α → Prop} (f : β → α) (hsur : ∀ v, ∃ x, f x = v) (ht : P.underlying t = some (.struct fs)) (hC : P.cellsOf t = d.sz) (h : OpF P fs.toList 0 d ok) :
    Opn P t (Kd.iso d f) (fun x => ok (f x)) :=
  ⟨fun {H enc w base spare held fuel cs x} h1 hs => by
    obtain ⟨xs, n, rfl, rfl, hl, hxl, hf⟩ := DataW.trod_struct ht h1
    obtain ⟨v, hv, hov⟩ := h.rd (cs := cs) (xs := xs) (n := n) (by omega) (by simpa using hxl) (fun i g hg => hf i g (by simpa using hg)) (fun k hk => hs k (by simp only [DataW.weights, ht]; exact hk))
    obtain ⟨y, rfl⟩ := hsur v
    exact ⟨y, (by rw [List.drop_zero] at hv; exact hv), hov⟩⟩
end Go.Proofs.YtaodnkhpiiepiaaG
