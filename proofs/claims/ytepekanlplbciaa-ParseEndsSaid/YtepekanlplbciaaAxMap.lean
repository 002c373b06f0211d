/-
  A function that answers a map laid anew, in the reckoning machine's words.
-/
import Derived.Test.YtepekanlplbciaaAxExt
namespace Go.AX
open Go
variable {X : Univ} {P : Program}

theorem run_makeMap0 (t : TypeId) (w : World) : (Instr.makeMap t none).run P w = .ok (.map (some w.heap.size)) (World.pushO w (.map #[] 0)) := rfl
/-- A text that is not there yet is put into the map that was laid last. -/
theorem run_insert {w : World} {t kt et : TypeId} {ents : Array MapEntry} {ck : Nat} {s : ByteArray} {v : Value} (ht : P.underlying t = some (.map kt et)) (hk : P.underlying kt = some .string)
    (hf : Instr.findNow .string (.string s) ents.toList 0 = some none) :
    (Instr.mapUpdate t (.map (some w.heap.size)) (.string s) v).run P (World.pushO w (.map ents ck)) = .ok () (World.pushO w (.map (ents.push { key := .string s, val := v, born := ck }) (ck + 1))) := by
  have hg : (getObj w.heap.size).run P (World.pushO w (.map ents ck)) = .ok (.map ents ck) (World.pushO w (.map ents ck)) := by
    simp [getObj, Sem.run, heap_push_new]
  have hck : (Instr.checkKey false 10000 kt (.string s)).run P (World.pushO w (.map ents ck)) = .ok () (World.pushO w (.map ents ck)) := by
    unfold Instr.checkKey
    simp only [Sem.run_bind, run_underlying hk, Result.andThen]
    rfl
  have hfk : (Instr.findKey kt (.string s) ents.toList).run P (World.pushO w (.map ents ck)) = .ok none (World.pushO w (.map ents ck)) := by
    simp [Instr.findKey, run_underlying hk, Result.andThen, hf]
  have hset : (setObj w.heap.size (.map (ents.push { key := .string s, val := v, born := ck }) (ck + 1))).run P (World.pushO w (.map ents ck)) = .ok () (World.pushO w (.map (ents.push { key := .string s, val := v, born := ck }) (ck + 1))) := by
    have hp : (World.pushO w (.map ents ck)).heap.setIfInBounds w.heap.size (.map (ents.push { key := .string s, val := v, born := ck }) (ck + 1)) = (World.pushO w (.map (ents.push { key := .string s, val := v, born := ck }) (ck + 1))).heap := by
      show (w.heap.push _).setIfInBounds w.heap.size _ = w.heap.push _
      apply Array.ext'
      simp
    simp only [setObj, Sem.run, heap_push_new, hp]
    rfl
  simp only [Instr.mapUpdate, Sem.run_bind, run_underlying ht, Result.andThen_ok, hg, hck, hfk, hset]
/-- A map laid anew is told. -/
theorem con_map (hX : XOK X) {f : FuncId} {es : List (ByteArray × Int)} (h : ∀ w : World, Calls P f #[] w fun e w' => ∃ ents ck, e = .returned (.map (some w.heap.size)) ∧ w' = World.pushO w (.map ents ck) ∧
      ents.toList.map (fun e => (e.key, e.val)) = es.map (fun p => (Value.string p.1, Value.int .i64 p.2))) : Con (X := X) P f [] [] (.pv (.mp es)) [] := by
  intro D cl m w cargs hcs hR
  have hc : cargs = #[] := Array.size_eq_zero_iff.mp (by simpa using hcs)
  subst hc
  refine (h w).mono ?_
  rintro e w' ⟨ents, ck, rfl, rfl, hes⟩
  let cl' : Nat → Nat := fun b => if b = w.heap.size then 1 else cl b
  have hlt : ∀ b, b < w.heap.size → cl' b = cl b := fun b hb => by simp only [cl']; rw [if_neg (by omega)]
  have hsz := size_push w (.map ents ck)
  have hext : Ext cl w cl' (World.pushO w (.map ents ck)) := Ext.of fun b _ ⟨v, hv⟩ => by
    have hb := (Array.getElem?_eq_some_iff.mp hv).1
    exact ⟨heap_push _ _ _ hb, by rw [hlt b hb]; exact Nat.le_refl _⟩
  have hR' : Rel ⟨w, cl, D, m⟩ cl' m ({ env := zipI 0 [], hp := zipI 1000 [] } : St X.U) #[] (World.pushO w (.map ents ck)) := by
    refine hR.world hX.wpos ⟨hR.fr.os, hR.fr.tape, hR.fr.output, Nat.le_trans hR.fr.size (by omega), fun b hb hdd => ?_⟩ hext (by omega) (fun l b hb => ?_) (fun b hb => ?_)
    · have hb2 : b < w.heap.size := Nat.lt_of_lt_of_le hb hR.fr.size
      exact ⟨(heap_push _ _ _ hb2).trans (hR.fr.block b hb hdd).1, (hlt b hb2).trans (hR.fr.block b hb hdd).2⟩
    · have hm := hR.mine l b hb
      exact ⟨heap_push _ _ _ hm.1, (hlt b hm.1).trans hm.2.2⟩
    · simp only [cl']; rw [if_neg (by omega)]; exact hR.top b (by omega)
  exact ⟨_, cl', m, rfl, hR'.result (fun lv => .pv (.mp (by simp only [cl']; simp) (heap_push_new _ _) hes)) (fun id c hc => by simp [zipI, assoc] at hc) (fun k hk => by simp [blk] at hk), .inl rfl⟩
end Go.AX
