/- A new entry of a map: room is made for it first, and it is filled then. -/
import Derived.Test.YthoaaihghgabcaaGreatSmall
import Derived.WideKeyEntry
namespace Go.Proofs.YthoaaihghgabcaaGreat
open Go.RowKit Go.Maps
open Go.WideElems (findIdx_born findIdx_arr modify_last)
open Go.ChangeMaps Go.MapKept Go.WideShapes

theorem own_heap {H : Type} {P : Program} {w w' : World} {k : TypeId} {R : Value → Option (DataW H × List MemPlace)} {b n : Nat} {D : DataW H} (h : w.ownsMap P k R b n D) (e : w'.heap[b]? = w.heap[b]?) : w'.ownsMap P k R b n D := by
  obtain ⟨es, clock, he, r⟩ := h
  exact ⟨es, clock, e.trans he, r⟩
theorem fill_at {es : Array MapEntry} {k v z : Value} {c : Nat} (hs : ∀ x ∈ es.toList, x.born < c) (hn : (es.toList.map (·.born)).Nodup) :
    (es.push ⟨k, z, c⟩).findIdx? (fun e => ((e.born : Nat) : Int) == ((c : Nat) : Int)) = some es.size ∧ (es.push ⟨k, z, c⟩).modify es.size (fun e => { e with val := v }) = es.push ⟨k, v, c⟩ := by
  constructor
  · rw [findIdx_arr]
    refine findIdx_born (l := (es.push ⟨k, z, c⟩).toList) (j := es.size) (e0 := ⟨k, z, c⟩) ?_ (by simp)
    rw [Array.toList_push, List.map_append, List.nodup_append]
    refine ⟨hn, by simp, fun a ha d hd => ?_⟩
    obtain ⟨x, hx, rfl⟩ := List.mem_map.1 ha
    obtain rfl : d = c := by simpa using hd
    exact Nat.ne_of_lt (hs x hx)
  · apply Array.ext'
    rw [Array.toList_modify, Array.toList_push, Array.toList_push, ← Array.length_toList, modify_last]

theorem entry_new {H : Type} {P : Program} {w : World} {t k e : TypeId} {R : Value → Option (DataW H × List MemPlace)} {b n : Nat} {D : DataW H} (K : Keyed P k) (ht : P.underlying t = some (.map k e)) {z : Value} (hz : ∀ u : World, (zeroValue e).run P u = .ok z u)
    (hown : w.ownsMap P k R b n D) (hn : n < maxLen) {key : Value} {kl : Lit} (hkey : keyOf P k key = some kl) (hno : Maps.has D kl = false) :
    ∃ (st : Nat) (w1 : World), (Instr.mapEntry t (.map (some b)) key).run P w = .ok (.tuple #[z, goInt st]) w1 ∧ w.mapTurned w1 b ∧
      ∀ (w2 : World) (val : Value) (d : DataW H) (ps : List MemPlace), w2.heap[b]? = w1.heap[b]? → R val = some (d, ps) →
        ∃ w', (Instr.entryStore t (.map (some b)) (goInt st) val).run P w2 = .ok () w' ∧ w'.ownsMap P k R b (n + 1) (D.put kl d) ∧ w2.mapTurned w' b := by
  have hown' := hown
  obtain ⟨es, clock, hb, F, hs, rfl⟩ := hown
  obtain ⟨s1, s2, _⟩ := F.stamped
  rcases K.find w hkey es.toList F.keys with ⟨h1, h2⟩ | ⟨j, e0, h1, h2, h3⟩
  · refine ⟨clock, setBlock w b (.map (es.push ⟨key, z, clock⟩) (clock + 1)), ?_, ⟨es, clock, _, _, hb, rfl⟩, fun w2 val d ps hw2 hv => ?_⟩
    · simp [Instr.mapEntry, run_underlying ht, MapKept.run_getObj_map hb, K.check w false hkey, h1, hz, MapKept.run_setObj_map _ hb, Result.andThen, setBlock]
    · have hw2' : w2.heap[b]? = some (.map (es.push ⟨key, z, clock⟩) (clock + 1)) := hw2.trans (heap_setBlock_same hb _)
      obtain ⟨w', hrun, ho, _⟩ := hown'.store K ht hn hkey hv
      have hrun2 : (Instr.mapUpdate t (.map (some b)) key val).run P w = .ok () (setBlock w b (.map (es.push ⟨key, val, clock⟩) (clock + 1))) := by
        simp [Instr.mapUpdate, run_underlying ht, MapKept.run_getObj_map hb, K.check w false hkey, h1, MapKept.run_setObj_map _ hb, Result.andThen, setBlock]
      rw [hrun2] at hrun
      injection hrun with _ hw
      subst hw
      obtain ⟨f1, f2⟩ := fill_at (es := es) (k := key) (v := val) (z := z) (c := clock) s1 s2
      refine ⟨setBlock w2 b (.map (es.push ⟨key, val, clock⟩) (clock + 1)), ?_, own_heap ho ?_, ⟨_, _, _, _, hw2', rfl⟩⟩
      · simp [Instr.entryStore, MapKept.run_getObj_map hw2', asInt, asIntOf, goInt, f1, f2, MapKept.run_setObj_map _ hw2', Result.andThen, setBlock]
      · rw [heap_setBlock_same hw2' _, heap_setBlock_same hb _]
  · exfalso
    rcases Maps.fit_look true K ht (hz w) hb F hkey with ⟨_, hnone, _⟩ | ⟨e1, y, _, _, _, _, hat, _⟩
    · exact hnone e0 (List.mem_of_getElem? h2) h3
    · rw [Maps.has_true_of_atKey hat] at hno; cases hno
end Go.Proofs.YthoaaihghgabcaaGreat
