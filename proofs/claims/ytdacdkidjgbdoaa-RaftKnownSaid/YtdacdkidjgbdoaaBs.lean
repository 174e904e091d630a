/- Raft's server: the plain state, its place in memory. -/
import Derived.Test.YtdacdkidjgbdoaaProg
import Derived.WalkKit
import Derived.ProofKit
import Derived.OwnWalk
import Derived.Below
import Derived.BigQuiet
import Derived.BigRegion
import Derived.Deep.QuietTactic
import Derived.Lib.Hide
set_option linter.unusedVariables false
set_option linter.unusedSimpArgs false
namespace Go.Proofs.Ytdacdkidjgbdoaa
open Go Go.RowKit
namespace Rf

/-- an entry -/
structure Ent where
  term : Int
  data : ByteArray
/-- a server -/
structure Srv where
  id : Nat
  nodes : Nat
  term : Int
  vote : Int
  log : List Ent
  role : Nat
  leader : Int
  commit : Nat
  voters : Nat
  next : Nat → Nat
  mat : Nat → Nat

def entc (e : Ent) : List Value := [.int .i64 e.term, .string e.data]
def ents (l : List Ent) : List Value := l.flatMap entc
theorem ents_snoc (l : List Ent) (e : Ent) : ents (l ++ [e]) = ents l ++ entc e := by simp [ents]
theorem ents_app (l m : List Ent) : ents (l ++ m) = ents l ++ ents m := by simp [ents]
theorem ents_len (l : List Ent) : (ents l).length = l.length * 2 := by
  induction l with
  | nil => rfl
  | cons e r ih => have : ents (e :: r) = entc e ++ ents r := by simp [ents]
                   rw [this, List.length_append, ih, List.length_cons]; simp [entc]; omega
theorem ents_at {l : List Ent} {i : Nat} {e : Ent} (h : l[i]? = some e) {j : Nat} (hj : j < 2) : (ents l)[2 * i + j]? = (entc e)[j]? := by
  induction l generalizing i with
  | nil => simp at h
  | cons y r ih =>
    have e1 : ents (y :: r) = entc y ++ ents r := by simp [ents]
    have hl : (entc y).length = 2 := rfl
    rw [e1]
    cases i with
    | zero =>
      simp at h
      subst h
      rw [List.getElem?_append_left (by rw [hl]; omega)]
      simp
    | succ i =>
      rw [List.getElem?_append_right (by rw [hl]; omega), hl]
      simp at h
      have := ih h
      rw [← this]
      congr 1
      omega

/-- the struct's cells, the log being the slice v -/
def rc (s : Srv) (v : Value) : Array Value := #[.int .i64 s.id, .int .i64 s.nodes, .int .i64 s.term, .int .i64 s.vote, v, .int .u8 s.role, .int .i64 s.leader, .int .i64 s.commit, .int .u64 s.voters,
  .int .i64 (s.next 0), .int .i64 (s.next 1), .int .i64 (s.next 2), .int .i64 (s.next 3), .int .i64 (s.next 4), .int .i64 (s.next 5), .int .i64 (s.next 6),
  .int .i64 (s.mat 0), .int .i64 (s.mat 1), .int .i64 (s.mat 2), .int .i64 (s.mat 3), .int .i64 (s.mat 4), .int .i64 (s.mat 5), .int .i64 (s.mat 6)]

/-- block g is the server s, its log the slice v -/
structure Is (w : World) (g : Nat) (s : Srv) (v : Value) : Prop where
  blk : w.heap[g]? = some (.cells (rc s v) 74 (0, 0))
  log : w.ownsRow 0 39 2 v s.log.length (ents s.log)

theorem Is.lt {w : World} {g : Nat} {s : Srv} {v : Value} (h : Is w g s v) : g < w.heap.size := (Array.getElem?_eq_some_iff.1 h.blk).1
theorem Is.cell {w : World} {g : Nat} {s : Srv} {v : Value} (h : Is w g s v) (j : Nat) (u : Value) (hj : (rc s v)[j]? = some u) : w.cell? ⟨g, j, none⟩ = some u ∧ w.frozen? ⟨g, j, none⟩ = false := by
  have hb := h.blk
  refine ⟨?_, by simp [World.frozen?, hb]⟩
  simp only [World.cell?, hb]
  exact hj
theorem Is.id {w : World} {g : Nat} {s : Srv} {v : Value} (h : Is w g s v) : w.cell? ⟨g, 0, none⟩ = some (.int .i64 s.id) ∧ w.frozen? ⟨g, 0, none⟩ = false := h.cell 0 _ rfl
theorem Is.nodes {w : World} {g : Nat} {s : Srv} {v : Value} (h : Is w g s v) : w.cell? ⟨g, 1, none⟩ = some (.int .i64 s.nodes) ∧ w.frozen? ⟨g, 1, none⟩ = false := h.cell 1 _ rfl
theorem Is.term {w : World} {g : Nat} {s : Srv} {v : Value} (h : Is w g s v) : w.cell? ⟨g, 2, none⟩ = some (.int .i64 s.term) ∧ w.frozen? ⟨g, 2, none⟩ = false := h.cell 2 _ rfl
theorem Is.vote {w : World} {g : Nat} {s : Srv} {v : Value} (h : Is w g s v) : w.cell? ⟨g, 3, none⟩ = some (.int .i64 s.vote) ∧ w.frozen? ⟨g, 3, none⟩ = false := h.cell 3 _ rfl
theorem Is.slog {w : World} {g : Nat} {s : Srv} {v : Value} (h : Is w g s v) : w.cell? ⟨g, 4, none⟩ = some (v) ∧ w.frozen? ⟨g, 4, none⟩ = false := h.cell 4 _ rfl
theorem Is.role {w : World} {g : Nat} {s : Srv} {v : Value} (h : Is w g s v) : w.cell? ⟨g, 5, none⟩ = some (.int .u8 s.role) ∧ w.frozen? ⟨g, 5, none⟩ = false := h.cell 5 _ rfl
theorem Is.leader {w : World} {g : Nat} {s : Srv} {v : Value} (h : Is w g s v) : w.cell? ⟨g, 6, none⟩ = some (.int .i64 s.leader) ∧ w.frozen? ⟨g, 6, none⟩ = false := h.cell 6 _ rfl
theorem Is.commit {w : World} {g : Nat} {s : Srv} {v : Value} (h : Is w g s v) : w.cell? ⟨g, 7, none⟩ = some (.int .i64 s.commit) ∧ w.frozen? ⟨g, 7, none⟩ = false := h.cell 7 _ rfl
theorem Is.voters {w : World} {g : Nat} {s : Srv} {v : Value} (h : Is w g s v) : w.cell? ⟨g, 8, none⟩ = some (.int .u64 s.voters) ∧ w.frozen? ⟨g, 8, none⟩ = false := h.cell 8 _ rfl
theorem Is.nexts {w : World} {g : Nat} {s : Srv} {v : Value} (h : Is w g s v) {k : Nat} (hk : k < 7) : w.cell? ⟨g, 9 + k, none⟩ = some (.int .i64 (s.next k)) ∧ w.frozen? ⟨g, 9 + k, none⟩ = false := by
  refine h.cell (9 + k) _ ?_
  rcases (by omega : k = 0 ∨ k = 1 ∨ k = 2 ∨ k = 3 ∨ k = 4 ∨ k = 5 ∨ k = 6) with rfl | rfl | rfl | rfl | rfl | rfl | rfl <;> rfl
theorem Is.mats {w : World} {g : Nat} {s : Srv} {v : Value} (h : Is w g s v) {k : Nat} (hk : k < 7) : w.cell? ⟨g, 16 + k, none⟩ = some (.int .i64 (s.mat k)) ∧ w.frozen? ⟨g, 16 + k, none⟩ = false := by
  refine h.cell (16 + k) _ ?_
  rcases (by omega : k = 0 ∨ k = 1 ∨ k = 2 ∨ k = 3 ∨ k = 4 ∨ k = 5 ∨ k = 6) with rfl | rfl | rfl | rfl | rfl | rfl | rfl <;> rfl
theorem Is.slice {w : World} {g : Nat} {s : Srv} {v : Value} (h : Is w g s v) : ∃ a c, v = .slice a s.log.length c ∧ s.log.length ≤ c ∧ c ≤ maxLen := by
  rcases h.log.2 with ⟨rfl, e⟩ | ⟨k, cap, cur, rfl, _, _, h1, h2, _⟩
  · exact ⟨none, 0, by rw [e], by omega, by unfold maxLen; omega⟩
  · exact ⟨_, _, rfl, h1, h2⟩
/-- a row of entries is no server -/
theorem Is.ne {w : World} {g : Nat} {s : Srv} {v : Value} (h : Is w g s v) : v.ownBlock ≠ some g := by
  intro e
  rcases h.log.2 with ⟨rfl, _⟩ | ⟨k, cap, cur, rfl, _, hk, _⟩
  · cases e
  · have : k = g := by injection e
    rw [this, h.blk] at hk
    injection hk with hk
    injection hk with h1 h2
    cases h2
/-- the log's cells -/
theorem Is.ent {w : World} {g : Nat} {s : Srv} {a : Option Addr} {n c : Nat} (h : Is w g s (.slice a n c)) {i : Nat} {e : Ent} (hi : s.log[i]? = some e) :
    ∃ k, a = some ⟨k, 0, none⟩ ∧ w.cell? ⟨k, i * 2, none⟩ = some (.int .i64 e.term) ∧ w.cell? ⟨k, i * 2 + 1, none⟩ = some (.string e.data) := by
  rcases h.log.2 with ⟨e0, h0⟩ | ⟨k, cap, cur, hv, hk, hh, hc, hm, hs, ht⟩
  · have := (List.getElem?_eq_some_iff.1 hi).1; omega
  · injection hv with h1 h2 h3
    subst h1
    refine ⟨k, rfl, ?_, ?_⟩
    · have := h.log.cells (g := k) rfl (2 * i + 0) _ (by rw [ents_at hi (by omega)]; rfl)
      rcases i with _ | i
      · simpa [Addr.add] using this
      · have e1 : 2 * (i + 1) + 0 = (i + 1) * 2 := by omega
        rw [e1] at this
        simpa [Addr.add, Nat.add_mul] using this
    · have := h.log.cells (g := k) rfl (2 * i + 1) _ (by rw [ents_at hi (by omega)]; rfl)
      have e1 : 2 * i + 1 = i * 2 + 1 := by omega
      rw [e1] at this
      simpa [Addr.add] using this

/-- only these blocks may have turned; new ones may have come -/
structure Only (S : Nat → Prop) (w w' : World) : Prop where
  os : w'.os = w.os
  tape : w'.tape = w.tape
  output : w'.output = w.output
  size : w.heap.size ≤ w'.heap.size
  block : ∀ k, k < w.heap.size → ¬ S k → w'.heap[k]? = w.heap[k]?
theorem Only.refl (S : Nat → Prop) (w : World) : Only S w w := ⟨rfl, rfl, rfl, Nat.le_refl _, fun _ _ _ => rfl⟩
theorem Only.trans {S : Nat → Prop} {a b c : World} (h : Only S a b) (k : Only S b c) : Only S a c :=
  ⟨k.os.trans h.os, k.tape.trans h.tape, k.output.trans h.output, Nat.le_trans h.size k.size, fun i hi hs => (k.block i (Nat.lt_of_lt_of_le hi h.size) hs).trans (h.block i hi hs)⟩
theorem Only.weak {S T : Nat → Prop} {w w' : World} (h : Only S w w') (hs : ∀ k, S k → T k) : Only T w w' := ⟨h.os, h.tape, h.output, h.size, fun k hk ht => h.block k hk (fun e => ht (hs k e))⟩
theorem Only.of_below {S : Nat → Prop} {w w' : World} (h : Below w.heap.size w w') : Only S w w' := ⟨h.os, h.tape, h.output, h.size, fun k hk _ => h.block k hk⟩
theorem Only.set {S : Nat → Prop} {a w : World} (h : Only S a w) {p : Addr} (hp : S p.block ∨ a.heap.size ≤ p.block) (u : Value) : Only S a (w.setCell p u) :=
  ⟨h.os, h.tape, h.output, by simpa [World.setCell] using h.size, fun k hk hs => (Below.heap_setCell _ _ _ _ (by rintro rfl; rcases hp with e | e; exact hs e; omega)).trans (h.block k hk hs)⟩
theorem Only.alloc {S : Nat → Prop} {a w : World} (h : Only S a w) (o : Obj) : Only S a (w.alloc o) :=
  ⟨h.os, h.tape, h.output, by simp only [World.size_alloc]; have := h.size; omega, fun k hk hs => (Below.heap_alloc w o k (Nat.lt_of_lt_of_le hk h.size)).trans (h.block k hk hs)⟩
theorem Only.drew {S : Nat → Prop} {a w : World} (h : Only S a w) : Only S a w.drew := ⟨h.os, h.tape, h.output, h.size, h.block⟩
theorem Only.drewN {S : Nat → Prop} {a w : World} (h : Only S a w) (n : Nat) : Only S a (w.drewN n) := ⟨h.os, h.tape, h.output, h.size, h.block⟩
theorem Only.below {S : Nat → Prop} {w w' : World} {B : Nat} (h : Only S w w') (hB : B ≤ w.heap.size) (hs : ∀ k, S k → B ≤ k) : Below B w w' := ⟨h.os, h.tape, h.output, h.size, fun k hk => h.block k (by omega) (fun e => by have := hs k e; omega)⟩
theorem Only.grown {S : Nat → Prop} {a w w' : World} {row : Option Nat} (h : Only S a w) (hg : w.grownBy w' row) (hr : ∀ k, row = some k → S k ∨ a.heap.size ≤ k) : Only S a w' :=
  ⟨hg.os.trans h.os, hg.tape.trans h.tape, hg.output.trans h.output, Nat.le_trans h.size hg.size, fun k hk hs => (hg.block k (Nat.lt_of_lt_of_le hk h.size) (fun e => by rcases hr k e.symm with e | e; exact hs e; omega)).trans (h.block k hk hs)⟩

/-- a server where only others have turned -/
theorem Is.only {S : Nat → Prop} {w w' : World} {g : Nat} {s : Srv} {v : Value} (h : Is w g s v) (ho : Only S w w') (hg : ¬ S g) (hv : ∀ k, v.ownBlock = some k → ¬ S k) : Is w' g s v := by
  refine ⟨(ho.block g h.lt hg).trans h.blk, h.log.1, ?_⟩
  rcases h.log.2 with h2 | ⟨k, cap, cur, rfl, hk, hh, r⟩
  · exact .inl h2
  · exact .inr ⟨k, cap, cur, rfl, hk, (ho.block k (Array.getElem?_eq_some_iff.1 hh).1 (hv k rfl)).trans hh, r⟩
theorem Is.drewN {w : World} {g : Nat} {s : Srv} {v : Value} (h : Is w g s v) (n : Nat) : Is (w.drewN n) g s v := ⟨h.blk, h.log⟩

/-- a store into the struct -/
theorem Is.set {w : World} {g : Nat} {s s' : Srv} {v : Value} (h : Is w g s v) (hl : s'.log = s.log) (j : Nat) (u : Value) (hc : (rc s v).setIfInBounds j u = rc s' v) : Is (w.setCell ⟨g, j, none⟩ u) g s' v := by
  have hne := h.ne
  refine ⟨?_, ?_⟩
  · have hb := h.blk
    simp only [World.setCell, Array.getElem?_modify, hb]
    simp [← hc]
  · rw [hl]
    refine ⟨h.log.1, ?_⟩
    rcases h.log.2 with h2 | ⟨k, cap, cur, rfl, hk, hh, r⟩
    · exact .inl h2
    · exact .inr ⟨k, cap, cur, rfl, hk, (Below.heap_setCell _ _ _ _ (fun e => hne (by rw [← show k = g from e]; rfl))).trans hh, r⟩
end Rf
end Go.Proofs.Ytdacdkidjgbdoaa
