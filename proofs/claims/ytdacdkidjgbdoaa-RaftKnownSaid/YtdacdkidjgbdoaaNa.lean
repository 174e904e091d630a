/- Several servers and messages in one memory; what a deed of one of them leaves. -/
import Derived.Test.YtdacdkidjgbdoaaTn
set_option linter.unusedVariables false
set_option linter.unusedSimpArgs false
namespace Go.Proofs.Ytdacdkidjgbdoaa
open Go Go.RowKit
namespace Rf

/-- a server, its block, its log's slice -/
structure At where
  g : Nat
  s : Srv
  v : Value
/-- the entries of a message, as they lie -/
def Lies (w : World) (p : Msg × Value) : Prop := w.ownsRow 0 39 2 p.2 p.1.entries.length (ents p.1.entries)
/-- servers and messages in one memory: nothing is shared -/
structure Mem (w : World) (S : List At) (M : List (Msg × Value)) : Prop where
  is : ∀ a ∈ S, Is w a.g a.s a.v
  lies : ∀ p ∈ M, Lies w p
  one : ∀ (i j : Nat) (a b : At), S[i]? = some a → S[j]? = some b → i ≠ j → a.g ≠ b.g ∧ (∀ k, a.v.ownBlock = some k → b.v.ownBlock ≠ some k)
  apart : ∀ a ∈ S, ∀ p ∈ M, ∀ k, p.2.ownBlock = some k → a.v.ownBlock ≠ some k

theorem own_lt {w : World} {base t k n j : Nat} {v : Value} {l : List Value} (h : w.ownsRow base t k v n l) (hj : v.ownBlock = some j) : j < w.heap.size := by
  rcases h.2 with ⟨rfl, _⟩ | ⟨g, cap, cur, rfl, _, hh, _⟩
  · cases hj
  · have : g = j := by injection hj
    subst this
    exact (Array.getElem?_eq_some_iff.1 hh).1
theorem own_only {S : Nat → Prop} {w w' : World} {base t k n : Nat} {v : Value} {l : List Value} (h : w.ownsRow base t k v n l) (hO : Only S w w') (hv : ∀ j, v.ownBlock = some j → ¬ S j) : w'.ownsRow base t k v n l := by
  refine ⟨h.1, ?_⟩
  rcases h.2 with h2 | ⟨g, cap, cur, rfl, hk, hh, r⟩
  · exact .inl h2
  · exact .inr ⟨g, cap, cur, rfl, hk, (hO.block g (Array.getElem?_eq_some_iff.1 hh).1 (hv g rfl)).trans hh, r⟩
/-- a row of another kind than a server's struct is none -/
theorem own_ne {w : World} {base k n g : Nat} {s : Srv} {v u : Value} {l : List Value} {t : Nat} (h : w.ownsRow base t k u n l) (hI : Is w g s v) (ht : t ≠ 74) {j : Nat} (hj : u.ownBlock = some j) : j ≠ g := by
  rcases h.2 with ⟨rfl, _⟩ | ⟨q, cap, cur, rfl, _, hh, _⟩
  · cases hj
  · have : q = j := by injection hj
    subst this
    rintro rfl
    rw [hI.blk] at hh
    injection hh with hh
    injection hh with _ h2
    exact ht h2.symm
theorem Mem.below {w w' : World} {S : List At} {M : List (Msg × Value)} (h : Mem w S M) (hB : Below w.heap.size w w') : Mem w' S M :=
  ⟨fun a ha => (h.is a ha).below hB, fun p hp => own_below (h.lies p hp) hB, h.one, h.apart⟩
/-- blocks of another kind stay -/
theorem only_kind {w w' : World} {g : Nat} {s : Srv} {v : Value} (hI : Is w g s v) (hO : Only (Mine g v) w w') {k : Nat} {C : Array Value} {t : TypeId} {fr : Nat × Nat} (hb : w.heap[k]? = some (.cells C t fr)) (h1 : t ≠ 74) (h2 : t ≠ 39) :
    w'.heap[k]? = some (.cells C t fr) := by
  refine (hO.block k (Array.getElem?_eq_some_iff.1 hb).1 ?_).trans hb
  rintro (e | e)
  · subst e
    rw [hI.blk] at hb
    injection hb with hb
    injection hb with _ h3
    exact h1 h3.symm
  · rcases hI.log.2 with ⟨hv, _⟩ | ⟨q, cap, cur, hv, _, hh, _⟩
    · rw [hv] at e; cases e
    · rw [hv] at e
      have : q = k := by injection e
      subst this
      rw [hh] at hb
      injection hb with hb
      injection hb with _ h3
      exact h2 h3.symm

theorem set_at {S : List At} {i j : Nat} {a b : At} (h : (S.set i a)[j]? = some b) : (i = j ∧ b = a) ∨ (i ≠ j ∧ S[j]? = some b) := by
  rw [List.getElem?_set] at h
  split at h
  · rename_i e
    split at h
    · exact .inl ⟨e, by injection h with h; exact h.symm⟩
    · cases h
  · rename_i e
    exact .inr ⟨e, h⟩
/-- a deed of server i without messages -/
theorem Mem.turned {w w' : World} {S : List At} {M : List (Msg × Value)} {i : Nat} {a : At} {s' : Srv} (h : Mem w S M) (hi : S[i]? = some a) (hT : Turned a.g a.v w s' w') : ∃ v', Mem w' (S.set i ⟨a.g, s', v'⟩) M ∧ Is w' a.g s' v' := by
  obtain ⟨⟨v', hI, hv⟩, hO⟩ := hT
  have ha := List.mem_of_getElem? hi
  have hIa := h.is a ha
  have hnew : ∀ k, v'.ownBlock = some k → ∀ b ∈ S, ∀ j, S[j]? = some b → i ≠ j → b.v.ownBlock ≠ some k := by
    intro k hk b hb j hj hne e
    rcases hv k hk with e2 | e2
    · exact (h.one i j a b hi hj hne).2 k e2 e
    · have := (h.is b hb).own_lt e; omega
  refine ⟨v', ⟨?_, ?_, ?_, ?_⟩, hI⟩
  · intro b hb
    obtain ⟨j, hj⟩ := List.getElem?_of_mem hb
    rcases set_at hj with ⟨_, rfl⟩ | ⟨hne, hj2⟩
    · exact hI
    · have hbm := List.mem_of_getElem? hj2
      have h1 := h.one i j a b hi hj2 hne
      refine (h.is b hbm).only hO ?_ ?_
      · rintro (e | e)
        · exact h1.1 e.symm
        · have h2 := own_ne hIa.log (h.is b hbm) (by decide) e
          exact h2 rfl
      · rintro k hk (e | e)
        · have h2 := own_ne (h.is b hbm).log hIa (by decide) hk
          exact h2 e
        · exact h1.2 k e hk
  · intro p hp
    refine own_only (h.lies p hp) hO ?_
    rintro k hk (e | e)
    · exact own_ne (h.lies p hp) hIa (by decide) hk e
    · exact h.apart a ha p hp k hk e
  · intro x y b c hx hy hxy
    rcases set_at hx with ⟨rfl, rfl⟩ | ⟨hne, hx2⟩
    · rcases set_at hy with ⟨e, _⟩ | ⟨hne2, hy2⟩
      · exact absurd e hxy
      · exact ⟨(h.one i y a c hi hy2 hne2).1, fun k hk => hnew k hk c (List.mem_of_getElem? hy2) y hy2 hne2⟩
    · rcases set_at hy with ⟨rfl, rfl⟩ | ⟨hne2, hy2⟩
      · exact ⟨(h.one x i b a hx2 hi hxy).1, fun k hk e => hnew k e b (List.mem_of_getElem? hx2) x hx2 hne hk⟩
      · exact h.one x y b c hx2 hy2 hxy
  · intro b hb p hp k hk e
    obtain ⟨j, hj⟩ := List.getElem?_of_mem hb
    rcases set_at hj with ⟨_, rfl⟩ | ⟨hne, hj2⟩
    · rcases hv k e with e2 | e2
      · exact h.apart a ha p hp k hk e2
      · have := own_lt (h.lies p hp) hk; omega
    · exact h.apart b (List.mem_of_getElem? hj2) p hp k hk e

theorem Did.turned {g : Nat} {v out : Value} {w w' : World} {s' : Srv} {ms : List Msg} (h : Did g v w s' ms out w') : Turned g v w s' w' := by
  obtain ⟨⟨v', base, h1, h2, h3, h4, h5⟩, h6⟩ := h
  exact ⟨⟨v', h1, h5⟩, h6⟩
/-- a deed of server i with messages -/
theorem Mem.did {w w' : World} {S : List At} {M : List (Msg × Value)} {i : Nat} {a : At} {s' : Srv} {ms : List Msg} {out : Value} (h : Mem w S M) (hi : S[i]? = some a) (hD : Did a.g a.v w s' ms out w') :
    ∃ v' l, Mem w' (S.set i ⟨a.g, s', v'⟩) (M ++ l) ∧ l.map Prod.fst = ms ∧ w'.ownsRow w.heap.size 34 9 out l.length (msgs l) := by
  obtain ⟨⟨v', base, h1, ⟨l, hl1, hl2, hl3⟩, h3, h4, h5⟩, h6⟩ := hD
  have ha := List.mem_of_getElem? hi
  obtain ⟨v'', hM, -⟩ := h.turned hi ⟨⟨v', h1, h5⟩, h6⟩
  -- the server's slice is what its struct holds
  have hv : v'' = v' := by
    have e1 := (hM.is ⟨a.g, s', v''⟩ (List.mem_of_getElem? (i := i) (by rw [List.getElem?_set_self (List.getElem?_eq_some_iff.1 hi).1]))).blk
    rw [h1.blk] at e1
    injection e1 with e1
    injection e1 with e1 _
    have : (rc s' v')[4]? = (rc s' v'')[4]? := by rw [e1]
    simpa [rc] using this.symm
  subst hv
  refine ⟨v'', l, ⟨hM.is, ?_, hM.one, ?_⟩, hl1, own_base hl2 h3⟩
  · intro p hp
    rcases List.mem_append.1 hp with hp | hp
    · exact hM.lies p hp
    · exact own_base (hl3 p hp) (Nat.zero_le _)
  · intro b hb p hp k hk e
    rcases List.mem_append.1 hp with hp | hp
    · exact hM.apart b hb p hp k hk e
    · have hge := own_ge (hl3 p hp) hk
      obtain ⟨j, hj⟩ := List.getElem?_of_mem hb
      rcases set_at hj with ⟨_, rfl⟩ | ⟨hne, hj2⟩
      · have := h4 k e; omega
      · have := (h.is b (List.mem_of_getElem? hj2)).own_lt e; omega
/-- a new server -/
theorem Mem.new {w w' : World} {S : List At} {M : List (Msg × Value)} {g : Nat} {s : Srv} {v : Value} (h : Mem w S M) (hB : Below w.heap.size w w') (hg : w.heap.size ≤ g) (hI : Is w' g s v) (hv : ∀ k, v.ownBlock = some k → w.heap.size ≤ k) : Mem w' (S ++ [⟨g, s, v⟩]) M := by
  have h1 := h.below hB
  refine ⟨?_, h1.lies, ?_, ?_⟩
  · intro a ha
    rcases List.mem_append.1 ha with ha | ha
    · exact h1.is a ha
    · simp only [List.mem_singleton] at ha; subst ha; exact hI
  · intro i j a b hi hj hne
    rw [List.getElem?_append] at hi hj
    split at hi <;> split at hj
    · exact h.one i j a b hi hj hne
    · have hja : b = ⟨g, s, v⟩ := by
        rcases hx : j - S.length with _ | n
        · rw [hx] at hj; simpa using hj.symm
        · rw [hx] at hj; simp at hj
      subst hja
      have := (h.is a (List.mem_of_getElem? hi))
      exact ⟨fun e => by have := this.lt; have e2 : a.g = g := e; omega, fun k hk e => by have := this.own_lt hk; have := hv k e; omega⟩
    · have hja : a = ⟨g, s, v⟩ := by
        rcases hx : i - S.length with _ | n
        · rw [hx] at hi; simpa using hi.symm
        · rw [hx] at hi; simp at hi
      subst hja
      have := (h.is b (List.mem_of_getElem? hj))
      exact ⟨fun e => by have := this.lt; have e2 : g = b.g := e; omega, fun k hk e => by have := this.own_lt e; have := hv k hk; omega⟩
    · exfalso
      rcases hx : i - S.length with _ | n
      · rcases hy : j - S.length with _ | m
        · omega
        · rw [hy] at hj; simp at hj
      · rw [hx] at hi; simp at hi
  · intro a ha p hp k hk e
    rcases List.mem_append.1 ha with ha | ha
    · exact h.apart a ha p hp k hk e
    · simp only [List.mem_singleton] at ha
      subst ha
      have := hv k e
      have := own_lt (h.lies p hp) hk
      omega
theorem Mem.nil (w : World) : Mem w [] [] := ⟨by simp, by simp, by simp, by simp⟩
theorem Mem.fewer {w : World} {S : List At} {M M' : List (Msg × Value)} (h : Mem w S M) (hs : ∀ p ∈ M', p ∈ M) : Mem w S M' := ⟨h.is, fun p hp => h.lies p (hs p hp), h.one, fun a ha p hp => h.apart a ha p (hs p hp)⟩
end Rf
end Go.Proofs.Ytdacdkidjgbdoaa
