/- Regions of the loaded code over ghost heaps, those whose order is drawn as well as the others. Nothing here is a statement on the program. -/
import Derived.Test.YtkcgphbgbibhfaaG12
namespace Go.Proofs.Ytkcgphbgbibhfaa.GW
open Go
set_option linter.unusedVariables false
set_option linter.unusedSimpArgs false

/-- the model's state is one of those that are known -/
structure Rel (N : Nat) (h0 : GH) (w0 : World) (e : GEnv) (h : GH) (a : Act) (w : World) : Prop where
  env : ESub e a.tmps
  size : a.tmps.size = N
  defers : a.defers = []
  sub : Sub h w
  step : Step h0 w0 h w

theorem ESub.set {e : GEnv} {tmps : Array Value} (s : ESub e tmps) {d : Nat} (hd : d < tmps.size) {g : GV} {v : Value} (hv : ∀ u, g = .val u → v = u) (hs : g = .skip → v = undef) : ESub (setE e d g) (tmps.setIfInBounds d v) := by
  constructor
  · intro i u hu
    by_cases hi : i = d
    · subst hi; rw [setE_same] at hu; rw [hv u hu]; simp [hd]
    · rw [setE_ne _ _ hi] at hu; simp [Array.getElem?_setIfInBounds_ne (Ne.symm hi), s.val i u hu]
  · intro i hu
    by_cases hi : i = d
    · subst hi; rw [setE_same] at hu; rw [hs hu]; simp [hd]
    · rw [setE_ne _ _ hi] at hu; simp [Array.getElem?_setIfInBounds_ne (Ne.symm hi), s.skip i hu]

theorem Rel.put {N : Nat} {h0 h : GH} {w0 w : World} {e : GEnv} {a : Act} (r : Rel N h0 w0 e h a w) {d : Option Tmp} (hd : ∀ k, d = some k → k < N) {g : GV} {v : Value} (hv : ∀ u, g = .val u → v = u) (hs : g = .skip → v = undef) {h' : GH} {w' : World}
    (s' : Sub h' w') (st : Step h w h' w') : Rel N h0 w0 (setD e d g) h' (a.put d v) w' := by
  cases d with
  | none => exact ⟨r.env, r.size, r.defers, s', r.step.trans st⟩
  | some d =>
    refine ⟨r.env.set (by rw [r.size]; exact hd d rfl) hv hs, ?_, r.defers, s', r.step.trans st⟩
    simp [Act.put, r.size]

theorem wanted_of_gst {ops : Array Oper} {o : Oper} {e : GEnv} {tmps : Array Value} (he : ESub e tmps) {b : Bool} (h : gst ops o e = some b) : Region.wanted o (yielded ops tmps) = b := by
  unfold gst at h
  unfold Region.wanted
  split at h
  · rename_i hg; cases h; simp only [hg]
  · rename_i j want hg
    simp only [hg]
    split at h
    · rename_i d hd
      split at h
      · rename_i he'
        cases h
        simp only [yielded, hd, Option.bind_some, he.skip d he', undef]
        simp
      · rename_i b' he'
        cases h
        simp only [yielded, hd, Option.bind_some, he.val d _ he']
        simp
      · cases h
    · cases h

section
variable {P : Program} {ops : Array Oper} {ms : List Nat} {Qw : Exit → Act → World → Prop} {N : Nat} {h0 : GH} {w0 : World}

/-- an operation that is wanted -/
theorem gop_wp {o : Oper} {e : GEnv} {h : GH} {a : Act} {w : World} {K : Value → GH → Prop} (r : Rel N h0 w0 e h a w) (hd : ∀ k, o.dst = some k → k < N) (g : gop P o.op e h K) (next : Act → World → Prop)
    (hn : ∀ v h' a' w', K v h' → Rel N h0 w0 (setD e o.dst (.val v)) h' a' w' → next a' w') : o.wp P a w next Qw := by
  unfold Oper.wp
  rcases gop_out r.env r.sub g with ⟨v, w', h', hr, s', st, k⟩ | ⟨w', h', hr, s', st, k⟩ | ⟨f, args, hr, t⟩
  · rw [hr, Oper.upon_value]
    exact hn v h' _ _ k (r.put hd (fun u hu => by cases hu; rfl) (fun hu => by cases hu) s' st)
  · rw [hr, Oper.upon_skip]
    exact hn undef h' _ _ k (r.put hd (fun u hu => by cases hu; rfl) (fun hu => by cases hu) s' st)
  · rw [hr, Oper.upon_enter]
    refine (t.calls w r.sub).mono fun e' w' ⟨v, h', he, hs, hst, hk⟩ => ?_
    subst he
    exact hn v h' _ _ hk (r.put hd (fun u hu => by cases hu; rfl) (fun hu => by cases hu) hs hst)

theorem gxe_wpOp {i : Nat} {o : Oper} (hi : ops[i]? = some o) {e : GEnv} {h : GH} {lds : Lds} {K : GEnv → GH → Lds → Prop} {a : Act} {w : World} (r : Rel N h0 w0 e h a w) (hd : ∀ k, o.dst = some k → k < N)
    (g : gxe P ops ms i o e h lds K) {next : Act → World → Prop} (hn : ∀ e' h' l' a' w', K e' h' l' → Rel N h0 w0 e' h' a' w' → next a' w') : wpOp P ops Qw i next a w := by
  unfold wpOp
  simp only [hi]
  unfold gxe at g
  cases hg : gst ops o e with
  | none => simp only [hg] at g
  | some b =>
    simp only [hg] at g
    rw [wanted_of_gst r.env hg]
    cases b with
    | false =>
      simp only [Bool.false_eq_true, if_false]
      exact hn _ _ _ _ _ g (r.put hd (fun u hu => by cases hu) (fun _ => rfl) r.sub (.refl _ _))
    | true =>
      simp only [if_true]
      left
      simp only at g
      cases hc : cls o.op with
      | none => simp only [hc] at g
      | load =>
        simp only [hc] at g
        obtain ⟨t, x, p, n, gg, v, h1, h2, h3, h4, g⟩ := g
        exact gop_wp r hd (K := fun u h' => u = v ∧ h' = h) (by rw [h1]; exact gop_load_mk h2 h3 h4 ⟨rfl, rfl⟩) next fun u h' a' w' q r' => by obtain ⟨rfl, rfl⟩ := q; exact hn _ _ _ _ _ g r'
      | write => simp only [hc] at g; exact gop_wp r hd g next fun v h' a' w' q r' => hn _ _ _ _ _ q.2 r'
      | pure => simp only [hc] at g; exact gop_wp r hd g next fun v h' a' w' q r' => hn _ _ _ _ _ q r'
      | alloc => simp only [hc] at g; exact gop_wp r hd g next fun v h' a' w' q r' => hn _ _ _ _ _ q r'

theorem ldsOk_perm {i : Nat} {h : GH} {l l' : Lds} (p : List.Perm l l') : ldsOk ms i h l → ldsOk ms i h l' := by
  induction p with
  | nil => exact id
  | cons x _ ih => intro q; exact ⟨q.1, ih q.2⟩
  | swap x y l => intro q; exact ⟨q.2.1, q.1, q.2.2⟩
  | trans _ _ ih1 ih2 => exact fun q => ih2 (ih1 q)

theorem gdr_perm {Q : GEnv → GH → Prop} : ∀ (c : List Nat) (e : GEnv) (h : GH) (l l' : Lds), List.Perm l l' → gdr P ops ms c e h l Q → gdr P ops ms c e h l' Q := by
  intro c
  induction c with
  | nil => intro e h l l' _ g; exact g
  | cons i c ih =>
    intro e h l l' p g
    simp only [gdr] at g ⊢
    split at g
    · exact g.elim
    · rename_i o ho
      unfold gxe at g ⊢
      cases hg : gst ops o e with
      | none => simp only [hg] at g
      | some b =>
        simp only [hg] at g ⊢
        cases b with
        | false => exact ih _ _ _ _ p g
        | true =>
          simp only at g ⊢
          cases hc : cls o.op with
          | none => simp only [hc] at g
          | load => simp only [hc] at g ⊢; obtain ⟨t, x, q, n, gg, v, h1, h2, h3, h4, g⟩ := g; exact ⟨t, x, q, n, gg, v, h1, h2, h3, h4, ih _ _ _ _ (p.cons _) g⟩
          | write => simp only [hc] at g ⊢; exact gop_mono g fun v h' q => ⟨ldsOk_perm p q.1, ih _ _ _ _ p q.2⟩
          | pure => simp only [hc] at g ⊢; exact gop_mono g fun v h' q => ih _ _ _ _ p q
          | alloc => simp only [hc] at g ⊢; exact gop_mono g fun v h' q => ih _ _ _ _ p q

/-- One that stands behind some goes ahead of them. -/
theorem gdr_pull {Q : GEnv → GH → Prop} {i : Nat} {o : Oper} (hi : ops[i]? = some o) : ∀ (xs ys : List Nat), (∀ x ∈ xs, (ms.getD i 0).testBit x = false ∧ ∀ ox, ops[x]? = some ox → Indep ops ox o) →
    ∀ (e : GEnv) (h : GH) (l : Lds), (∃ w, Sub h w) → gdr P ops ms (xs ++ i :: ys) e h l Q → gdr P ops ms (i :: (xs ++ ys)) e h l Q := by
  intro xs
  induction xs with
  | nil => intro ys _ e h l _ g; exact g
  | cons x xs ih =>
    intro ys hx e h l hw g
    obtain ⟨w, s⟩ := hw
    simp only [List.cons_append, gdr] at g ⊢
    cases hox : ops[x]? with
    | none => simp only [hox] at g
    | some ox =>
      simp only [hox, hi] at g ⊢
      have g1 : gxe P ops ms x ox e h l fun e1 h1 l1 => gxe P ops ms i o e1 h1 l1 fun e2 h2 l2 => gdr P ops ms (xs ++ ys) e2 h2 l2 Q := by
        refine gxe_mono s g fun v h' l' hw' q => ?_
        have := ih ys (fun x hxx => hx x (List.mem_cons_of_mem _ hxx)) _ _ _ hw' q
        simp only [gdr, hi] at this
        exact this
      obtain ⟨hb, hind⟩ := hx x (by simp)
      exact gxe_swap (hind ox hox) hb s (fun e h l l' p q => gdr_perm _ _ _ _ _ p q) g1

/-! ### the static looks -/
def predsOf (o : Oper) : List Nat := (o.after.toList.filter (Region.binds .any)).map (·.on)

def memN (x : Nat) : List Nat → Bool
  | [] => false
  | y :: l => match Nat.beq x y with | true => true | false => memN x l

theorem memN_iff {x : Nat} : ∀ {l : List Nat}, memN x l = true ↔ x ∈ l := by
  intro l
  induction l with
  | nil => simp [memN]
  | cons y l ih =>
    simp only [memN, List.mem_cons]
    cases h : Nat.beq x y with
    | true => simp [Nat.eq_of_beq_eq_true h]
    | false =>
      have : x ≠ y := by rintro rfl; simp at h
      simp [this, ih]

def notN (x : Nat) (l : List Nat) : Bool := !memN x l

theorem notN_iff {x : Nat} {l : List Nat} : notN x l = true ↔ x ∉ l := by
  unfold notN
  rw [← memN_iff]; simp

def indepB (ops : Array Oper) (ox oi : Oper) : Bool :=
  (match ox.dst with | none => true | some d => notN d (uses oi.op) && (notN d (guardSlot ops oi) && (match oi.dst with | none => true | some k => !Nat.beq k d))) &&
  ((match oi.dst with | none => true | some d => notN d (uses ox.op) && notN d (guardSlot ops ox)) && classB (cls ox.op) (cls oi.op))

theorem indepB_spec {ox oi : Oper} (h : indepB ops ox oi = true) : Indep ops ox oi := by
  unfold indepB at h
  simp only [Bool.and_eq_true] at h
  obtain ⟨h1, h2, h3⟩ := h
  refine ⟨fun d hd => ?_, fun d hd => ?_, h3⟩
  · simp only [hd, Bool.and_eq_true, notN_iff] at h1
    refine ⟨h1.1, h1.2.1, fun hk => ?_⟩
    have := h1.2.2
    simp [hk] at this
  · simp only [hd, Bool.and_eq_true, notN_iff] at h2
    exact h2

def pairB (ops : Array Oper) (ms : List Nat) (x i : Nat) : Bool :=
  match (ms.getD i 0).testBit x with
  | true => true
  | false => match ops[x]?, ops[i]? with | some ox, some oi => indepB ops ox oi | _, _ => false

def maskOf (ms : List Nat) (o : Oper) : Nat := (predsOf o).foldl (fun m y => m ||| (1 <<< y) ||| ms.getD y 0) 0

def pairsB (ops : Array Oper) (ms : List Nat) : List Nat → Bool
  | [] => true
  | x :: r => r.all (pairB ops ms x) && pairsB ops ms r

def orderB (ops : Array Oper) : List Nat → Bool
  | [] => true
  | i :: r => (match ops[i]? with | some o => (predsOf o).all (fun y => notN y r) | none => false) && orderB ops r

def masksB (ops : Array Oper) (ms : List Nat) : Bool :=
  (List.range ops.size).all fun i => match ops[i]? with | some o => Nat.beq (ms.getD i 0) (maskOf ms o) && (predsOf o).all (fun y => Nat.blt y i) | none => false

def nodupB : List Nat → Bool
  | [] => true
  | x :: r => notN x r && nodupB r

theorem nodupB_spec : ∀ {c : List Nat}, nodupB c = true → c.Nodup := by
  intro c
  induction c with
  | nil => intro _; exact List.nodup_nil
  | cons x c ih =>
    intro h
    simp only [nodupB, Bool.and_eq_true, notN_iff] at h
    exact List.nodup_cons.2 ⟨h.1, ih h.2⟩

def drawB (ops : Array Oper) (c ms : List Nat) : Bool :=
  (List.range ops.size).all (fun i => memN i c) && ((Nat.beq c.length ops.size && (nodupB c && c.all (fun i => Nat.blt i ops.size))) && (orderB ops c && (masksB ops ms && pairsB ops ms c)))

theorem mask_bit {o : Oper} {x : Nat} (h : (maskOf ms o).testBit x = true) : ∃ y ∈ predsOf o, y = x ∨ (ms.getD y 0).testBit x = true := by
  unfold maskOf at h
  have key : ∀ (l : List Nat) (m : Nat), (l.foldl (fun m y => m ||| (1 <<< y) ||| ms.getD y 0) m).testBit x = true → m.testBit x = true ∨ ∃ y ∈ l, y = x ∨ (ms.getD y 0).testBit x = true := by
    intro l
    induction l with
    | nil => intro m hm; exact .inl hm
    | cons y l ih =>
      intro m hm
      simp only [List.foldl_cons] at hm
      rcases ih _ hm with q | ⟨z, hz, q⟩
      · simp only [Nat.testBit_or, Bool.or_eq_true] at q
        rcases q with (q | q) | q
        · exact .inl q
        · right; refine ⟨y, by simp, .inl ?_⟩
          rw [Nat.one_shiftLeft, Nat.testBit_two_pow] at q
          simpa using q
        · right; exact ⟨y, by simp, .inr q⟩
      · right; exact ⟨z, List.mem_cons_of_mem _ hz, q⟩
  rcases key _ _ h with q | q
  · simp at q
  · exact q

theorem getD_both {l : Array Bool} {i : Nat} (h : i < l.size) : l.getD i true = l.getD i false := by
  simp [Array.getD, h]

theorem mem_preds {o : Oper} {y : Nat} : y ∈ predsOf o ↔ ∃ e ∈ o.after, Region.binds .any e = true ∧ e.on = y := by
  unfold predsOf
  simp only [List.mem_map, List.mem_filter, Array.mem_toList_iff]
  constructor
  · rintro ⟨e, ⟨h1, h2⟩, h3⟩; exact ⟨e, h1, h2, h3⟩
  · rintro ⟨e, h1, h2, h3⟩; exact ⟨e, ⟨h1, h2⟩, h3⟩

theorem masks_all (hmask : masksB ops ms = true) {i : Nat} {o : Oper} (ho : ops[i]? = some o) : ms.getD i 0 = maskOf ms o ∧ ∀ y ∈ predsOf o, y < i := by
  have hi : i < ops.size := (Array.getElem?_eq_some_iff.1 ho).1
  have := List.all_eq_true.1 hmask i (by simpa using hi)
  simp only [ho, Bool.and_eq_true, List.all_eq_true] at this
  exact ⟨Nat.eq_of_beq_eq_true this.1, fun y hy => by have := this.2 y hy; exact Nat.le_of_ble_eq_true this⟩

/-- what stands ahead of one whose forerunners are all done is done -/
theorem done_of_bit (hmask : masksB ops ms = true) {listed : Array Bool} (hcl : ∀ i o, ops[i]? = some o → listed.getD i false = true → ∀ y ∈ predsOf o, listed.getD y false = true) {x : Nat} :
    ∀ (n i : Nat) (o : Oper), i ≤ n → ops[i]? = some o → (∀ y ∈ predsOf o, listed.getD y false = true) → (ms.getD i 0).testBit x = true → listed.getD x false = true := by
  intro n
  induction n with
  | zero =>
    intro i o hi ho hp hb
    obtain ⟨hm, hlt⟩ := masks_all hmask ho
    rw [hm] at hb
    obtain ⟨y, hy, q⟩ := mask_bit hb
    have := hlt y hy; omega
  | succ n ih =>
    intro i o hi ho hp hb
    obtain ⟨hm, hlt⟩ := masks_all hmask ho
    rw [hm] at hb
    obtain ⟨y, hy, q⟩ := mask_bit hb
    have hyl := hlt y hy
    rcases q with rfl | q
    · exact hp _ hy
    · have hi' : i < ops.size := (Array.getElem?_eq_some_iff.1 ho).1
      have hoy : ops[y]? = some ops[y] := Array.getElem?_eq_getElem (by omega)
      exact ih y _ (by omega) hoy (hcl y _ hoy (hp y hy)) q

/-- In whatever order. -/
theorem gdr_any {Q : GEnv → GH → Prop} (hmask : masksB ops ms = true) (hdst : ∀ (i : Nat) (o : Oper) (k : Nat), ops[i]? = some o → o.dst = some k → k < N) (hQ : ∀ e h a w, Q e h → Rel N h0 w0 e h a w → Qw .normal a w) :
    ∀ (fuel : Nat) (listed : Array Bool) (c : List Nat) (e : GEnv) (h : GH) (l : Lds) (a : Act) (w : World),
      c.length ≤ fuel → c.Nodup → (∀ i, i ∈ c ↔ i < ops.size ∧ listed.getD i false = false) → listed.size = ops.size →
      (∀ (i : Nat) (o : Oper), ops[i]? = some o → listed.getD i false = true → ∀ y ∈ predsOf o, listed.getD y false = true) →
      c.Pairwise (fun x i => pairB ops ms x i = true) → c.Pairwise (fun i x => ∀ o : Oper, ops[i]? = some o → x ∉ predsOf o) →
      Rel N h0 w0 e h a w → gdr P ops ms c e h l Q → wpAny P .any ops Qw fuel listed a w := by
  have ready_mem : ∀ {listed : Array Bool} {c : List Nat} {i : Nat}, (∀ i, i ∈ c ↔ i < ops.size ∧ listed.getD i false = false) → listed.size = ops.size → i ∈ Region.ready .any ops listed → i ∈ c := by
    intro listed c i hmem hsz hi
    rw [mem_ready] at hi
    obtain ⟨h1, o, ho, _⟩ := hi
    have hlt : i < ops.size := (Array.getElem?_eq_some_iff.1 ho).1
    exact (hmem i).2 ⟨hlt, by rw [← getD_both (by omega)]; exact h1⟩
  intro fuel
  induction fuel with
  | zero =>
    intro listed c e h l a w hlen hnd hmem hsz hcl hp ho r g
    have hc : c = [] := List.eq_nil_of_length_eq_zero (by omega)
    subst hc
    refine ⟨?_, hQ e h a w g r⟩
    rw [List.eq_nil_iff_forall_not_mem]
    intro i hi
    exact absurd (ready_mem hmem hsz hi) (by simp)
  | succ fuel ih =>
    intro listed c e h l a w hlen hnd hmem hsz hcl hp ho r g
    constructor
    · intro hr
      cases c with
      | nil => exact hQ e h a w g r
      | cons i c =>
        exfalso
        have hi := (hmem i).1 (by simp)
        have hoi : ops[i]? = some ops[i] := Array.getElem?_eq_getElem hi.1
        have : i ∈ Region.ready .any ops listed := by
          rw [mem_ready]
          refine ⟨by rw [getD_both (by omega)]; exact hi.2, _, hoi, fun ed hed hb => ?_⟩
          have hpy : ed.on ∈ predsOf ops[i] := mem_preds.2 ⟨ed, hed, hb, rfl⟩
          have hlt := (masks_all hmask hoi).2 _ hpy
          cases hl : listed.getD ed.on false with
          | true => rfl
          | false =>
            have hin := (hmem ed.on).2 ⟨by omega, hl⟩
            rcases List.mem_cons.1 hin with q | q
            · omega
            · exact absurd hpy ((List.pairwise_cons.1 ho).1 _ q _ hoi)
        rw [hr] at this; cases this
    · intro i hi
      have hic := ready_mem hmem hsz hi
      obtain ⟨xs, ys, rfl⟩ := List.append_of_mem hic
      rw [mem_ready] at hi
      obtain ⟨h1, o, hoi, hpr⟩ := hi
      have hlti : i < ops.size := (Array.getElem?_eq_some_iff.1 hoi).1
      have hpr' : ∀ y ∈ predsOf o, listed.getD y false = true := by
        intro y hy
        obtain ⟨ed, hed, hb, rfl⟩ := mem_preds.1 hy
        exact hpr ed hed hb
      have g' := gdr_pull hoi xs ys (fun x hx => by
        have hxc := (hmem x).1 (by simp [hx])
        have hbit : (ms.getD i 0).testBit x = false := by
          cases hb : (ms.getD i 0).testBit x with
          | false => rfl
          | true =>
            have := done_of_bit hmask hcl i i o (Nat.le_refl _) hoi hpr' hb
            rw [hxc.2] at this; cases this
        refine ⟨hbit, fun ox hox => ?_⟩
        have hpair := (List.pairwise_append.1 hp).2.2 x hx i (by simp)
        unfold pairB at hpair
        simp only [hbit, hox, hoi] at hpair
        exact indepB_spec hpair) e h l ⟨w, r.sub⟩ g
      simp only [gdr, hoi] at g'
      refine gxe_wpOp hoi r (fun k hk => hdst i o k hoi hk) g' fun e' h' l' a' w' q r' => ?_
      have hnd' : i ∉ xs ++ ys ∧ (xs ++ ys).Nodup := by
        obtain ⟨n1, n2, n3⟩ := List.nodup_append.1 hnd
        obtain ⟨n4, n5⟩ := List.nodup_cons.1 n2
        refine ⟨fun hm => ?_, List.nodup_append.2 ⟨n1, n5, fun a ha b hb => n3 a ha b (List.mem_cons_of_mem _ hb)⟩⟩
        rcases List.mem_append.1 hm with q | q
        · exact n3 i q i (by simp) rfl
        · exact n4 q
      refine ih (listed.setIfInBounds i true) (xs ++ ys) e' h' l' a' w' ?_ hnd'.2 ?_ (by simpa using hsz) ?_ ?_ ?_ r' q
      · simp only [List.length_append, List.length_cons] at hlen ⊢; omega
      · intro k
        by_cases hki : k = i
        · subst hki
          constructor
          · intro hk; exact absurd hk hnd'.1
          · intro hk; exfalso; have := hk.2; simp [Array.getD, hsz, hlti] at this
        · rw [getD_set_ne _ (Ne.symm hki), ← hmem k]
          simp [hki]
      · intro k ok hok hk y hy
        have mono : ∀ z, listed.getD z false = true → (listed.setIfInBounds i true).getD z false = true := by
          intro z hz
          by_cases hzi : z = i
          · subst hzi; simp [Array.getD, hsz, hlti]
          · rw [getD_set_ne _ (Ne.symm hzi)]; exact hz
        by_cases hki : k = i
        · subst hki
          rw [hoi] at hok; cases hok
          exact mono y (hpr' y hy)
        · rw [getD_set_ne _ (Ne.symm hki)] at hk
          exact mono y (hcl k ok hok hk y hy)
      · exact hp.sublist (List.Sublist.append_left (List.sublist_cons_self _ _) _)
      · exact ho.sublist (List.Sublist.append_left (List.sublist_cons_self _ _) _)

theorem pairsB_spec : ∀ {c : List Nat}, pairsB ops ms c = true → c.Pairwise (fun x i => pairB ops ms x i = true) := by
  intro c
  induction c with
  | nil => intro _; exact .nil
  | cons x c ih =>
    intro h
    simp only [pairsB, Bool.and_eq_true, List.all_eq_true] at h
    exact .cons h.1 (ih h.2)

theorem orderB_spec : ∀ {c : List Nat}, orderB ops c = true → c.Pairwise (fun i x => ∀ o : Oper, ops[i]? = some o → x ∉ predsOf o) := by
  intro c
  induction c with
  | nil => intro _; exact .nil
  | cons x c ih =>
    intro h
    simp only [orderB, Bool.and_eq_true] at h
    refine .cons (fun y hy o ho => ?_) (ih h.2)
    have := h.1
    simp only [ho, List.all_eq_true] at this
    intro hm
    exact (notN_iff.1 (this y hm)) hy

/-- A region whose order is drawn. -/
theorem gdr_region {Q : GEnv → GH → Prop} {id : Nat} {c : List Nat} (hb : drawB ops c ms = true) (hm : P.follows .mixedOrders = true) (hdst : ∀ (i : Nat) (o : Oper) (k : Nat), ops[i]? = some o → o.dst = some k → k < N)
    (hQ : ∀ e h a w, Q e h → Rel N h0 w0 e h a w → Qw .normal a w) {e : GEnv} {h : GH} {a : Act} {w : World} (r : Rel N h0 w0 e h a w) (g : gdr P ops ms c e h [] Q) : (Code.region id ops true).wp P Qw a w := by
  unfold drawB at hb
  simp only [Bool.and_eq_true, List.all_eq_true, List.mem_range, memN_iff] at hb
  obtain ⟨b1, ⟨b2, b6, b7⟩, b3, b4, b5⟩ := hb
  have hlen : c.length = ops.size := Nat.eq_of_beq_eq_true b2
  refine wp_region_any hm ?_
  obtain ⟨s', st⟩ := sub_drew r.sub (w.drawn + 1)
  refine gdr_any b4 hdst hQ ops.size _ c e h [] a _ (by omega) (nodupB_spec b6) ?_ (by simp) ?_ (pairsB_spec b5) (orderB_spec b3) ⟨r.env, r.size, r.defers, s', r.step.trans st⟩ g
  · intro i
    constructor
    · intro hi
      have hlt : i < ops.size := Nat.le_of_ble_eq_true (b7 i hi)
      exact ⟨hlt, by simp [Array.getD, hlt]⟩
    · intro hi; exact b1 i hi.1
  · intro i o ho hl
    exfalso
    simp [Array.getD] at hl

end
end Go.Proofs.Ytkcgphbgbibhfaa.GW
