/-
  THE LAW OF SECRETS, plainly: two runs whose inputs are the same but for secrets, and that tell the same.
-/
import Derived.Test.YtoabiignjkcdmaaGreatRunX
namespace Go.Proofs.YtoabiignjkcdmaaGreat
open Go.RowKit
set_option linter.unusedVariables false
set_option linter.unusedSimpArgs false

def handZ : SHanded := ⟨false, false, false, 0, 0⟩
def numsOf (l : List SHanded) : List SHanded := l.filter fun h => !h.buf
def bufsOf (l : List SHanded) : List SHanded := l.filter fun h => h.buf
def secNum (l : List SHanded) (n : Nat) : Bool := ((numsOf l).getD n handZ).sec
def secBuf (l : List SHanded) (n : Nat) : Bool := ((bufsOf l).getD n handZ).sec
def bsZ : ByteArray := ⟨#[]⟩
/-- Two inputs, the same but for secrets. -/
structure LikeIn (l : List SHanded) (i j : SIn) : Prop where
  nl : i.nums.length = j.nums.length
  bl : i.bufs.length = j.bufs.length
  n : ∀ k, secNum l k = false → i.nums.getD k 0 = j.nums.getD k 0
  z : ∀ k, (i.bufs.getD k bsZ).size = (j.bufs.getD k bsZ).size
  b : ∀ k, secBuf l k = false → i.bufs.getD k bsZ = j.bufs.getD k bsZ
theorem LikeIn.refl (l : List SHanded) (i : SIn) : LikeIn l i i := ⟨rfl, rfl, fun _ _ => rfl, fun _ => rfl, fun _ _ => rfl⟩

theorem headD_getD {α : Type} (l : List α) (d : α) : l.headD d = l.getD 0 d := by cases l <;> rfl
theorem tail_getD {α : Type} (l : List α) (d : α) (k : Nat) : l.tail.getD k d = l.getD (k + 1) d := by cases l <;> rfl
theorem bytesI_len (b : ByteArray) : (bytesI b).length = b.size := by
  unfold bytesI
  rw [List.length_map]
  rfl
theorem layIn_pub (p : SIr) : ∀ (l : List SHanded) (hl : ∀ h ∈ l, handS p h = true) (ns ns' : List Int) (bs bs' : List ByteArray) (m m' : SM), m.pub p.sec = m'.pub p.sec →
    (∀ k, secNum l k = false → ns.getD k 0 = ns'.getD k 0) → (∀ k, (bs.getD k bsZ).size = (bs'.getD k bsZ).size) → (∀ k, secBuf l k = false → bs.getD k bsZ = bs'.getD k bsZ) →
    (layIn l ns bs m).pub p.sec = (layIn l ns' bs' m').pub p.sec
  | [], _, _, _, _, _, _, _, h, _, _, _ => h
  | h :: l, hl, ns, ns', bs, bs', m, m', hm, hn, hz, hb => by
    have hh := hl h (by simp)
    have hlen : m.handed.length = m'.handed.length := by
      have := congrArg (fun m : SM => m.handed.length) hm
      simpa [SM.pub] using this
    have hv : mask p.sec m.v = mask p.sec m'.v := congrArg SM.v hm
    have hha : m.handed.map SObj.pub = m'.handed.map SObj.pub := congrArg SM.handed hm
    have q := PE.of hm
    unfold layIn
    by_cases hbuf : h.buf = true
    · rw [if_pos hbuf, if_pos hbuf]
      have hB : ∀ k, secBuf (h :: l) (k + 1) = secBuf l k := by intro k; unfold secBuf bufsOf; rw [List.filter_cons, if_pos hbuf]; rfl
      have hB0 : secBuf (h :: l) 0 = h.sec := by unfold secBuf bufsOf; rw [List.filter_cons, if_pos hbuf]; rfl
      have hN : ∀ k, secNum (h :: l) k = secNum l k := by intro k; unfold secNum numsOf; rw [List.filter_cons, if_neg (by simp [hbuf])]
      refine layIn_pub p l (fun x hx => hl x (by simp [hx])) ns ns' bs.tail bs'.tail _ _ ?_ ?_ ?_ ?_
      · have s0 := hz 0
        have b0 := hb 0
        rw [← headD_getD, ← headD_getD] at s0 b0
        rw [hB0] at b0
        refine PE.to ⟨?_, ?_, q.a, q.l, q.t, q.z, q.f, q.e, q.p, q.s, q.o⟩
        · show mask p.sec ((m.v.set h.d.toNat (bufBase + (m.handed.length : Int) * 65536)).set h.len.toNat ((bs.headD ⟨#[]⟩).size : Int)) = mask p.sec ((m'.v.set h.d.toNat (bufBase + (m'.handed.length : Int) * 65536)).set h.len.toNat ((bs'.headD ⟨#[]⟩).size : Int))
          rw [mask_set, mask_set, mask_set, mask_set, hv, hlen, show (bs.headD ⟨#[]⟩).size = (bs'.headD ⟨#[]⟩).size from s0]
        · show (m.handed ++ [_]).map SObj.pub = (m'.handed ++ [_]).map SObj.pub
          rw [List.map_append, List.map_append, hha, hlen]
          congr 1
          simp only [List.map_cons, List.map_nil]
          congr 1
          unfold SObj.pub
          cases hs : h.sec with
          | true =>
            simp only [if_true, bytesI_len]
            rw [show (bs.headD ⟨#[]⟩).size = (bs'.headD ⟨#[]⟩).size from s0]
          | false =>
            rw [show bs.headD ⟨#[]⟩ = bs'.headD ⟨#[]⟩ from b0 hs]
      · intro k hk
        exact hn k ((hN k).trans hk)
      · intro k
        rw [tail_getD, tail_getD]
        exact hz (k + 1)
      · intro k hk
        rw [tail_getD, tail_getD]
        exact hb (k + 1) ((hB k).trans hk)
    · rw [if_neg hbuf, if_neg hbuf]
      have hbuf' : h.buf = false := by simpa using hbuf
      have hB : ∀ k, secBuf (h :: l) k = secBuf l k := by intro k; unfold secBuf bufsOf; rw [List.filter_cons, if_neg hbuf]
      have hN : ∀ k, secNum (h :: l) (k + 1) = secNum l k := by intro k; unfold secNum numsOf; rw [List.filter_cons, if_pos (by simp [hbuf'])]; rfl
      have hN0 : secNum (h :: l) 0 = h.sec := by unfold secNum numsOf; rw [List.filter_cons, if_pos (by simp [hbuf'])]; rfl
      refine layIn_pub p l (fun x hx => hl x (by simp [hx])) ns.tail ns'.tail bs bs' _ _ ?_ ?_ ?_ ?_
      · refine PE.to ⟨?_, q.h, q.a, q.l, q.t, q.z, q.f, q.e, q.p, q.s, q.o⟩
        show mask p.sec (m.v.set h.d.toNat (ns.headD 0)) = mask p.sec (m'.v.set h.d.toNat (ns'.headD 0))
        rw [mask_set, mask_set, hv]
        cases hs : h.sec with
        | true =>
          have hd : p.sec.getD h.d.toNat false = true := by
            unfold handS at hh
            simp only [Bool.and_eq_true, beq_iff_eq, hbuf', hs] at hh
            have := hh.1.2
            unfold secS at this
            simpa using this
          rw [if_pos hd, if_pos hd]
        | false =>
          have := hn 0 (hN0.trans hs)
          rw [headD_getD, headD_getD, this]
      · intro k hk
        rw [tail_getD, tail_getD]
        exact hn (k + 1) ((hN k).trans hk)
      · exact hz
      · intro k hk
        exact hb k ((hB k).trans hk)
theorem layIn_told : ∀ (l : List SHanded) (ns : List Int) (bs : List ByteArray) (m : SM), (layIn l ns bs m).handed.map SObj.sec = m.handed.map SObj.sec ++ (bufsOf l).map SHanded.sec
  | [], _, _, m => by simp [layIn, bufsOf]
  | h :: l, ns, bs, m => by
    unfold layIn
    by_cases hbuf : h.buf = true
    · rw [if_pos hbuf, layIn_told l]
      simp only [List.map_append, List.map_cons, List.map_nil, bufsOf, List.filter_cons, hbuf, if_true, List.append_assoc, List.singleton_append]
    · rw [if_neg hbuf, layIn_told l]
      simp only [bufsOf, List.filter_cons, hbuf, if_false]
      rfl

/-! ### Which objects are secret stays -/
def hsec (m : SM) : List Bool := m.handed.map SObj.sec
theorem modify_sec (f : SObj → SObj) (hf : ∀ x, (f x).sec = x.sec) : ∀ (xs : List SObj) (i : Nat), (xs.modify i f).map SObj.sec = xs.map SObj.sec
  | [], i => by cases i <;> rfl
  | x :: xs, 0 => by simp [List.modify_zero_cons, hf]
  | x :: xs, i + 1 => by simp [List.modify_succ_cons, modify_sec f hf xs i]
theorem opM_sec (m : SM) (o : SOp) : hsec (opM m o).sm = hsec m := by
  refine opM_ind (P := fun r => hsec r.sm = hsec m) m o ?_ ?_ ?_ ?_ ?_ ?_ ?_ ?_ ?_ ?_ ?_ ?_ ?_ <;> intro h
  · rfl
  · rfl
  · rfl
  · unfold loadS
    split
    · rfl
    · split <;> rfl
  · unfold storeS
    split
    · rename_i i _
      exact modify_sec (fun x => x.put (m.get o.a - x.at') (m.get o.b % 256)) (fun _ => rfl) m.handed i
    · split <;> rfl
  · split <;> rfl
  · split <;> rfl
  · split <;> rfl
  · unfold allocS
    split <;> rfl
  · unfold wipeS
    split <;> rfl
  · unfold freeS
    split <;> rfl
  · rfl
  · rfl
theorem pay_sec (m : SM) (n : Int) : hsec (payS m n).sm = hsec m := by
  unfold payS
  split <;> rfl
theorem step_sec (m : SM) (o : SOp) : hsec (stepS m o).sm = hsec m := by
  have h := pay_sec m (costS m o)
  unfold stepS
  cases hp : payS m (costS m o) with
  | over e m' => rw [hp] at h; exact h
  | go m' =>
    rw [hp] at h
    exact (opM_sec m' o).trans h
theorem ops_sec (l : List SOp) : ∀ m, hsec (opsS l m).sm = hsec m := by
  induction l with
  | nil => intro m; rfl
  | cons o l ih =>
    intro m
    have h1 := step_sec m o
    show hsec ((stepS m o).bind (opsS l)).sm = _
    cases hs : stepS m o with
    | over e m' => rw [hs] at h1; exact h1
    | go m' =>
      rw [hs] at h1
      exact (ih m').trans h1
theorem endM_sec {b : SBlock} {m : SM} {r : Int × SM} (h : endM b m = .inr r) : hsec r.2 = hsec m := by
  unfold endM at h
  split at h
  · cases h
  · split at h
    · cases h
    · split at h <;> cases h <;> rfl
theorem goes_sec (p : SIr) : ∀ (n : Nat) (a : Int) (m : SM), hsec (goesS p n a m).2 = hsec m
  | 0, _, m => rfl
  | n + 1, a, m => by
    have ht := ops_sec (p.blk.getD a.toNat blockZ).ops m
    unfold goesS
    cases ho : opsS (p.blk.getD a.toNat blockZ).ops m with
    | over e m' => rw [ho] at ht; exact ht
    | go m' =>
      rw [ho] at ht
      have hp := pay_sec m' 1
      show hsec (match payS m' 1 with | .over e m => (e, m) | .go m => _ : Int × SM).2 = _
      cases hpay : payS m' 1 with
      | over e m2 =>
        rw [hpay] at hp
        exact hp.trans ht
      | go m2 =>
        rw [hpay] at hp
        show hsec (match endM (p.blk.getD a.toNat blockZ) m2 with | .inl a2 => goesS p n a2 m2 | .inr r => r : Int × SM).2 = _
        cases he : endM (p.blk.getD a.toNat blockZ) m2 with
        | inl a2 => exact (goes_sec p n a2 m2).trans (hp.trans ht)
        | inr r => exact (endM_sec he).trans (hp.trans ht)

/-! ### What comes of them -/
/-- Are those of two rows the same that are not secret? -/
def publicS : List SHanded → List ByteArray → List ByteArray → Bool
  | [], _, _ => true
  | h :: l, a, b => if h.buf = true then (match a, b with
      | x :: a, y :: b => (h.sec || decide (x = y)) && decide (x.size = y.size) && publicS l a b
      | _, _ => false) else publicS l a b
theorem bytesB_size (l : List Int) : (bytesB l).size = l.length := by
  unfold bytesB
  show (List.toArray _).size = _
  simp
theorem public_of : ∀ (l : List SHanded) (xs ys : List SObj), xs.map SObj.pub = ys.map SObj.pub → xs.map SObj.sec = (bufsOf l).map SHanded.sec → publicS l (xs.map fun x => bytesB x.b) (ys.map fun x => bytesB x.b) = true
  | [], _, _, _, _ => rfl
  | h :: l, xs, ys, h1, h2 => by
    unfold publicS
    by_cases hb : h.buf = true
    · rw [if_pos hb]
      have e : bufsOf (h :: l) = h :: bufsOf l := by unfold bufsOf; rw [List.filter_cons, if_pos hb]
      rw [e] at h2
      cases xs with
      | nil => cases h2
      | cons x xs =>
        cases ys with
        | nil => cases h1
        | cons y ys =>
          simp only [List.map_cons, List.cons.injEq] at h1 h2 ⊢
          have hl : x.b.length = y.b.length := by rw [← pub_len x, ← pub_len y, h1.1]
          have hs : x.sec = y.sec := by have := congrArg SObj.sec h1.1; exact this
          rw [public_of l xs ys h1.2 h2.2, bytesB_size, bytesB_size, hl]
          cases hh : h.sec with
          | true => simp
          | false =>
            have sx : x.sec = false := h2.1.trans hh
            have : x = y := by
              have e1 := pub_b sx
              have e2 := pub_b (x := y) (by rw [← hs]; exact sx)
              rw [← e1, ← e2]
              exact h1.1
            rw [this]
            simp
    · rw [if_neg hb]
      have e : bufsOf (h :: l) = bufsOf l := by unfold bufsOf; rw [List.filter_cons, if_neg hb]
      rw [e] at h2
      exact public_of l xs ys h1 h2
theorem fits_like {p : SIr} {i j : SIn} (h : LikeIn p.par i j) : fitsS p i = fitsS p j := by
  unfold fitsS
  rw [h.nl, h.bl]
  congr 1
  rw [Bool.eq_iff_iff, List.all_eq_true, List.all_eq_true]
  constructor
  · intro hh b hb
    obtain ⟨k, hk, rfl⟩ := List.getElem_of_mem hb
    have h1 := h.z k
    have h2 := hh _ (List.getElem_mem (show k < i.bufs.length by rw [h.bl]; exact hk))
    simp only [List.getD_eq_getElem?_getD, List.getElem?_eq_getElem hk, List.getElem?_eq_getElem (show k < i.bufs.length by rw [h.bl]; exact hk), Option.getD_some] at h1
    rw [← h1]
    exact h2
  · intro hh b hb
    obtain ⟨k, hk, rfl⟩ := List.getElem_of_mem hb
    have h1 := h.z k
    have h2 := hh _ (List.getElem_mem (show k < j.bufs.length by rw [← h.bl]; exact hk))
    simp only [List.getD_eq_getElem?_getD, List.getElem?_eq_getElem hk, List.getElem?_eq_getElem (show k < j.bufs.length by rw [← h.bl]; exact hk), Option.getD_some] at h1
    rw [h1]
    exact h2
/-- THE LAW OF SECRETS. -/
theorem secret_law (p : SIr) (hc : checkS p = true) (hfn : ∀ b ∈ p.blk, ∀ o ∈ b.ops, 0 ≤ o.fn) (i j : SIn) (hl : LikeIn p.par i j) (arena fuel : Int) :
    (tellsS p = false → (runS p i arena fuel).2 = (runS p j arena fuel).2) ∧
    ((runS p i arena fuel).2 = 0 → (runS p j arena fuel).2 = 0 → (runS p i arena fuel).1.told = (runS p j arena fuel).1.told →
      (runS p i arena fuel).1.en = (runS p j arena fuel).1.en ∧ (runS p i arena fuel).1.trap = (runS p j arena fuel).1.trap ∧ (runS p i arena fuel).1.steps = (runS p j arena fuel).1.steps ∧
      (runS p i arena fuel).1.bufs.length = i.bufs.length ∧ publicS p.par (runS p i arena fuel).1.bufs (runS p j arena fuel).1.bufs = true) := by
  have hmay : mayRun p i arena fuel = mayRun p j arena fuel := by unfold mayRun; rw [fits_like hl]
  cases hm : mayRun p i arena fuel with
  | false =>
    have hm2 : mayRun p j arena fuel = false := hmay ▸ hm
    rw [runS_no hm, runS_no hm2]
    exact ⟨fun _ => rfl, fun h => absurd h (by decide)⟩
  | true =>
    have hm2 : mayRun p j arena fuel = true := hmay ▸ hm
    have hpar : ∀ h ∈ p.par, handS p h = true := by
      unfold checkS headS paramsS at hc
      simp only [Bool.and_eq_true, List.all_eq_true] at hc
      exact hc.1.1.2.1.1
    have hF : ∀ b ∈ p.blk, (∀ o ∈ b.ops, Flow p o) ∧ endS p b = true := by
      unfold checkS at hc
      simp only [Bool.and_eq_true, List.all_eq_true] at hc
      intro b hb
      have h1 := hc.2 b hb
      unfold blockS at h1
      simp only [Bool.and_eq_true, List.all_eq_true] at h1
      exact ⟨fun o ho => flow_of (h1.2 o ho) (hfn b hb o ho), h1.1⟩
    have hbeg : (beginS p i arena fuel).pub p.sec = (beginS p j arena fuel).pub p.sec := layIn_pub p p.par hpar _ _ _ _ _ _ rfl hl.n hl.z hl.b
    have hsec1 : hsec (beginS p i arena fuel) = (bufsOf p.par).map SHanded.sec := by
      have := layIn_told p.par i.nums i.bufs (mZ p arena fuel)
      simpa [hsec, beginS, mZ] using this
    have hfit : i.bufs.length = (bufsOf p.par).length := by
      unfold mayRun fitsS at hm
      simp only [Bool.and_eq_true, decide_eq_true_eq] at hm
      exact hm.1.1.1.1.2.1.2
    have r1 : runS p i arena fuel = endS' (goesS p (fuel.toNat + 2) 0 (beginS p i arena fuel)) := by unfold runS; rw [if_pos hm]
    have r2 : runS p j arena fuel = endS' (goesS p (fuel.toNat + 2) 0 (beginS p j arena fuel)) := by unfold runS; rw [if_pos hm2]
    have hgs := goes_sec p (fuel.toNat + 2) 0 (beginS p i arena fuel)
    have hg := goes_same hF (fuel.toNat + 2) 0 _ _ hbeg
    rw [r1, r2]
    generalize goesS p (fuel.toNat + 2) 0 (beginS p i arena fuel) = a at hg hgs
    generalize goesS p (fuel.toNat + 2) 0 (beginS p j arena fuel) = b at hg
    obtain ⟨ea, ma⟩ := a
    obtain ⟨eb, mb⟩ := b
    have ez : ∀ (e : Int) (m : SM), (endS' (e, m)).2 = e := by
      intro e m
      unfold endS'
      simp only
      split
      · rename_i h; exact h.symm
      · rfl
    have e0 : ∀ (m : SM), endS' (0, m) = (outS m, 0) := fun m => rfl
    rcases hg with ⟨g1, g2⟩ | ⟨g1, g2⟩
    · simp only at g1 g2
      subst g1
      refine ⟨fun _ => by rw [ez, ez], fun h1 h2 ht => ?_⟩
      rw [ez] at h1
      subst h1
      rw [e0, e0]
      have q1 : ma.handed.map SObj.pub = mb.handed.map SObj.pub := congrArg SM.handed g2
      have q2 : ma.handed.map SObj.sec = (bufsOf p.par).map SHanded.sec := hgs.trans hsec1
      refine ⟨?_, ?_, ?_, ?_, ?_⟩
      · have := congrArg SM.en g2; exact this
      · have := congrArg SM.trap g2; exact this
      · have := congrArg SM.steps g2; exact this
      · show (ma.handed.map _).length = _
        rw [List.length_map, hfit, ← List.length_map (f := SHanded.sec), ← q2, List.length_map]
      · exact public_of p.par _ _ q1 q2
    · refine ⟨fun h => absurd g1 (by rw [h]; decide), fun h1 h2 ht => ?_⟩
      rw [ez] at h1 h2
      subst h1
      subst h2
      exact absurd ht g2.ne
end Go.Proofs.YtoabiignjkcdmaaGreat
